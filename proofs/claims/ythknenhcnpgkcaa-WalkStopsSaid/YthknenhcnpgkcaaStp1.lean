/- All, Arc with the function of WalkStops, that counts and ends at once. -/
import Derived.Test.YthknenhcnpgkcaaMv
namespace Go.Proofs.Ythknenhcnpgkcaa
open Go.RowKit Go.Shelf
set_option linter.unusedVariables false
set_option linter.unusedSimpArgs false
attribute [local go_sem] Oper.semAt_some
@[reducible] def numO (n : Nat) : Obj := .cells #[.int .i64 n] 3
theorem stop1_is (X : World) (B : Nat) (s t : ByteArray) (hB : X.heap[B]? = some (numO 0)) :
    Calls Try.prog 49 #[.string s, .string t, .pointer (some ⟨B, 0, none⟩)] X fun e X' => e = .returned (.bool false) ∧ X' = put X B (numO 1) := by
  have e1 := fun i => cell_of_row X B i _ _ (0, 0) hB
  have f1 := fun i => frozen_of hB i
  have l1 := lt_of_heap hB
  have HB := hid hB
  clear hB
  go_enter Try.func49, Try.ntmps49
  go_wp2_with fail
  rw [setCell_row HB.out]
  go_ret
  exact ⟨rfl, rfl⟩
theorem allStop_is {xs : List It} {g : Option Addr} {w : World} (h : Gives g xs w) (hn : xs.length ≤ 900) (S B : Nat) (hS : w.cell? ⟨S, 0, none⟩ = some (.pointer g)) (hB : w.heap[B]? = some (numO 0)) :
    Calls Try.prog 78 #[.func (.func 49) #[] #[.pointer (some ⟨B, 0, none⟩)], .pointer (some ⟨S, 0, none⟩)] w fun e W' => (∃ v, e = .returned v) ∧ ((xs.length = 0 ∧ Below w.heap.size w W') ∨ (xs.length ≠ 0 ∧ Below w.heap.size (put w B (numO 1)) W')) := by
  refine (walkAll1_calls h hn S hS (fen_S (fun k => k < w.heap.size)) 49 #[.pointer (some ⟨B, 0, none⟩)] (enters_of Try.func49 (by kernel_rfl) rfl)
    (fun i X => i = 0 ∧ Below w.heap.size w X) (fun i X => Below w.heap.size (put w B (numO 1)) X) (fun i X Y hX hb => ⟨hX.1, hX.2.trans (hb.mono hX.2.size)⟩) w (Below.refl _ _) (fun X r hb hr e => by omega)
    (fun i x X hx hJ => ?_) ⟨rfl, Below.refl _ _⟩).mono ?_
  · refine (stop1_is X B x.1 x.2 ((hJ.2.block _ (lt_of_heap hB)).trans hB)).mono ?_
    rintro _ _ ⟨rfl, rfl⟩
    exact .inr ⟨rfl, below_to_put hJ.2⟩
  · rintro e W' ⟨h1, h2⟩
    refine ⟨h1, ?_⟩
    rcases h2 with ⟨h2, h3⟩ | ⟨i, h2, h3⟩
    · exact .inl ⟨h2, h3⟩
    · exact .inr ⟨by omega, h3⟩
theorem arcL_none {a b : Int} {xs : List It} (h : ∀ p ∈ piecesA a b, ∀ x ∈ xs, inP p x = false) : (arcL a b xs).length = 0 := by
  rw [List.length_eq_zero_iff]
  unfold arcL
  rw [List.flatMap_eq_nil_iff]
  intro p hp
  rw [List.filter_eq_nil_iff]
  intro x hx
  rw [h p hp x hx]
  simp
theorem arcL_one {a b : Int} {xs : List It} {p : Int × Int} {x : It} (hp : p ∈ piecesA a b) (hx : x ∈ xs) (h : inP p x = true) : (arcL a b xs).length ≠ 0 := by
  have : x ∈ arcL a b xs := List.mem_flatMap.2 ⟨p, hp, List.mem_filter.2 ⟨hx, h⟩⟩
  have := List.length_pos_of_mem this
  omega
set_option maxRecDepth 100000 in
set_option maxHeartbeats 4000000 in
theorem arcStop_is {xs : List It} {g : Option Addr} {w : World} (h : Gives g xs w) (hn : xs.length ≤ 900) (hsm : ∀ x ∈ xs, x.1.size ≤ maxLen) (s B : Nat) (hS : w.heap[s]? = some (.cells #[.pointer g] 23))
    (a b : Int) (hb0 : 0 ≤ b) (hab : w.heap[s + 1]? = some (.cells #[.int .u64 a, .int .u64 b] 38)) (hB : w.heap[B]? = some (numO 0)) :
    Calls Try.prog 80 #[.func (.func 49) #[] #[.pointer (some ⟨B, 0, none⟩)], .pointer (some ⟨s, 0, none⟩), .pointer (some ⟨s + 1, 0, none⟩)] w fun e W' => (∃ v, e = .returned v) ∧ (((arcL a b xs).length = 0 ∧ Below w.heap.size w W') ∨ ((arcL a b xs).length ≠ 0 ∧ Below w.heap.size (put w B (numO 1)) W')) := by
  have hits := h w (Below.refl _ _)
  have HSM := hid hsm
  have HBX := hid hB
  have e1 := fun i => cell_of_row w s i _ _ (0, 0) hS
  have e2 := fun i => cell_of_row w (s + 1) i _ _ (0, 0) hab
  have l1 := lt_of_heap hS
  have l2 := lt_of_heap hab
  have HAB := hid hab
  have HPC := hid (pieces_cases a b)
  clear h hsm hS hab hB
  go_enter Try.func80, Try.ntmps80
  go_step3
  go_wp2_with fail
  refine hits.mono ?_
  rintro _ W1 ⟨a1, c1, rfl, hr1, hb1, hf1⟩
  obtain ⟨m, hLm⟩ : ∃ m, xs.length = m := ⟨_, rfl⟩
  have HLM := hid hLm
  have e2' := fun i => cell_of_row W1 (s + 1) i _ _ (0, 0) ((hb1.block _ l2).trans HAB.out)
  rw [hLm] at hn hr1 ⊢
  have HA := hid (hr1.src (flat_one _))
  have HB1 := hid hb1
  have l2' := Nat.lt_of_lt_of_le l2 hb1.size
  clear hLm hr1 hits hf1 e1 e2 hb1
  go_wp2_with fail
  go_step3
  go_wp2_with fail
  refine (arcPieces_is a b _).mono ?_
  rintro _ W2 ⟨r, hr, rfl, hb2, hrow2⟩
  have HA2 := hid (HA.out.heap hb2)
  have HB2 := hid (HB1.out.trans (hb2.mono HB1.out.size))
  have hrr := lt_of_heap hrow2
  have hPn := piecesA_len a b
  obtain ⟨P, hP⟩ : ∃ P, piecesA a b = P := ⟨_, rfl⟩
  have HP := hid hP
  have HP2 := hid (show ∀ p ∈ P, ¬ 0 < p.2 → p.2 = 0 from fun p hp hn => by
    rw [← hP] at hp
    rcases HPC.out with ⟨_, e⟩ | ⟨_, _, e⟩ | ⟨_, _, e⟩ <;> rw [e] at hp <;> simp at hp
    · rw [hp]
    · rw [hp] at hn ⊢; simp at hn ⊢; omega
    · rcases hp with rfl | rfl
      · rfl
      · simp at hn ⊢; omega)
  rw [hP] at hrow2 hPn ⊢
  have HR2 := hid hrow2
  obtain ⟨pn, hpn⟩ : ∃ pn, P.length = pn := ⟨_, rfl⟩
  have HPN := hid hpn
  rw [hpn] at hPn ⊢
  clear hb2 hrow2 e2' HA hP hpn HAB HB1
  go_wp2_with fail
  go_loopw [15] (fun i wr => ∃ k : Nat, k ≤ pn ∧ i = .int .i64 k ∧ Hid (Below W2.heap.size W2 wr) ∧ Hid (∀ j p, j < k → P[j]? = some p → ∀ x ∈ xs, inP p x = false)) (fun i _ => pn - (intOf i).toNat)
  case atStart => exact ⟨0, Nat.zero_le _, rfl, hid (Below.refl _ _), hid (fun j p h => by omega)⟩
  case round =>
    obtain ⟨k, hk, rfl, hbr, hnone⟩ := hrel
    by_cases hlt : k < pn
    · obtain ⟨p, hp⟩ : ∃ p, P[k]? = some p := ⟨P[k]'(by rw [HPN.out]; exact hlt), List.getElem?_eq_getElem _⟩
      have hpr := (hbr.out.block r hrr).trans HR2.out
      have hf0 : wr.cell? ⟨r, k * 2, none⟩ = some (.int .u64 p.1) := by rw [cell_of_row wr r (k * 2) _ _ (0, 0) hpr]; simpa using (flatC_at hp).1
      have hf1 : wr.cell? ⟨r, k * 2 + 1, none⟩ = some (.int .u64 p.2) := by rw [cell_of_row wr r (k * 2 + 1) _ _ (0, 0) hpr]; simpa using (flatC_at hp).2
      have hrl : r < wr.heap.size := lt_of_heap hpr
      have HPK := hid hp
      clear hp hpr
      go_wp2_with fail
      have hp6 : (wr.alloc (.cells #[.int .u64 p.1, .int .u64 p.2] 38)).heap[wr.heap.size]? = some (.cells #[.int .u64 p.1, .int .u64 p.2] 38) := heap_alloc_at _ _ _ rfl
      have hb6 : Below wr.heap.size wr (wr.alloc (.cells #[.int .u64 p.1, .int .u64 p.2] 38)) := (by repeat' (first | exact Below.refl _ _ | with_reducible assumption | omega | with_reducible refine below_put_fut ?_ ?_ _ | with_reducible refine below_to_put ?_ | with_reducible refine Below.alloc ?_ ?_ _ | with_reducible refine Below.fut ?_ ?_ _ | with_reducible refine Below.drew ?_ | with_reducible refine Below.setCell ?_ ?_ _ | with_reducible refine Below.atPut ?_ ?_ _ | (simp [go_sem]; done) | (simp [go_sem]; omega)))
      have HW6 := hid (hbr.out.trans (hb6.mono hbr.out.size))
      clear hb6
      generalize wr.alloc (.cells _ 38) = W3 at hp6 HW6 ⊢
      generalize wr.heap.size = B6 at hp6 ⊢
      have HP6 := hid hp6
      clear hf0 hf1 hrl hp6
      go_loopw [21] (fun j wx => ∃ q : Nat, q ≤ m ∧ j = .int .i64 q ∧ Hid (Below W3.heap.size W3 wx) ∧ Hid (∀ j x, j < q → xs[j]? = some x → inP p x = false)) (fun j _ => m - (intOf j).toNat)
      case atStart => exact ⟨0, Nat.zero_le _, rfl, hid (Below.refl _ _), hid (fun j x h => by omega)⟩
      case round =>
        obtain ⟨q, hq, rfl, hbx, hno⟩ := hrel
        have hp6 := (hbx.out.block _ (lt_of_heap HP6.out)).trans HP6.out
        have hwx := HW6.out.trans (hbx.out.mono HW6.out.size)
        by_cases hlt2 : q < m
        · obtain ⟨x, hx⟩ : ∃ x, xs[q]? = some x := ⟨xs[q]'(by rw [HLM.out]; exact hlt2), List.getElem?_eq_getElem _⟩
          have HQ := hid hx
          obtain ⟨ri, oi, rfl, i0, i2, i1⟩ := (show Src wr 2 (.slice a1 xs.length c1) xs.length (flat xs) by rw [HLM.out]; exact HA2.out.heap hwx).at_ q x hx
          have hri := World.block_lt_of_cell? _ _ i0
          have hsx := HSM.out x (List.mem_of_getElem? hx)
          have e6 := fun i => cell_of_row wr B6 i _ _ (0, 0) hp6
          have l6 := lt_of_heap hp6
          have HWX := hid (HB2.out.trans (hwx.mono HB2.out.size))
          clear hx hwx
          obtain ⟨ad, had⟩ : ∃ ad, addrN x.1.data.toList = ad := ⟨_, rfl⟩
          have HAD := hid (show adr x = ad by unfold adr; rw [had])
          go_wp2_with fail
          (((with_reducible refine (addr_any x.1 hsx ad had _).mono ?_)); rintro _ _ ⟨rfl, u, rfl⟩)
          have hb4 : Below wr.heap.size wr u.val := (by repeat' (first | exact Below.refl _ _ | with_reducible assumption | omega | with_reducible refine below_put_fut ?_ ?_ _ | with_reducible refine below_to_put ?_ | with_reducible refine Below.alloc ?_ ?_ _ | with_reducible refine Below.fut ?_ ?_ _ | with_reducible refine Below.drew ?_ | with_reducible refine Below.setCell ?_ ?_ _ | with_reducible refine Below.atPut ?_ ?_ _ | (simp [go_sem]; done) | (simp [go_sem]; omega)))
          have hp8 : u.val.heap[wr.heap.size]? = some (.cells #[.string x.1, .string x.2] 34) := (u.below.block _ (by simp)).trans (heap_alloc_at _ _ _ rfl)
          have e6' := fun i => cell_of_row u.val B6 i _ _ (0, 0) ((hb4.block _ l6).trans hp6)
          have l6' : B6 < u.val.heap.size := Nat.lt_of_lt_of_le l6 hb4.size
          have e8' := fun i => cell_of_row u.val wr.heap.size i _ _ (0, 0) hp8
          have l8' := lt_of_heap hp8
          have HBX5 := hid (hbx.out.trans (hb4.mono hbx.out.size))
          have HB5W := hid (HWX.out.trans (hb4.mono HWX.out.size))
          generalize u.val = W5 at hb4 hp8 e6' l6' e8' l8' HBX5 HB5W ⊢
          have HIN := hid (show inP p x = true ↔ p.1 ≤ (ad : Int) ∧ (p.2 = 0 ∨ (ad : Int) < p.2) by rw [inP_iff, HAD.out])
          by_cases g1 : (ad : Int) < p.1
          · have d1 : decide ((ad : Int) < p.1) = true := decide_eq_true g1
            have HNI := hid (show inP p x = false by rw [Bool.eq_false_iff]; intro h; have := HIN.out.1 h; omega)
            clear g1
            have HNQ := hid (show ∀ j y, j < q + 1 → xs[j]? = some y → inP p y = false from fun j y hj hy => by
              rcases Nat.lt_or_ge j q with c | c
              · exact hno.out j y c hy
              · obtain rfl : j = q := by omega
                rw [HQ.out] at hy
                cases hy
                exact HNI.out)
            go_wp2_with fail
            exact ⟨⟨q + 1, by omega, by go_num, HBX5, HNQ⟩, by simp [intOf]; omega⟩
          · have d1 : decide ((ad : Int) < p.1) = false := decide_eq_false g1
            by_cases g2 : 0 < p.2
            · have d2 : decide (0 < p.2) = true := decide_eq_true g2
              by_cases g3 : p.2 ≤ (ad : Int)
              · have d3 : decide (p.2 ≤ (ad : Int)) = true := decide_eq_true g3
                have HNI := hid (show inP p x = false by rw [Bool.eq_false_iff]; intro h; have := HIN.out.1 h; omega)
                clear g1 g2 g3
                have HNQ := hid (show ∀ j y, j < q + 1 → xs[j]? = some y → inP p y = false from fun j y hj hy => by
                  rcases Nat.lt_or_ge j q with c | c
                  · exact hno.out j y c hy
                  · obtain rfl : j = q := by omega
                    rw [HQ.out] at hy
                    cases hy
                    exact HNI.out)
                go_wp2_with fail
                exact ⟨⟨q + 1, by omega, by go_num, HBX5, HNQ⟩, by simp [intOf]; omega⟩
              · have d3 : decide (p.2 ≤ (ad : Int)) = false := decide_eq_false g3
                have HYI := hid (show inP p x = true from HIN.out.2 ⟨by omega, by omega⟩)
                clear g1 g2 g3
                go_wp2_with fail
                refine (stop1_is W5 B x.1 x.2 ((HB5W.out.block _ (lt_of_heap HBX.out)).trans HBX.out)).mono ?_
                rintro _ _ ⟨rfl, rfl⟩
                go_wp2_with fail
                rw [Exit.noGoto_normal]
                go_end0
                exact ⟨⟨_, rfl⟩, .inr ⟨arcL_one (by rw [HP.out]; exact List.mem_of_getElem? HPK.out) (List.mem_of_getElem? HQ.out) HYI.out, below_to_put HB5W.out⟩⟩
            · have d2 : decide (0 < p.2) = false := decide_eq_false g2
              have HYI := hid (show inP p x = true from HIN.out.2 ⟨by omega, .inl (HP2.out p (List.mem_of_getElem? HPK.out) (by omega))⟩)
              clear g1 g2
              go_wp2_with fail
              refine (stop1_is W5 B x.1 x.2 ((HB5W.out.block _ (lt_of_heap HBX.out)).trans HBX.out)).mono ?_
              rintro _ _ ⟨rfl, rfl⟩
              go_wp2_with fail
              rw [Exit.noGoto_normal]
              go_end0
              exact ⟨⟨_, rfl⟩, .inr ⟨arcL_one (by rw [HP.out]; exact List.mem_of_getElem? HPK.out) (List.mem_of_getElem? HQ.out) HYI.out, below_to_put HB5W.out⟩⟩
        · obtain rfl : q = m := by omega
          have HNX := hid (show ∀ j p, j < k + 1 → P[j]? = some p → ∀ x ∈ xs, inP p x = false from fun j p' hj hp x hx => by
            rcases Nat.lt_or_ge j k with c | c
            · exact hnone.out j p' c hp x hx
            · obtain rfl : j = k := by omega
              rw [HPK.out] at hp
              cases hp
              obtain ⟨i, hi⟩ := List.getElem?_of_mem hx
              have hil := (List.getElem?_eq_some_iff.1 hi).1
              rw [HLM.out] at hil
              exact hno.out i x hil hi)
          have HBW := hid hwx
          clear hp6 hwx
          go_wp2_with fail
          exact ⟨⟨k + 1, by omega, by go_num, HBW, HNX⟩, by simp [intOf]; omega⟩
    · obtain rfl : k = pn := by omega
      have HNO := hid (show (arcL a b xs).length = 0 from arcL_none fun p hp x hx => by
        rw [HP.out] at hp
        obtain ⟨i, hi⟩ := List.getElem?_of_mem hp
        have hil := (List.getElem?_eq_some_iff.1 hi).1
        rw [HPN.out] at hil
        exact hnone.out i p hil hi x hx)
      have HBE := hid (HB2.out.trans (hbr.out.mono HB2.out.size))
      go_wp2_with fail
      rw [Exit.noGoto_normal]
      go_end0
      exact ⟨⟨_, rfl⟩, .inl ⟨HNO.out, HBE.out⟩⟩
end Go.Proofs.Ythknenhcnpgkcaa
