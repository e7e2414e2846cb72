/- Arc with a function of one's own. -/
import Derived.Test.YthknenhcnpgkcaaGreatCl2
namespace Go.Proofs.YthknenhcnpgkcaaGreat
open Go.RowKit Go.Shelf
set_option linter.unusedVariables false
set_option linter.unusedSimpArgs false
attribute [local go_sem] Oper.semAt_some
set_option maxRecDepth 100000 in
set_option maxHeartbeats 4000000 in
theorem walkArc1_calls {xs : List It} {g : Option Addr} {W : World} (h : Gives g xs W) (hn : xs.length ≤ 900) (hsm : ∀ x ∈ xs, x.1.size ≤ maxLen) (s : Nat) (hS : W.heap[s]? = some (.cells #[.pointer g] 27))
    (a b : Int) (hb0 : 0 ≤ b) (hab : W.heap[s + 1]? = some (.cells #[.int .u64 a, .int .u64 b] 25))
    {K : World → World → Prop} {Rk : Nat → World → Prop} (hF : FenA W.heap.size K Rk) (hfr : ∀ (X : World) (q : Nat), Below W.heap.size W X → X.heap.size ≤ q → Rk q X)
    (cf : Nat) (lb : Array Value) (heg : ∀ args w, (callFunc cf args).run Tryz.prog w = .ok (.enter cf args) w) (J Jx : List It → World → Prop) (hJb : ∀ pre X Y, J pre X → Below X.heap.size X Y → J pre Y)
    (hY : ∀ (pre : List It) (x : It) (X : World), J pre X → pre.length < (arcL a b xs).length → Calls Tryz.prog cf (#[.string x.1, .string x.2] ++ lb) X fun e X' => (e = .returned (.bool true) ∧ J (pre ++ [x]) X' ∧ K X X') ∨ (e = .returned (.bool false) ∧ Jx (pre ++ [x]) X')) (h0 : J [] W) :
    Calls Tryz.prog 28 #[.func (.func cf) #[] lb, .pointer (some ⟨s, 0, none⟩), .pointer (some ⟨s + 1, 0, none⟩)] W fun e W' => (∃ v, e = .returned v) ∧ (J (arcL a b xs) W' ∨ ∃ k, k < (arcL a b xs).length ∧ Jx ((arcL a b xs).take (k + 1)) W') := by
  have HL := hid (show ∀ L : List It, L = (piecesA a b).flatMap (fun p => xs.filter (inP p)) → arcL a b xs = L from fun L hL => by rw [hL]; rfl)
  have hW : Below W.heap.size W W := Below.refl _ _
  have hS1 := hS
  have hab1 := hab
  have hits := h W hW
  have HSM := hid hsm
  have HFR := hid (fun r => hfr W r hW)
  have HJB := hid hJb
  have HY := hid hY
  have HEG := hid heg
  obtain ⟨P, hP⟩ : ∃ P, piecesA a b = P := ⟨_, rfl⟩
  rw [hP] at HL
  have e1 := fun i => cell_of_row W s i _ _ (0, 0) hS1
  have e2 := fun i => cell_of_row W (s + 1) i _ _ (0, 0) hab1
  have l1 := lt_of_heap hS1
  have l2 := lt_of_heap hab1
  have HAB := hid hab1
  have HF := hid hF
  have HP2 := hid (show ∀ p ∈ P, ¬ 0 < p.2 → p.2 = 0 from fun p hp hn => by
    rw [← hP] at hp
    rcases pieces_cases a b with ⟨_, e⟩ | ⟨_, _, e⟩ | ⟨_, _, e⟩ <;> rw [e] at hp <;> simp at hp
    · rw [hp]
    · rw [hp] at hn ⊢; simp at hn ⊢; omega
    · rcases hp with rfl | rfl
      · rfl
      · simp at hn ⊢; omega)
  clear hY hJb h hsm hS hab hfr hS1 hab1 hF hW heg
  go_enter Tryz.func28, Tryz.ntmps28
  go_step3
  go_wp2_with fail
  refine hits.mono ?_
  rintro _ W1 ⟨a1, c1, rfl, hr1, hb1, hf1⟩
  have hJ1 := HJB.out _ _ _ h0 hb1
  have hz1 := hb1.size
  have HA := hid hr1
  obtain ⟨m, hLm⟩ : ∃ m, xs.length = m := ⟨_, rfl⟩
  have HLM := hid hLm
  have HG := hid (show ∀ r, blk (.slice a1 m c1) r ≠ 0 → Rk r W1 from fun r hr => HF.out.fen.below (HFR.out r (Nat.le_of_not_lt fun e => by rw [← hLm] at hr; exact hr (hf1 r e))) hb1)
  have e2' := fun i => cell_of_row W1 (s + 1) i _ _ (0, 0) ((hb1.block _ l2).trans HAB.out)
  rw [hLm] at hn HA ⊢
  clear hLm hr1 h0 hits hf1 e1 e2
  go_wp2_with fail
  go_step3
  go_wp2_with fail
  refine (arcPieces_is a b _).mono ?_
  rintro _ W2 ⟨r, hr, rfl, hb2, hrow2⟩
  have HJ2 := hid (show J (toldA P xs inP (0, 0) 0 0) W2 from by simpa [toldA] using HJB.out _ _ _ hJ1 hb2)
  have HA2 := hid (show Row W2 59 2 (.slice a1 m c1) m (flat xs) from HA.out.keep fun q hq => hb2.block q (HA.out.lt hq))
  have HG2 := hid (fun r hr => HF.out.fen.below (HG.out r hr) hb2)
  have hrr := lt_of_heap hrow2
  have hPn := piecesA_len a b
  rw [hP] at hrow2 hPn ⊢
  have HR2 := hid hrow2
  have hz2 := hb2.size
  have hEr : W.heap.size ≤ r := by omega
  obtain ⟨pn, hpn⟩ : ∃ pn, P.length = pn := ⟨_, rfl⟩
  have HPN := hid hpn
  rw [hpn] at hPn ⊢
  clear hJ1 hb1 hb2 hrow2 e2' HA HG hP hpn HAB
  go_wp2_with fail
  go_loopw [15] (fun i wr => ∃ k : Nat, k ≤ pn ∧ i = .int .i64 k ∧ W2.heap.size ≤ wr.heap.size ∧ Hid (J (toldA P xs inP (0, 0) k 0) wr) ∧ Hid (Row wr 59 2 (.slice a1 m c1) m (flat xs)) ∧ Hid (∀ r, blk (.slice a1 m c1) r ≠ 0 → Rk r wr) ∧ Hid (wr.heap[r]? = some (.cells (flatC P).toArray 25))) (fun i _ => pn - (intOf i).toNat)
  case atStart => exact ⟨0, Nat.zero_le _, rfl, Nat.le_refl _, HJ2, HA2, HG2, HR2⟩
  case round =>
    obtain ⟨k, hk, rfl, hzr, hJk, hrow, hrk, hpr⟩ := hrel
    clear HJ2 HA2 HG2 HR2
    by_cases hlt : k < pn
    · obtain ⟨p, hp⟩ : ∃ p, P[k]? = some p := ⟨P[k]'(by rw [HPN.out]; exact hlt), List.getElem?_eq_getElem _⟩
      have hf0 : wr.cell? ⟨r, k * 2, none⟩ = some (.int .u64 p.1) := by rw [cell_of_row wr r (k * 2) _ _ (0, 0) hpr.out]; simpa using (flatC_at hp).1
      have hf1 : wr.cell? ⟨r, k * 2 + 1, none⟩ = some (.int .u64 p.2) := by rw [cell_of_row wr r (k * 2 + 1) _ _ (0, 0) hpr.out]; simpa using (flatC_at hp).2
      have hrl : r < wr.heap.size := by omega
      have HPK := hid hp
      have HJK := hid (show J (toldA P xs inP p k 0) wr from hJk.out)
      clear hp hJk
      go_wp2_with fail
      have hp6 : (wr.alloc (.cells #[.int .u64 p.1, .int .u64 p.2] 25)).heap[wr.heap.size]? = some (.cells #[.int .u64 p.1, .int .u64 p.2] 25) := heap_alloc_at _ _ _ rfl
      have hb6 : Below wr.heap.size wr (wr.alloc (.cells #[.int .u64 p.1, .int .u64 p.2] 25)) := (by repeat' (first | exact Below.refl _ _ | with_reducible assumption | omega | with_reducible refine below_put_fut ?_ ?_ _ | with_reducible refine below_to_put ?_ | with_reducible refine Below.alloc ?_ ?_ _ | with_reducible refine Below.fut ?_ ?_ _ | with_reducible refine Below.drew ?_ | with_reducible refine Below.setCell ?_ ?_ _ | with_reducible refine Below.atPut ?_ ?_ _ | (simp [go_sem]; done) | (simp [go_sem]; omega)))
      generalize wr.alloc (.cells _ 25) = W3 at hp6 hb6 ⊢
      have HJ3 := hid (HJB.out _ _ _ HJK.out hb6)
      have HA3 := hid (show Row W3 59 2 (.slice a1 m c1) m (flat xs) from hrow.out.keep fun q hq => hb6.block q (hrow.out.lt hq))
      have HG3 := hid (fun r hr => HF.out.fen.below (hrk.out r hr) hb6)
      have HR3 := hid ((hb6.block r hrl).trans hpr.out)
      have hz6 := hb6.size
      have hE6 : W.heap.size ≤ wr.heap.size := by omega
      have hE7 : W2.heap.size ≤ wr.heap.size := hzr
      generalize wr.heap.size = B6 at hp6 hz6 hE6 hE7 ⊢
      have HP6 := hid hp6
      clear hb6 hf0 hf1 hrow hrk hpr HJK hzr hrl hp6
      go_loopw [21] (fun j wx => ∃ q : Nat, q ≤ m ∧ j = .int .i64 q ∧ W3.heap.size ≤ wx.heap.size ∧ Hid (J (toldA P xs inP p k q) wx) ∧ Hid (Row wx 59 2 (.slice a1 m c1) m (flat xs)) ∧ Hid (∀ r, blk (.slice a1 m c1) r ≠ 0 → Rk r wx) ∧ Hid (wx.heap[r]? = some (.cells (flatC P).toArray 25)) ∧ Hid (wx.heap[B6]? = some (.cells #[.int .u64 p.1, .int .u64 p.2] 25))) (fun j _ => m - (intOf j).toNat)
      case atStart => exact ⟨0, Nat.zero_le _, rfl, Nat.le_refl _, HJ3, HA3, HG3, HR3, HP6⟩
      case round =>
        obtain ⟨q, hq, rfl, hzx, hJq, hrow, hrk, hpr, hp6⟩ := hrel
        clear HJ3 HA3 HG3 HR3 HP6
        by_cases hlt2 : q < m
        · obtain ⟨x, hpx⟩ : ∃ x, xs[q]? = some x := ⟨xs[q]'(by rw [HLM.out]; exact hlt2), List.getElem?_eq_getElem _⟩
          have HQ := hid hpx
          obtain ⟨ri, oi, rfl, i0, i2, i1⟩ := (show Src wr 2 (.slice a1 xs.length c1) xs.length (flat xs) by rw [HLM.out]; exact hrow.out.src (flat_one _)).at_ q x hpx
          have hri := World.block_lt_of_cell? _ _ i0
          have hsx := HSM.out x (List.mem_of_getElem? hpx)
          have e6 := fun i => cell_of_row wr B6 i _ _ (0, 0) hp6.out
          have l6 := lt_of_heap hp6.out
          clear hpx
          obtain ⟨ad, had⟩ : ∃ ad, addrN x.1.data.toList = ad := ⟨_, rfl⟩
          have HAD := hid (show adr x = ad by unfold adr; rw [had])
          go_wp2_with fail
          (((with_reducible refine (addr_any x.1 hsx ad had _).mono ?_)); rintro _ _ ⟨rfl, u, rfl⟩)
          have hb4 : Below wr.heap.size wr u.val := (by repeat' (first | exact Below.refl _ _ | with_reducible assumption | omega | with_reducible refine below_put_fut ?_ ?_ _ | with_reducible refine below_to_put ?_ | with_reducible refine Below.alloc ?_ ?_ _ | with_reducible refine Below.fut ?_ ?_ _ | with_reducible refine Below.drew ?_ | with_reducible refine Below.setCell ?_ ?_ _ | with_reducible refine Below.atPut ?_ ?_ _ | (simp [go_sem]; done) | (simp [go_sem]; omega)))
          have hp8 : u.val.heap[wr.heap.size]? = some (.cells #[.string x.1, .string x.2] 59) := (u.below.block _ (by simp)).trans (heap_alloc_at _ _ _ rfl)
          have e8' := fun i => cell_of_row u.val wr.heap.size i _ _ (0, 0) hp8
          have l8' := lt_of_heap hp8
          have e6' := fun i => cell_of_row u.val B6 i _ _ (0, 0) ((hb4.block _ l6).trans hp6.out)
          have l6' : B6 < u.val.heap.size := Nat.lt_of_lt_of_le l6 hb4.size
          generalize u.val = W5 at hb4 hp8 e6' l6' e8' l8' ⊢
          have HJ5 := hid (HJB.out _ _ _ hJq.out hb4)
          have HA5 := hid (show Row W5 59 2 (.slice (some ⟨ri, oi, none⟩) m c1) m (flat xs) from by have := hrow.out.keep fun q hq => hb4.block q (hrow.out.lt hq); rwa [← HLM.out] at this ⊢)
          have HG5 := hid (show ∀ r, blk (.slice (some ⟨ri, oi, none⟩) m c1) r ≠ 0 → Rk r W5 from fun r hr => HF.out.fen.below (hrk.out r (by rw [HLM.out] at *; exact hr)) hb4)
          have HR5 := hid ((hb4.block r (lt_of_heap hpr.out)).trans hpr.out)
          have HP5 := hid ((hb4.block _ l6).trans hp6.out)
          have hz5 := hb4.size
          have HIN := hid (show inP p x = true ↔ p.1 ≤ (ad : Int) ∧ (p.2 = 0 ∨ (ad : Int) < p.2) by rw [inP_iff, HAD.out])
          by_cases g1 : (ad : Int) < p.1
          · have d1 : decide ((ad : Int) < p.1) = true := decide_eq_true g1
            have HNI := hid (show inP p x = false by rw [Bool.eq_false_iff]; intro h; have := HIN.out.1 h; omega)
            clear g1
            go_wp2_with fail
            exact ⟨⟨q + 1, by omega, by go_num, by omega, hid (by rw [toldA_skips HQ.out HNI.out]; exact HJ5.out), HA5, HG5, HR5, HP5⟩, by simp [intOf]; omega⟩
          · have d1 : decide ((ad : Int) < p.1) = false := decide_eq_false g1
            by_cases g2 : 0 < p.2
            · have d2 : decide (0 < p.2) = true := decide_eq_true g2
              by_cases g3 : p.2 ≤ (ad : Int)
              · have d3 : decide (p.2 ≤ (ad : Int)) = true := decide_eq_true g3
                have HNI := hid (show inP p x = false by rw [Bool.eq_false_iff]; intro h; have := HIN.out.1 h; omega)
                clear g1 g2 g3
                go_wp2_with fail
                exact ⟨⟨q + 1, by omega, by go_num, by omega, hid (by rw [toldA_skips HQ.out HNI.out]; exact HJ5.out), HA5, HG5, HR5, HP5⟩, by simp [intOf]; omega⟩
              · have d3 : decide (p.2 ≤ (ad : Int)) = false := decide_eq_false g3
                have HYI := hid (show inP p x = true from HIN.out.2 ⟨by omega, by omega⟩)
                clear g1 g2 g3
                have heg := HEG.out
                obtain ⟨hlen, htk, hsn, htk2⟩ := toldA_tells HPK.out HQ.out HYI.out
                have HTK := hid htk2
                have HSN := hid hsn
                have HLN := hid hlen
                clear htk hsn htk2 hlen
                go_wp2_with fail
                refine (HY.out _ x W5 HJ5.out (by rw [HL.out _ rfl]; exact HLN.out)).mono ?_
                clear heg
                rintro e W6 (⟨rfl, hJ6, hk6⟩ | ⟨rfl, hJx6⟩)
                · have hst : ∀ q, blk (.slice (some ⟨ri, oi, none⟩) m c1) q ≠ 0 → Rk q W6 ∧ ∀ o', W5.heap[q]? = some o' → o'.isCells = true → W6.heap[q]? = some o' := fun q hq => HF.out.fen.step (HG5.out q hq) (HA5.out.lt hq) hk6
                  have HA6 := hid (show Row W6 59 2 (.slice (some ⟨ri, oi, none⟩) m c1) m (flat xs) from HA5.out.keep fun q hq => by
                    obtain ⟨r2, c3, hv, _, _⟩ := World.ownsRow.form HA5.out (by omega)
                    injection hv with hv; injection hv with hv; cases hv
                    obtain ⟨cur, _, _, hcur, _, _⟩ := row_open HA5.out
                    rw [blk_at _ _ _ _ _ none] at hq
                    obtain rfl := one_ne hq
                    rw [(hst q (by rw [blk_at _ _ _ _ _ none, one_self]; omega)).2 _ hcur rfl, hcur])
                  have HG6 := hid (fun q hq => (hst q hq).1)
                  have HR6 := hid ((HF.out.late hEr HR5.out (by decide) hk6).trans HR5.out)
                  have HP6 := hid ((HF.out.late hE6 HP5.out (by decide) hk6).trans HP5.out)
                  have HJ6 := hid (show J (toldA P xs inP p k (q + 1)) W6 by rw [HSN.out]; exact hJ6)
                  have hz6' := HF.out.fen.size hk6
                  clear hJ6 hk6 hst e8' l8' e6' l6' hp8
                  go_wp2_with fail
                  exact ⟨⟨q + 1, by omega, by go_num, by omega, HJ6, HA6, HG6, HR6, HP6⟩, by simp [intOf]; omega⟩
                · have HJX := hid hJx6
                  clear hJx6
                  go_wp2_with fail
                  rw [Exit.noGoto_normal]
                  go_end0
                  exact ⟨⟨_, rfl⟩, .inr ⟨(toldA P xs inP p k q).length, by rw [HL.out _ rfl]; exact HLN.out, by rw [HL.out _ rfl, ← HTK.out]; exact HJX.out⟩⟩
            · have d2 : decide (0 < p.2) = false := decide_eq_false g2
              have HYI := hid (show inP p x = true from HIN.out.2 ⟨by omega, .inl (HP2.out p (List.mem_of_getElem? HPK.out) (by omega))⟩)
              clear g1 g2
              have heg := HEG.out
              obtain ⟨hlen, htk, hsn, htk2⟩ := toldA_tells HPK.out HQ.out HYI.out
              have HTK := hid htk2
              have HSN := hid hsn
              have HLN := hid hlen
              clear htk hsn htk2 hlen
              go_wp2_with fail
              refine (HY.out _ x W5 HJ5.out (by rw [HL.out _ rfl]; exact HLN.out)).mono ?_
              clear heg
              rintro e W6 (⟨rfl, hJ6, hk6⟩ | ⟨rfl, hJx6⟩)
              · have hst : ∀ q, blk (.slice (some ⟨ri, oi, none⟩) m c1) q ≠ 0 → Rk q W6 ∧ ∀ o', W5.heap[q]? = some o' → o'.isCells = true → W6.heap[q]? = some o' := fun q hq => HF.out.fen.step (HG5.out q hq) (HA5.out.lt hq) hk6
                have HA6 := hid (show Row W6 59 2 (.slice (some ⟨ri, oi, none⟩) m c1) m (flat xs) from HA5.out.keep fun q hq => by
                  obtain ⟨r2, c3, hv, _, _⟩ := World.ownsRow.form HA5.out (by omega)
                  injection hv with hv; injection hv with hv; cases hv
                  obtain ⟨cur, _, _, hcur, _, _⟩ := row_open HA5.out
                  rw [blk_at _ _ _ _ _ none] at hq
                  obtain rfl := one_ne hq
                  rw [(hst q (by rw [blk_at _ _ _ _ _ none, one_self]; omega)).2 _ hcur rfl, hcur])
                have HG6 := hid (fun q hq => (hst q hq).1)
                have HR6 := hid ((HF.out.late hEr HR5.out (by decide) hk6).trans HR5.out)
                have HP6 := hid ((HF.out.late hE6 HP5.out (by decide) hk6).trans HP5.out)
                have HJ6 := hid (show J (toldA P xs inP p k (q + 1)) W6 by rw [HSN.out]; exact hJ6)
                have hz6' := HF.out.fen.size hk6
                clear hJ6 hk6 hst e8' l8' e6' l6' hp8
                go_wp2_with fail
                exact ⟨⟨q + 1, by omega, by go_num, by omega, HJ6, HA6, HG6, HR6, HP6⟩, by simp [intOf]; omega⟩
              · have HJX := hid hJx6
                clear hJx6
                go_wp2_with fail
                rw [Exit.noGoto_normal]
                go_end0
                exact ⟨⟨_, rfl⟩, .inr ⟨(toldA P xs inP p k q).length, by rw [HL.out _ rfl]; exact HLN.out, by rw [HL.out _ rfl, ← HTK.out]; exact HJX.out⟩⟩
        · obtain rfl : q = m := by omega
          go_wp2_with fail
          exact ⟨⟨k + 1, by omega, by go_num, by omega, hid (by have := hJq.out; rw [← HLM.out, toldA_next HPK.out (0, 0)] at this; exact this), hrow, hrk, hpr⟩, by simp [intOf]; omega⟩
    · obtain rfl : k = pn := by omega
      have HJ5 := hid (show J (P.flatMap fun p => xs.filter (inP p)) wr from by have := hJk.out; rwa [← HPN.out, toldA_end] at this)
      go_wp2_with fail
      rw [Exit.noGoto_normal]
      go_end0
      exact ⟨⟨_, rfl⟩, .inl (by rw [HL.out _ rfl]; exact HJ5.out)⟩
end Go.Proofs.YthknenhcnpgkcaaGreat
