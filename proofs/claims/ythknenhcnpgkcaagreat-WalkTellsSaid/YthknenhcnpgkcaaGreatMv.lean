/- Texts of this proof, merged: WkA, WkM, WkS, WkV, Rg2, Cl1. -/
import Derived.Test.YthknenhcnpgkcaaGreatMw
/- Package walk: Arc$1 as a stopping sequence. -/
namespace Go.Proofs.YthknenhcnpgkcaaGreat
open Go.RowKit Go.Shelf
attribute [local go_sem] Oper.semAt_some
set_option linter.unusedVariables false
set_option linter.unusedSimpArgs false
theorem flatC_at : ∀ {P : List (Int × Int)} {k : Nat} {p : Int × Int}, P[k]? = some p → (flatC P)[k * 2]? = some (.int .u64 p.1) ∧ (flatC P)[k * 2 + 1]? = some (.int .u64 p.2)
  | [], _, _, h => by cases h
  | q :: P, 0, p, h => by cases h; exact ⟨rfl, rfl⟩
  | q :: P, k + 1, p, h => by
    have := flatC_at (P := P) (k := k) (p := p) (by simpa using h)
    have e : (k + 1) * 2 = k * 2 + 1 + 1 := by omega
    rw [e]
    exact this
theorem sh_small {B : Nat} {w0 : World} {most : Int} {xs : List It} {g : Nat} {W : World} (h : Sh B w0 most xs g W) : ∀ x ∈ xs, x.1.size ≤ maxLen := fun x hx => by obtain ⟨_, c, top, h3, _⟩ := h; exact (h3.small x hx).1
theorem sh_rises {B : Nat} {w0 : World} {most : Int} {xs : List It} {g : Nat} {W : World} (h : Sh B w0 most xs g W) : Rises xs := by obtain ⟨_, c, top, h3, _⟩ := h; exact h3.rises
set_option maxRecDepth 100000 in
set_option maxHeartbeats 4000000 in
theorem walkArc1_gen (n : Nat) {xs : List It} {g : Option Addr} {w : World} (h : Gives g xs w) (hn : xs.length ≤ 900) (hsm : ∀ x ∈ xs, x.1.size ≤ maxLen) (s : Nat) (hS : w.heap[s]? = some (.cells #[.pointer g] 27))
    (a b : Int) (hb0 : 0 ≤ b) (hab : w.heap[s + 1]? = some (.cells #[.int .u64 a, .int .u64 b] 25))
    {α : Type} (A : List α) (f : α → It) (hAf : A.map f = xs) {K : World → World → Prop} {Rk : Nat → World → Prop} (hF : FenA w.heap.size K Rk) (hfr : ∀ (W : World) (r : Nat), Below w.heap.size w W → W.heap.size ≤ r → Rk r W) :
    SeqStopsK Fence.wide n Tryz.prog 28 #[.pointer (some ⟨s, 0, none⟩), .pointer (some ⟨s + 1, 0, none⟩)] (fun x : α => #[.string (f x).1, .string (f x).2]) K (fun ys => ys = (piecesA a b).flatMap fun p => A.filter fun y => inP p (f y))
      (fun pre => ∃ k, k ≤ ((piecesA a b).flatMap fun p => A.filter fun y => inP p (f y)).length ∧ pre = ((piecesA a b).flatMap fun p => A.filter fun y => inP p (f y)).take k) ((piecesA a b).flatMap fun p => A.filter fun y => inP p (f y)).length w := fun ll J Jx W hW hJ hJx hY h0 => by
  refine callsIn_wide.2 ?_
  have hBl := lt_of_heap hS
  have hBl2 := lt_of_heap hab
  have hS1 := (hW.block _ hBl).trans hS
  have hab1 := (hW.block _ hBl2).trans hab
  have hJb : ∀ s A B, J s A → Below A.heap.size A B → J s B := fun s A B hs hb => hJ s A B none hs ⟨hb.os, hb.tape, hb.output, hb.size, fun k hk _ => hb.block k hk⟩ (fun r e => by cases e)
  have hz := hW.size
  have hits := h W hW
  have HSM := hid hsm
  have HFR := hid (fun r => hfr W r hW)
  have HJB := hid hJb
  have HY := hid hY
  obtain ⟨P, hP⟩ : ∃ P, piecesA a b = P := ⟨_, rfl⟩
  obtain ⟨T, hT⟩ : ∃ T : Int × Int → α → Bool, T = fun p y => inP p (f y) := ⟨_, rfl⟩
  have HT := hid hT
  have HP := hid hP
  have hab2 := hab1
  have e1 := fun i => cell_of_row W s i _ _ (0, 0) hS1
  have e2 := fun i => cell_of_row W (s + 1) i _ _ (0, 0) hab1
  have l1 := lt_of_heap hS1
  have l2 := lt_of_heap hab1
  have HAB := hid hab1
  have HL := hid (show ∀ L : List α, L = P.flatMap (fun p => A.filter (T p)) → ((piecesA a b).flatMap fun p => A.filter fun y => inP p (f y)) = L from fun L hL => by rw [hL, hP, hT])
  have HLE := hid (show w.heap.size ≤ W.heap.size from hz)
  have HF := hid hF
  have HP2 := hid (show ∀ p ∈ P, ¬ 0 < p.2 → p.2 = 0 from fun p hp hn => by
    rw [← hP] at hp
    rcases pieces_cases a b with ⟨_, e⟩ | ⟨_, _, e⟩ | ⟨_, _, e⟩ <;> rw [e] at hp <;> simp at hp
    · rw [hp]
    · rw [hp] at hn ⊢; simp at hn ⊢; omega
    · rcases hp with rfl | rfl
      · rfl
      · simp at hn ⊢; omega)
  clear hJ hJx hY hJb h hsm hS hab hBl hBl2 hfr hT hS1 hab1 hab2
  go_enter Tryz.func28, Tryz.ntmps28
  go_step3
  go_wp2_with fail
  refine hits.mono ?_
  rintro _ W1 ⟨a1, c1, rfl, hr1, hb1, hf1⟩
  have hJ1 := HJB.out _ _ _ h0 hb1
  have hz1 := hb1.size
  have HA := hid hr1
  obtain ⟨m, hLm⟩ : ∃ m, xs.length = m := ⟨_, rfl⟩
  have HLM := hid hLm
  have HAM := hid (show A.length = m by rw [← hLm, ← hAf, List.length_map])
  have HAF := hid hAf
  have HG := hid (show ∀ r, blk (.slice a1 m c1) r ≠ 0 → Rk r W1 from fun r hr => HF.out.fen.below (HFR.out r (Nat.le_of_not_lt fun e => by rw [← hLm] at hr; exact hr (hf1 r e))) hb1)
  have e2' := fun i => cell_of_row W1 (s + 1) i _ _ (0, 0) ((hb1.block _ l2).trans HAB.out)
  rw [hLm] at hn HA ⊢
  clear hLm hr1 h0 hits hf1 hAf e1 e2
  go_wp2_with fail
  go_step3
  go_wp2_with fail
  refine (arcPieces_is a b _).mono ?_
  rintro _ W2 ⟨r, hr, rfl, hb2, hrow2⟩
  have HJ2 := hid (show J (toldA P A T (0, 0) 0 0) W2 from by simpa [toldA] using HJB.out _ _ _ hJ1 hb2)
  have HA2 := hid (show Row W2 59 2 (.slice a1 m c1) m (flat xs) from HA.out.keep fun q hq => hb2.block q (HA.out.lt hq))
  have HG2 := hid (fun r hr => HF.out.fen.below (HG.out r hr) hb2)
  have hrr := lt_of_heap hrow2
  have hPn := piecesA_len a b
  rw [hP] at hrow2 hPn ⊢
  have HR2 := hid hrow2
  have hz2 := hb2.size
  have hEr : w.heap.size ≤ r := by omega
  obtain ⟨pn, hpn⟩ : ∃ pn, P.length = pn := ⟨_, rfl⟩
  have HPN := hid hpn
  rw [hpn] at hPn ⊢
  clear hJ1 hb1 hb2 hrow2 e2' HA HG hP hpn HAB
  go_wp2_with fail
  go_loopw [15] (fun i wr => ∃ k : Nat, k ≤ pn ∧ i = .int .i64 k ∧ W2.heap.size ≤ wr.heap.size ∧ Hid (J (toldA P A T (0, 0) k 0) wr) ∧ Hid (Row wr 59 2 (.slice a1 m c1) m (flat xs)) ∧ Hid (∀ r, blk (.slice a1 m c1) r ≠ 0 → Rk r wr) ∧ Hid (wr.heap[r]? = some (.cells (flatC P).toArray 25))) (fun i _ => pn - (intOf i).toNat)
  case atStart => exact ⟨0, Nat.zero_le _, rfl, Nat.le_refl _, HJ2, HA2, HG2, HR2⟩
  case round =>
    obtain ⟨k, hk, rfl, hzr, hJk, hrow, hrk, hpr⟩ := hrel
    clear HJ2 HA2 HG2 HR2
    by_cases hlt : k < pn
    · obtain ⟨p, hp⟩ : ∃ p, P[k]? = some p := ⟨P[k]'(by rw [HPN.out]; exact hlt), List.getElem?_eq_getElem _⟩
      have hf0 : wr.cell? ⟨r, k * 2, none⟩ = some (.int .u64 p.1) := by rw [cell_of_row wr r (k * 2) _ _ (0, 0) hpr.out]; simpa using (flatC_at hp).1
      have hf1 : wr.cell? ⟨r, k * 2 + 1, none⟩ = some (.int .u64 p.2) := by rw [cell_of_row wr r (k * 2 + 1) _ _ (0, 0) hpr.out]; simpa using (flatC_at hp).2
      have hrl : r < wr.heap.size := by omega
      have HPK := hid hp
      have HJK := hid (show J (toldA P A T p k 0) wr from hJk.out)
      clear hp hJk
      go_wp2_with fail
      have hp6 : (wr.alloc (.cells #[.int .u64 p.1, .int .u64 p.2] 25)).heap[wr.heap.size]? = some (.cells #[.int .u64 p.1, .int .u64 p.2] 25) := heap_alloc_at _ _ _ rfl
      have hb6 : Below wr.heap.size wr (wr.alloc (.cells #[.int .u64 p.1, .int .u64 p.2] 25)) := (by repeat' (first | exact Below.refl _ _ | with_reducible assumption | omega | with_reducible refine below_put_fut ?_ ?_ _ | with_reducible refine below_to_put ?_ | with_reducible refine Below.alloc ?_ ?_ _ | with_reducible refine Below.fut ?_ ?_ _ | with_reducible refine Below.drew ?_ | with_reducible refine Below.setCell ?_ ?_ _ | with_reducible refine Below.atPut ?_ ?_ _ | (simp [go_sem]; done) | (simp [go_sem]; omega)))
      generalize wr.alloc (.cells _ 25) = W3 at hp6 hb6 ⊢
      have HJ3 := hid (HJB.out _ _ _ HJK.out hb6)
      have HA3 := hid (show Row W3 59 2 (.slice a1 m c1) m (flat xs) from hrow.out.keep fun q hq => hb6.block q (hrow.out.lt hq))
      have HG3 := hid (fun r hr => HF.out.fen.below (hrk.out r hr) hb6)
      have HR3 := hid ((hb6.block r hrl).trans hpr.out)
      have hz6 := hb6.size
      have hE6 : w.heap.size ≤ wr.heap.size := by omega
      have hE7 : W2.heap.size ≤ wr.heap.size := hzr
      generalize wr.heap.size = B6 at hp6 hz6 hE6 hE7 ⊢
      have HP6 := hid hp6
      clear hb6 hf0 hf1 hrow hrk hpr HJK hzr hrl hp6
      go_loopw [21] (fun j wx => ∃ q : Nat, q ≤ m ∧ j = .int .i64 q ∧ W3.heap.size ≤ wx.heap.size ∧ Hid (J (toldA P A T p k q) wx) ∧ Hid (Row wx 59 2 (.slice a1 m c1) m (flat xs)) ∧ Hid (∀ r, blk (.slice a1 m c1) r ≠ 0 → Rk r wx) ∧ Hid (wx.heap[r]? = some (.cells (flatC P).toArray 25)) ∧ Hid (wx.heap[B6]? = some (.cells #[.int .u64 p.1, .int .u64 p.2] 25))) (fun j _ => m - (intOf j).toNat)
      case atStart => exact ⟨0, Nat.zero_le _, rfl, Nat.le_refl _, HJ3, HA3, HG3, HR3, HP6⟩
      case round =>
        obtain ⟨q, hq, rfl, hzx, hJq, hrow, hrk, hpr, hp6⟩ := hrel
        clear HJ3 HA3 HG3 HR3 HP6
        by_cases hlt2 : q < m
        · obtain ⟨y, hy⟩ : ∃ y, A[q]? = some y := ⟨A[q]'(by rw [HAM.out]; exact hlt2), List.getElem?_eq_getElem _⟩
          have hpx : xs[q]? = some (f y) := by rw [← HAF.out, List.getElem?_map, hy]; rfl
          have HQ := hid hy
          clear hy
          obtain ⟨x, hxy⟩ : ∃ x, x = f y := ⟨_, rfl⟩
          rw [← hxy] at hpx
          have HXY := hid hxy
          clear hxy
          obtain ⟨ri, oi, rfl, i0, i2, i1⟩ := (show Src wr 2 (.slice a1 xs.length c1) xs.length (flat xs) by rw [HLM.out]; exact hrow.out.src (flat_one _)).at_ q x hpx
          have hri := World.block_lt_of_cell? _ _ i0
          have hsx := HSM.out x (List.mem_of_getElem? hpx)
          have e6 := fun i => cell_of_row wr B6 i _ _ (0, 0) hp6.out
          have l6 := lt_of_heap hp6.out
          clear hpx
          obtain ⟨ad, had⟩ : ∃ ad, addrN x.1.data.toList = ad := ⟨_, rfl⟩
          have HAD := hid (show adr x = ad by unfold adr; rw [had])
          go_wp2_with fail
          (((with_reducible refine (addr_any x.1 hsx ad had _).mono ?_)); rintro _ _ ⟨rfl, u, rfl⟩)
          have hb4 : Below wr.heap.size wr u.val := (by repeat' (first | exact Below.refl _ _ | with_reducible assumption | omega | with_reducible refine below_put_fut ?_ ?_ _ | with_reducible refine below_to_put ?_ | with_reducible refine Below.alloc ?_ ?_ _ | with_reducible refine Below.fut ?_ ?_ _ | with_reducible refine Below.drew ?_ | with_reducible refine Below.setCell ?_ ?_ _ | with_reducible refine Below.atPut ?_ ?_ _ | (simp [go_sem]; done) | (simp [go_sem]; omega)))
          have hp8 : u.val.heap[wr.heap.size]? = some (.cells #[.string x.1, .string x.2] 59) := (u.below.block _ (by simp)).trans (heap_alloc_at _ _ _ rfl)
          have e6' := fun i => cell_of_row u.val B6 i _ _ (0, 0) ((hb4.block _ l6).trans hp6.out)
          have l6' : B6 < u.val.heap.size := Nat.lt_of_lt_of_le l6 hb4.size
          generalize u.val = W5 at hb4 hp8 e6' l6' ⊢
          have HJ5 := hid (HJB.out _ _ _ hJq.out hb4)
          have HA5 := hid (show Row W5 59 2 (.slice (some ⟨ri, oi, none⟩) m c1) m (flat xs) from by have := hrow.out.keep fun q hq => hb4.block q (hrow.out.lt hq); rwa [← HLM.out] at this ⊢)
          have HG5 := hid (show ∀ r, blk (.slice (some ⟨ri, oi, none⟩) m c1) r ≠ 0 → Rk r W5 from fun r hr => HF.out.fen.below (hrk.out r (by rw [HLM.out] at *; exact hr)) hb4)
          have HR5 := hid ((hb4.block r (lt_of_heap hpr.out)).trans hpr.out)
          have HP5 := hid ((hb4.block _ l6).trans hp6.out)
          have hz5 := hb4.size
          have HIN := hid (show T p y = true ↔ p.1 ≤ (ad : Int) ∧ (p.2 = 0 ∨ (ad : Int) < p.2) by rw [HT.out, inP_iff, ← HXY.out, HAD.out])
          by_cases g1 : (ad : Int) < p.1
          · have d1 : decide ((ad : Int) < p.1) = true := decide_eq_true g1
            have HNI := hid (show T p y = false by rw [Bool.eq_false_iff]; intro h; have := HIN.out.1 h; omega)
            clear g1
            go_wp2_with fail
            exact ⟨⟨q + 1, by omega, by go_num, by omega, hid (by rw [toldA_skips HQ.out HNI.out]; exact HJ5.out), HA5, HG5, HR5, HP5⟩, by simp [intOf]; omega⟩
          · have d1 : decide ((ad : Int) < p.1) = false := decide_eq_false g1
            by_cases g2 : 0 < p.2
            · have d2 : decide (0 < p.2) = true := decide_eq_true g2
              by_cases g3 : p.2 ≤ (ad : Int)
              · have d3 : decide (p.2 ≤ (ad : Int)) = true := decide_eq_true g3
                have HNI := hid (show T p y = false by rw [Bool.eq_false_iff]; intro h; have := HIN.out.1 h; omega)
                clear g1 g2 g3
                go_wp2_with fail
                exact ⟨⟨q + 1, by omega, by go_num, by omega, hid (by rw [toldA_skips HQ.out HNI.out]; exact HJ5.out), HA5, HG5, HR5, HP5⟩, by simp [intOf]; omega⟩
              · have d3 : decide (p.2 ≤ (ad : Int)) = false := decide_eq_false g3
                have HYI := hid (show T p y = true from HIN.out.2 ⟨by omega, by omega⟩)
                clear g1 g2 g3
                go_upto_region 9 with fail
                have hq0 := cell_of_row W5 _ 0 _ _ (0, 0) hp8
                have hq1 := cell_of_row W5 _ 1 _ _ (0, 0) hp8
                rw [← wpIn_wide (n := n)]
                refine wpIn_region_lit ?_
                refine wpListIn_runTo (fun _ => trivial) rfl (fun _ h => by cases h) (some 43) rfl (.func (.yield ll) #[] #[]) W5 (by simp [execOp, Act.eval, Act.put, go_sem]) ?_
                simp only [Act.put, List.setIfInBounds_toArray, List.set_cons_succ, List.set_cons_zero]
                refine wpListIn_runTo (fun _ => trivial) rfl (fun _ h => by cases h) (some 44) rfl (.pointer (some ⟨wr.heap.size, 0, none⟩)) W5 (by simp [execOp, Act.eval, Act.put, go_sem]) ?_
                simp only [Act.put, List.setIfInBounds_toArray, List.set_cons_succ, List.set_cons_zero]
                refine wpListIn_runTo (fun _ => trivial) rfl (fun _ h => by cases h) (some 45) rfl (.string x.1) W5 (by simp [execOp, Act.eval, Act.put, go_sem, hq0]) ?_
                simp only [Act.put, List.setIfInBounds_toArray, List.set_cons_succ, List.set_cons_zero]
                refine wpListIn_runTo (fun _ => trivial) rfl (fun _ h => by cases h) (some 46) rfl (.pointer (some ⟨wr.heap.size, 1, none⟩)) W5 (by simp [execOp, Act.eval, Act.put, go_sem]) ?_
                simp only [Act.put, List.setIfInBounds_toArray, List.set_cons_succ, List.set_cons_zero]
                refine wpListIn_runTo (fun _ => trivial) rfl (fun _ h => by cases h) (some 47) rfl (.string x.2) W5 (by simp [execOp, Act.eval, Act.put, go_sem, hq1]) ?_
                simp only [Act.put, List.setIfInBounds_toArray, List.set_cons_succ, List.set_cons_zero]
                obtain ⟨hlen, htk, hsn, htk2⟩ := toldA_tells HPK.out HQ.out HYI.out
                obtain ⟨fn, tmps, assign, body, hy, hR⟩ := HY.out _ y W5 HJ5.out (by rw [HL.out _ rfl]; exact hlen)
                try dsimp only at hy
                rw [← HXY.out] at hy
                have HTK := hid htk2
                have HSN := hid hsn
                have HLN := hid hlen
                clear htk hsn htk2 hlen
                gi_wp2_with fail
                refine ⟨fun h => (by cases h), ?_⟩
                refine hR.mono ?_
                clear hy hR
                rintro e W6 (⟨rfl, hJ6, hk6⟩ | ⟨rfl, hJx6⟩)
                · have hst : ∀ q, blk (.slice (some ⟨ri, oi, none⟩) m c1) q ≠ 0 → Rk q W6 ∧ ∀ o', W5.heap[q]? = some o' → o'.isCells = true → W6.heap[q]? = some o' := fun q hq => HF.out.fen.step (HG5.out q hq) (HA5.out.lt hq) hk6
                  have HA6 := hid (show Row W6 59 2 (.slice (some ⟨ri, oi, none⟩) m c1) m (flat xs) from HA5.out.keep fun q hq => by
                    obtain ⟨r2, c3, hv, _, _⟩ := World.ownsRow.form HA5.out (by omega)
                    injection hv with hv; injection hv with hv; cases hv
                    obtain ⟨cur, _, _, hcur, _, _⟩ := row_open HA5.out
                    rw [blk_at _ _ _ _ _ none] at hq
                    obtain rfl := one_ne hq
                    rw [(hst q (by rw [blk_at _ _ _ _ _ none, one_self]; omega)).2 _ hcur rfl, hcur])
                  have HG6 := hid (fun q hq => (hst q hq).1)
                  have HR6 := hid ((HF.out.late hEr HR5.out (by decide) hk6).trans HR5.out)
                  have HP6 := hid ((HF.out.late hE6 HP5.out (by decide) hk6).trans HP5.out)
                  have HJ6 := hid (show J (toldA P A T p k (q + 1)) W6 by rw [HSN.out]; exact hJ6)
                  have hz6' := HF.out.fen.size hk6
                  clear hJ6 hk6 hst hq0 hq1 hp8
                  gi_wp2_with fail
                  go_wp2_with fail
                  exact ⟨⟨q + 1, by omega, by go_num, by omega, HJ6, HA6, HG6, HR6, HP6⟩, by simp [intOf]; omega⟩
                · have HJX := hid hJx6
                  clear hJx6
                  gi_wp2_with fail
                  go_wp2_with fail
                  rw [Exit.noGoto_normal]
                  go_end0
                  exact ⟨⟨_, rfl⟩, .inr ⟨_, ⟨(toldA P A T p k q).length + 1, by rw [HL.out _ rfl]; exact HLN.out, by rw [HL.out _ rfl]; exact HTK.out⟩, HJX.out⟩⟩
            · have d2 : decide (0 < p.2) = false := decide_eq_false g2
              have HYI := hid (show T p y = true from HIN.out.2 ⟨by omega, .inl (HP2.out p (List.mem_of_getElem? HPK.out) (by omega))⟩)
              clear g1 g2
              go_upto_region 9 with fail
              have hq0 := cell_of_row W5 _ 0 _ _ (0, 0) hp8
              have hq1 := cell_of_row W5 _ 1 _ _ (0, 0) hp8
              rw [← wpIn_wide (n := n)]
              refine wpIn_region_lit ?_
              refine wpListIn_runTo (fun _ => trivial) rfl (fun _ h => by cases h) (some 43) rfl (.func (.yield ll) #[] #[]) W5 (by simp [execOp, Act.eval, Act.put, go_sem]) ?_
              simp only [Act.put, List.setIfInBounds_toArray, List.set_cons_succ, List.set_cons_zero]
              refine wpListIn_runTo (fun _ => trivial) rfl (fun _ h => by cases h) (some 44) rfl (.pointer (some ⟨wr.heap.size, 0, none⟩)) W5 (by simp [execOp, Act.eval, Act.put, go_sem]) ?_
              simp only [Act.put, List.setIfInBounds_toArray, List.set_cons_succ, List.set_cons_zero]
              refine wpListIn_runTo (fun _ => trivial) rfl (fun _ h => by cases h) (some 45) rfl (.string x.1) W5 (by simp [execOp, Act.eval, Act.put, go_sem, hq0]) ?_
              simp only [Act.put, List.setIfInBounds_toArray, List.set_cons_succ, List.set_cons_zero]
              refine wpListIn_runTo (fun _ => trivial) rfl (fun _ h => by cases h) (some 46) rfl (.pointer (some ⟨wr.heap.size, 1, none⟩)) W5 (by simp [execOp, Act.eval, Act.put, go_sem]) ?_
              simp only [Act.put, List.setIfInBounds_toArray, List.set_cons_succ, List.set_cons_zero]
              refine wpListIn_runTo (fun _ => trivial) rfl (fun _ h => by cases h) (some 47) rfl (.string x.2) W5 (by simp [execOp, Act.eval, Act.put, go_sem, hq1]) ?_
              simp only [Act.put, List.setIfInBounds_toArray, List.set_cons_succ, List.set_cons_zero]
              obtain ⟨hlen, htk, hsn, htk2⟩ := toldA_tells HPK.out HQ.out HYI.out
              obtain ⟨fn, tmps, assign, body, hy, hR⟩ := HY.out _ y W5 HJ5.out (by rw [HL.out _ rfl]; exact hlen)
              try dsimp only at hy
              rw [← HXY.out] at hy
              have HTK := hid htk2
              have HSN := hid hsn
              have HLN := hid hlen
              clear htk hsn htk2 hlen
              gi_wp2_with fail
              refine ⟨fun h => (by cases h), ?_⟩
              refine hR.mono ?_
              clear hy hR
              rintro e W6 (⟨rfl, hJ6, hk6⟩ | ⟨rfl, hJx6⟩)
              · have hst : ∀ q, blk (.slice (some ⟨ri, oi, none⟩) m c1) q ≠ 0 → Rk q W6 ∧ ∀ o', W5.heap[q]? = some o' → o'.isCells = true → W6.heap[q]? = some o' := fun q hq => HF.out.fen.step (HG5.out q hq) (HA5.out.lt hq) hk6
                have HA6 := hid (show Row W6 59 2 (.slice (some ⟨ri, oi, none⟩) m c1) m (flat xs) from HA5.out.keep fun q hq => by
                  obtain ⟨r2, c3, hv, _, _⟩ := World.ownsRow.form HA5.out (by omega)
                  injection hv with hv; injection hv with hv; cases hv
                  obtain ⟨cur, _, _, hcur, _, _⟩ := row_open HA5.out
                  rw [blk_at _ _ _ _ _ none] at hq
                  obtain rfl := one_ne hq
                  rw [(hst q (by rw [blk_at _ _ _ _ _ none, one_self]; omega)).2 _ hcur rfl, hcur])
                have HG6 := hid (fun q hq => (hst q hq).1)
                have HR6 := hid ((HF.out.late hEr HR5.out (by decide) hk6).trans HR5.out)
                have HP6 := hid ((HF.out.late hE6 HP5.out (by decide) hk6).trans HP5.out)
                have HJ6 := hid (show J (toldA P A T p k (q + 1)) W6 by rw [HSN.out]; exact hJ6)
                have hz6' := HF.out.fen.size hk6
                clear hJ6 hk6 hst hq0 hq1 hp8
                gi_wp2_with fail
                go_wp2_with fail
                exact ⟨⟨q + 1, by omega, by go_num, by omega, HJ6, HA6, HG6, HR6, HP6⟩, by simp [intOf]; omega⟩
              · have HJX := hid hJx6
                clear hJx6
                gi_wp2_with fail
                go_wp2_with fail
                rw [Exit.noGoto_normal]
                go_end0
                exact ⟨⟨_, rfl⟩, .inr ⟨_, ⟨(toldA P A T p k q).length + 1, by rw [HL.out _ rfl]; exact HLN.out, by rw [HL.out _ rfl]; exact HTK.out⟩, HJX.out⟩⟩
        · obtain rfl : q = m := by omega
          go_wp2_with fail
          exact ⟨⟨k + 1, by omega, by go_num, by omega, hid (by have := hJq.out; rw [← HAM.out, toldA_next HPK.out (0, 0)] at this; exact this), hrow, hrk, hpr⟩, by simp [intOf]; omega⟩
    · obtain rfl : k = pn := by omega
      have HJ5 := hid (show J (P.flatMap fun p => A.filter (T p)) wr from by have := hJk.out; rwa [← HPN.out, toldA_end] at this)
      go_wp2_with fail
      rw [Exit.noGoto_normal]
      go_end0
      exact ⟨⟨_, rfl⟩, .inl ⟨_, (HL.out _ rfl).symm, HJ5.out⟩⟩
theorem walkArc1_stops (n : Nat) {B0 : Nat} {w0 : World} {most : Int} {xs : List It} {g : Nat} {w : World} (h : Sh B0 w0 most xs g w) (hn : xs.length ≤ 900) (s : Nat) (hS : w.heap[s]? = some (.cells #[.pointer (some ⟨g, 0, none⟩)] 27))
    (a b : Int) (hb0 : 0 ≤ b) (hab : w.heap[s + 1]? = some (.cells #[.int .u64 a, .int .u64 b] 25))
    {α : Type} (A : List α) (f : α → It) (hAf : A.map f = xs) {K : World → World → Prop} {Rk : Nat → World → Prop} (hF : FenA w.heap.size K Rk) (hfr : ∀ (W : World) (r : Nat), Below w.heap.size w W → W.heap.size ≤ r → Rk r W) :
    SeqStopsK Fence.wide n Tryz.prog 28 #[.pointer (some ⟨s, 0, none⟩), .pointer (some ⟨s + 1, 0, none⟩)] (fun x : α => #[.string (f x).1, .string (f x).2]) K (fun ys => ys = (piecesA a b).flatMap fun p => A.filter fun y => inP p (f y))
      (fun pre => ∃ k, k ≤ ((piecesA a b).flatMap fun p => A.filter fun y => inP p (f y)).length ∧ pre = ((piecesA a b).flatMap fun p => A.filter fun y => inP p (f y)).take k) ((piecesA a b).flatMap fun p => A.filter fun y => inP p (f y)).length w :=
  walkArc1_gen n (h.gives hn) hn (sh_small h) s hS a b hb0 hab A f hAf hF hfr
end Go.Proofs.YthknenhcnpgkcaaGreat

/- Package walk: Middle. -/
namespace Go.Proofs.YthknenhcnpgkcaaGreat
open Go.RowKit Go.Shelf
attribute [local go_sem] Oper.semAt_some
set_option linter.unusedVariables false
set_option linter.unusedSimpArgs false
theorem alloc7 (W : World) (o0 o1 o2 o3 o4 o5 o6 : Obj) : (((((((W.alloc o0).alloc o1).alloc o2).alloc o3).alloc o4).alloc o5).alloc o6).heap[W.heap.size]? = some o0 ∧ (((((((W.alloc o0).alloc o1).alloc o2).alloc o3).alloc o4).alloc o5).alloc o6).heap[W.heap.size + 1]? = some o1 ∧ (((((((W.alloc o0).alloc o1).alloc o2).alloc o3).alloc o4).alloc o5).alloc o6).heap[W.heap.size + 1 + 1]? = some o2 ∧ (((((((W.alloc o0).alloc o1).alloc o2).alloc o3).alloc o4).alloc o5).alloc o6).heap[W.heap.size + 1 + 1 + 1]? = some o3 ∧ (((((((W.alloc o0).alloc o1).alloc o2).alloc o3).alloc o4).alloc o5).alloc o6).heap[W.heap.size + 1 + 1 + 1 + 1]? = some o4 ∧ (((((((W.alloc o0).alloc o1).alloc o2).alloc o3).alloc o4).alloc o5).alloc o6).heap[W.heap.size + 1 + 1 + 1 + 1 + 1]? = some o5 ∧ (((((((W.alloc o0).alloc o1).alloc o2).alloc o3).alloc o4).alloc o5).alloc o6).heap[W.heap.size + 1 + 1 + 1 + 1 + 1 + 1]? = some o6 :=
  ⟨(heap_alloc_other _ _ _ (by simp only [World.size_alloc]; omega)).trans ((heap_alloc_other _ _ _ (by simp only [World.size_alloc]; omega)).trans ((heap_alloc_other _ _ _ (by simp only [World.size_alloc]; omega)).trans ((heap_alloc_other _ _ _ (by simp only [World.size_alloc]; omega)).trans ((heap_alloc_other _ _ _ (by simp only [World.size_alloc]; omega)).trans ((heap_alloc_other _ _ _ (by simp only [World.size_alloc]; omega)).trans (heap_alloc_at _ _ _ (by simp))))))), (heap_alloc_other _ _ _ (by simp only [World.size_alloc]; omega)).trans ((heap_alloc_other _ _ _ (by simp only [World.size_alloc]; omega)).trans ((heap_alloc_other _ _ _ (by simp only [World.size_alloc]; omega)).trans ((heap_alloc_other _ _ _ (by simp only [World.size_alloc]; omega)).trans ((heap_alloc_other _ _ _ (by simp only [World.size_alloc]; omega)).trans (heap_alloc_at _ _ _ (by simp)))))), (heap_alloc_other _ _ _ (by simp only [World.size_alloc]; omega)).trans ((heap_alloc_other _ _ _ (by simp only [World.size_alloc]; omega)).trans ((heap_alloc_other _ _ _ (by simp only [World.size_alloc]; omega)).trans ((heap_alloc_other _ _ _ (by simp only [World.size_alloc]; omega)).trans (heap_alloc_at _ _ _ (by simp))))), (heap_alloc_other _ _ _ (by simp only [World.size_alloc]; omega)).trans ((heap_alloc_other _ _ _ (by simp only [World.size_alloc]; omega)).trans ((heap_alloc_other _ _ _ (by simp only [World.size_alloc]; omega)).trans (heap_alloc_at _ _ _ (by simp)))), (heap_alloc_other _ _ _ (by simp only [World.size_alloc]; omega)).trans ((heap_alloc_other _ _ _ (by simp only [World.size_alloc]; omega)).trans (heap_alloc_at _ _ _ (by simp))), (heap_alloc_other _ _ _ (by simp only [World.size_alloc]; omega)).trans (heap_alloc_at _ _ _ (by simp)), heap_alloc_at _ _ _ (by simp)⟩
/-- The address of the last one of the first h. -/
def lastOf {α : Type} (ad : α → Int) (h : Nat) (p : List α) : Int := ((p.take h).map ad).getLast?.getD 0
theorem lastOf_few {α : Type} (ad : α → Int) {h : Nat} {p : List α} {y : α} (hp : p.length < h) : lastOf ad h (p ++ [y]) = ad y := by
  unfold lastOf
  rw [List.take_of_length_le (by rw [List.length_append]; simp; omega)]
  simp
theorem lastOf_many {α : Type} (ad : α → Int) {h : Nat} {p : List α} (y : List α) (hp : h ≤ p.length) : lastOf ad h (p ++ y) = lastOf ad h p := by
  unfold lastOf
  rw [List.take_append_of_le_length hp]
theorem lastOf_getD {α : Type} (ad : α → Int) {h : Nat} {p : List α} (h1 : 1 ≤ h) (hp : h ≤ p.length) : (p.map ad).getD (h - 1) 0 = lastOf ad h p := by
  unfold lastOf
  rw [List.getLast?_eq_getElem?, List.getD_eq_getElem?_getD, List.length_map, List.length_take, List.map_take, List.getElem?_take, if_pos (by omega)]
  congr 2
  omega
theorem mid_none {α : Type} (ad : α → Int) {L : List α} (hC : ∀ x ∈ L.drop ((L.length + 1) / 2), ad x = lastOf ad ((L.length + 1) / 2) L) : midL (L.map ad) = none := by
  unfold midL
  rw [List.length_map, List.find?_eq_none]
  intro x hx
  rw [← List.map_drop] at hx
  obtain ⟨y, hy, rfl⟩ := List.mem_map.1 hx
  have hl : 0 < L.length := by
    have := List.length_pos_of_mem hy
    rw [List.length_drop] at this; omega
  rw [lastOf_getD ad (by omega) (by omega), hC y hy]
  simp
theorem mid_some {α : Type} (ad : α → Int) {L p R : List α} {y : α} (hL : L = p ++ y :: R) (hp : (L.length + 1) / 2 ≤ p.length) (hC : ∀ x ∈ p.drop ((L.length + 1) / 2), ad x = lastOf ad ((L.length + 1) / 2) p) (hy : ad y ≠ lastOf ad ((L.length + 1) / 2) p) : midL (L.map ad) = some (ad y) := by
  have hl : 0 < L.length := by rw [hL, List.length_append, List.length_cons]; omega
  unfold midL
  rw [List.length_map, lastOf_getD ad (by omega) (by omega)]
  generalize (L.length + 1) / 2 = h at hp hC hy
  have e : lastOf ad h L = lastOf ad h p := by rw [hL, lastOf_many ad _ hp]
  rw [e, hL, List.map_append, List.drop_append_of_le_length (by rw [List.length_map]; exact hp), List.find?_append, ← List.map_drop, List.find?_eq_none.2, List.map_cons, List.find?_cons_of_pos]
  · rfl
  · simpa using hy
  · intro x hx
    obtain ⟨z, hz, rfl⟩ := List.mem_map.1 hx
    rw [hC z hz]; simp
set_option maxRecDepth 100000 in
set_option maxHeartbeats 4000000 in
theorem middle_is {α : Type} (L : List α) (f : α → It) (hL : L.length ≤ 900) (hsm : ∀ y, (f y).1.size ≤ maxLen) (g : Option Addr) (a b : Int) (W : World)
    (hcount : ∀ V, Below W.heap.size W V → Calls Tryz.prog 63 #[.pointer g, .agg #[.int .u64 a, .int .u64 b]] V (Makes (.int .i64 (L.length : Nat)) V))
    (hseq : ∀ (V : World) (s : Nat) (S : Nat → Prop), Below W.heap.size W V → V.heap[s]? = some (.cells #[.pointer g] 27) → V.heap[s + 1]? = some (.cells #[.int .u64 a, .int .u64 b] 25) → (∀ k, S k → k < V.heap.size) → (∀ k, S k → W.heap.size ≤ k) → ¬ S s → ¬ S (s + 1) →
      SeqStopsK Fence.wide 8 Tryz.prog 28 #[.pointer (some ⟨s, 0, none⟩), .pointer (some ⟨s + 1, 0, none⟩)] (fun x : α => #[.string (f x).1, .string (f x).2]) (KpS S) (fun ys => ys = L) (fun pre => ∃ k, k ≤ L.length ∧ pre = L.take k) L.length V) :
    Calls Tryz.prog 17 #[.pointer g, .agg #[.int .u64 a, .int .u64 b]] W (Makes (.tuple #[.int .u64 ((midL (L.map fun y => adr (f y))).getD 0), .bool (midL (L.map fun y => adr (f y))).isSome]) W) := by
  refine callsIn_wide.1 (callsIn_of_wp_marks (n := 9) Tryz.func17 rfl trivial ?_ rfl)
  rw [wpIn_wide]
  simp only [Tryz.ntmps17, List.size_toArray, List.length_cons, List.length_nil, Nat.reduceAdd, Nat.reduceSub, Array.replicate_succ, Array.replicate_zero, List.push_toArray, List.append_toArray, List.nil_append, List.cons_append]
  obtain ⟨n, hn⟩ : ∃ n, L.length = n := ⟨_, rfl⟩
  have HN := hid hn
  have HCT := hid hcount
  have HSQ := hid hseq
  rw [hn] at hL
  rw [hn] at HCT
  clear hn hcount hseq
  go_wp2_with fail
  go_step3
  go_wp2_with fail
  (((with_reducible refine (HCT.out _ (by repeat' (first | exact Below.refl _ _ | with_reducible assumption | omega | with_reducible refine below_put_fut ?_ ?_ _ | with_reducible refine below_to_put ?_ | with_reducible refine Below.alloc ?_ ?_ _ | with_reducible refine Below.fut ?_ ?_ _ | with_reducible refine Below.drew ?_ | with_reducible refine Below.setCell ?_ ?_ _ | with_reducible refine Below.atPut ?_ ?_ _ | (simp [go_sem]; done) | (simp [go_sem]; omega)))).mono ?_)); rintro _ _ ⟨rfl, u, rfl⟩)
  have e1 : IntKind.i64.wrap ((n : Int) + 1) = (n : Int) + 1 := IntWalk.i64_in _ (by omega)
  have e2 : ((n : Int) + 1).tdiv 2 = (((n + 1) / 2 : Nat) : Int) := by rw [Int.tdiv_eq_ediv_of_nonneg (by omega)]; omega
  have hbu : Below W.heap.size W u.val := (by repeat' (first | exact Below.refl _ _ | with_reducible assumption | omega | with_reducible refine below_put_fut ?_ ?_ _ | with_reducible refine below_to_put ?_ | with_reducible refine Below.alloc ?_ ?_ _ | with_reducible refine Below.fut ?_ ?_ _ | with_reducible refine Below.drew ?_ | with_reducible refine Below.setCell ?_ ?_ _ | with_reducible refine Below.atPut ?_ ?_ _ | (simp [go_sem]; done) | (simp [go_sem]; omega)))
  have hc3 : u.val.heap[W.heap.size]? = some (.cells #[.int .u64 a, .int .u64 b] 25) := (u.below.block _ (by simp)).trans (heap_alloc_at _ _ _ rfl)
  have e3 := fun i => cell_of_row u.val _ i _ _ (0, 0) hc3
  have l3 := lt_of_heap hc3
  generalize u.val = V0 at hbu e3 l3 ⊢
  clear hc3
  obtain ⟨h, hh⟩ : ∃ h : Nat, ((n : Int) + 1) / 2 = (h : Int) := ⟨(n + 1) / 2, by omega⟩
  have HH := hid (show h = (n + 1) / 2 by omega)
  go_wp2_with fail

  clear hh e1 e2
  go_step3
  go_wp2_with fail
  (((with_reducible refine (walkArc_is g a b _).mono ?_)); rintro _ _ ⟨rfl, rfl⟩)
  go_wp2_with fail
  have hz0 := hbu.size
  obtain ⟨k0, k1, k2, k3, k4, k5, k6⟩ := alloc7 V0 (.cells #[.int .i64 (h : Nat)] 3) (.cells #[.int .i64 0] 3) (.cells #[.int .u64 0] 23) (.cells #[.int .u64 0] 23) (.cells #[.bool false] 4) (.cells #[.pointer g] 27) (.cells #[.int .u64 a, .int .u64 b] 25)
  have hbV : Below W.heap.size W (((((((V0.alloc (.cells #[.int .i64 (h : Nat)] 3)).alloc (.cells #[.int .i64 0] 3)).alloc (.cells #[.int .u64 0] 23)).alloc (.cells #[.int .u64 0] 23)).alloc (.cells #[.bool false] 4)).alloc (.cells #[.pointer g] 27)).alloc (.cells #[.int .u64 a, .int .u64 b] 25)) := (by repeat' (first | exact Below.refl _ _ | with_reducible assumption | omega | with_reducible refine below_put_fut ?_ ?_ _ | with_reducible refine below_to_put ?_ | with_reducible refine Below.alloc ?_ ?_ _ | with_reducible refine Below.fut ?_ ?_ _ | with_reducible refine Below.drew ?_ | with_reducible refine Below.setCell ?_ ?_ _ | with_reducible refine Below.atPut ?_ ?_ _ | (simp [go_sem]; done) | (simp [go_sem]; omega)))
  generalize (((((((V0.alloc (.cells #[.int .i64 (h : Nat)] 3)).alloc (.cells #[.int .i64 0] 3)).alloc (.cells #[.int .u64 0] 23)).alloc (.cells #[.int .u64 0] 23)).alloc (.cells #[.bool false] 4)).alloc (.cells #[.pointer g] 27)).alloc (.cells #[.int .u64 a, .int .u64 b] 25)) = V at k0 k1 k2 k3 k4 k5 k6 hbV ⊢
  have hV6 := lt_of_heap k6
  have hVs := hbV.size
  generalize V0.heap.size = B at k0 k1 k2 k3 k4 k5 k6 hV6 hz0 ⊢
  refine wpIn_wide.1 (wpIn_rangeFunc_ownH (F := Fence.wide) (n := 9) rfl (by omega) (gf := 28) (lb := #[.pointer (some ⟨B + 1 + 1 + 1 + 1 + 1, 0, none⟩), .pointer (some ⟨B + 1 + 1 + 1 + 1 + 1 + 1, 0, none⟩)]) rfl trivial (enters_of Tryz.func28 (by kernel_rfl) rfl)
    (HSQ.out V (B + 1 + 1 + 1 + 1 + 1) (fun k => k = B + 1 ∨ k = B + 1 + 1 ∨ k = B + 1 + 1 + 1 ∨ k = B + 1 + 1 + 1 + 1) hbV k5 k6 (fun k hk => by omega) (fun k hk => by omega) (by omega) (by omega)) (fun h k => h.trans k) (fun X q o o' hq hX hc _ => KpS.putObj _ X q o o' hX hc) (Below.refl _ _) (fun _ => rfl)
    (fun pre X => ((X.heap[B]? = some (.cells #[.int .i64 (h : Nat)] 3) ∧ X.heap[B + 1]? = some (.cells #[.int .i64 (pre.length : Nat)] 3) ∧ X.heap[B + 1 + 1]? = some (.cells #[.int .u64 (lastOf (fun y => adr (f y)) h pre)] 23) ∧ X.heap[B + 1 + 1 + 1]? = some (.cells #[.int .u64 0] 23) ∧ X.heap[B + 1 + 1 + 1 + 1]? = some (.cells #[.bool false] 4)) ∧ Below W.heap.size W X) ∧ ∀ x ∈ pre.drop h, adr (f x) = lastOf (fun y => adr (f y)) h pre)
    (fun c pre X => (c = .exit 0 ∧ ∃ p y, pre = p ++ [y] ∧ h ≤ p.length ∧ (∀ x ∈ p.drop h, adr (f x) = lastOf (fun y => adr (f y)) h p) ∧ adr (f y) ≠ lastOf (fun y => adr (f y)) h p ∧ X.heap[B + 1 + 1 + 1]? = some (.cells #[.int .u64 (adr (f y))] 23) ∧ X.heap[B + 1 + 1 + 1 + 1]? = some (.cells #[.bool true] 4)) ∧ Below W.heap.size W X)
    ?hI ?hIx ⟨⟨⟨k0, k1, by simpa [lastOf] using k2, k3, k4⟩, hbV⟩, by simp⟩
    (fun y a' X => a' = { tmps := #[.pointer g, .agg #[.int .u64 a, .int .u64 b], undef, .pointer (some ⟨W.heap.size, 0, none⟩), .int .u64 0, .bool false, .pointer (some ⟨B, 0, none⟩), .pointer (some ⟨B + 1, 0, none⟩), .pointer (some ⟨B + 1 + 1, 0, none⟩), .pointer (some ⟨B + 1 + 1 + 1, 0, none⟩), .pointer (some ⟨B + 1 + 1 + 1 + 1, 0, none⟩), .string (f y).1, undef, .pointer g, .agg #[.int .u64 a, .int .u64 b], .int .i64 n, .int .i64 (n + 1), .int .i64 h, .pointer g, .agg #[.int .u64 a, .int .u64 b], .func (.func 28) #[] #[.pointer (some ⟨B + 1 + 1 + 1 + 1 + 1, 0, none⟩), .pointer (some ⟨B + 1 + 1 + 1 + 1 + 1 + 1, 0, none⟩)], .string (f y).1, .string (f y).2, undef, undef, undef, undef, undef, undef, undef, undef, undef, undef, undef, undef, undef, undef, undef, undef], defers := [] })
    (fun x a' s X Y row hs hg hr => hs) ?assign ?body ?done ?stop)
  case hI => exact OwnFrom.and (OwnFrom.and (OwnFrom.and (ownFrom_heap _ _ (fun _ => #[.int .i64 (h : Nat)]) _ _) (OwnFrom.and (ownFrom_heap _ _ (fun pre : List α => #[.int .i64 (pre.length : Nat)]) _ _) (OwnFrom.and (ownFrom_heap _ _ (fun pre : List α => #[.int .u64 (lastOf (fun y => adr (f y)) h pre)]) _ _) (OwnFrom.and (ownFrom_heap _ _ (fun pre : List α => #[.int .u64 0]) _ _) (ownFrom_heap _ _ (fun pre : List α => #[.bool false]) _ _))))) (ownFrom_below (Nat.le_refl _) hVs)) (fun _ _ _ _ hs _ _ => hs)
  case hIx =>
    exact fun c => OwnFrom.and (fun s X Y row hs hg hr => by
      obtain ⟨h1, p, y, h2, h3, h4, h5, h6, h7⟩ := hs
      exact ⟨h1, p, y, h2, h3, h4, h5, (grownBy_keeps_cells hg (fun r e => (hr r e).2) h6 rfl).trans h6, (grownBy_keeps_cells hg (fun r e => (hr r e).2) h7 rfl).trans h7⟩) (ownFrom_below (Nat.le_refl _) hVs)
  case assign =>
    rintro ll pre y X K ⟨⟨hi, iB⟩, iC⟩ hK
    have HI := hid hi
    have HB := hid iB
    have HC := hid iC
    have HK := hid hK
    clear hi iB iC hK
    gi_wp2_with fail
    exact HK.out _ _ (KeepsFrom.chg (S := fun _ => False) (Chg.refl _ _) (fun k hk => hk.elim)) (KpS.refl _ _) ⟨⟨HI.out, HB.out⟩, HC.out⟩ (by simp)
  case body =>
    rintro ll pre y a' X hll hr ⟨⟨⟨i0, i1, i2, i3, i4⟩, iB⟩, iC⟩ rfl hlen
    have hXs := iB.size
    have IB := hid iB
    have IC := hid iC
    have I1 := hid i1
    have I2 := hid i2
    have l1 := lt_of_heap i1
    have l4 := lt_of_heap i4
    obtain ⟨ad, had⟩ : ∃ ad, addrN (f y).1.data.toList = ad := ⟨_, rfl⟩
    have HAD := hid (show adr (f y) = ad by unfold adr; rw [had])
    have I0 := hid i0
    have I3 := hid i3
    have I4 := hid i4
    clear hr iB iC i0 i1 i2 i3 i4
    gi_wp2_with fail
    refine ⟨trivial, CallsIn.inRound _ (callsIn_wide.2 ((addr_any _ (hsm y) ad had _).mono ?_))⟩
    rintro _ _ ⟨rfl, u, rfl⟩
    have hbu := u.below
    have i0 := (hbu.block _ (lt_of_heap I0.out)).trans I0.out
    have i1 := (hbu.block _ (lt_of_heap I1.out)).trans I1.out
    have i2 := (hbu.block _ (lt_of_heap I2.out)).trans I2.out
    have i3 := (hbu.block _ (lt_of_heap I3.out)).trans I3.out
    have i4 := (hbu.block _ (lt_of_heap I4.out)).trans I4.out
    have HBU := hid hbu
    have hzu := hbu.size
    have hbW := hid (IB.out.trans (hbu.mono hXs))
    generalize u.val = Y at HBU hzu hbW i0 i1 i2 i3 i4 ⊢
    clear hbu had I0 I1 I2 I3 I4
    have hlB : B + 1 + 1 + 1 + 1 < Y.heap.size := lt_of_heap i4
    have e0 := fun i => cell_of_row Y B i _ _ (0, 0) i0
    have e1' := fun i => cell_of_row Y (B + 1) i _ _ (0, 0) i1
    have e2' := fun i => cell_of_row Y (B + 1 + 1) i _ _ (0, 0) i2
    have ew : IntKind.i64.wrap ((pre.length : Int) + 1) = (pre.length : Int) + 1 := IntWalk.i64_in _ (by have := HN.out; omega)
    obtain ⟨S, hS⟩ : ∃ S : Nat → Prop, S = fun k => k = B + 1 ∨ k = B + 1 + 1 ∨ k = B + 1 + 1 + 1 ∨ k = B + 1 + 1 + 1 + 1 := ⟨_, rfl⟩
    have HS := hid hS
    have HCH := hid (fun (k1 k2 : Nat) (o1 o2 : Obj) (h1 : S k1) (h2 : S k2) => ((Chg.of_below (S := S) HBU.out).put (g := k1) (fun _ => h1) o1).put (g := k2) (fun _ => h2) o2)
    have HCH1 := hid (fun (k1 : Nat) (o1 : Obj) (h1 : S k1) => ((Chg.of_below (S := S) HBU.out).put (g := k1) (fun _ => h1) o1))
    have HKF := hid (fun k (hk : S k) => show k < V.heap.size by rw [hS] at hk; omega)
    have l0 := lt_of_heap i0
    have hB0 : W.heap.size ≤ B := by omega
    by_cases c : pre.length < h
    · have d1 : decide ((pre.length : Int) < (h : Int)) = true := decide_eq_true (by omega)
      have HY2 := hid (show put (put Y (B + 1 + 1) (.cells #[.int .u64 (lastOf (fun y => adr (f y)) h pre)] 23)) (B + 1) (.cells #[.int .i64 (pre.length : Nat)] 3) = Y by rw [put_self i2, put_self i1])
      have HCC := hid c
      have I0 := hid i0
      have I3 := hid i3
      have I4 := hid i4
      clear i0 i1 i2 i3 i4 c e1' e2' hS
      rw [← HY2.out]
      gi_wp2_with fail
      refine ⟨KeepsFrom.chg (HCH.out _ _ _ _ (by rw [HS.out]; omega) (by rw [HS.out]; omega)) HKF.out, KpS.chg (by rw [← HS.out]; exact HCH.out _ _ _ _ (by rw [HS.out]; omega) (by rw [HS.out]; omega)), ⟨⟨?_, ?_, ?_, ?_, ?_⟩, ?_⟩, ?_⟩
      · rw [heap_put_other _ _ _ _ (by omega), heap_put_other _ _ _ _ (by omega)]; exact I0.out
      · rw [List.length_append]; exact heap_put_at _ _ _ (by rw [size_put]; omega)
      · rw [heap_put_other _ _ _ _ (by omega), lastOf_few _ HCC.out, HAD.out]; exact heap_put_at _ _ _ (by omega)
      · rw [heap_put_other _ _ _ _ (by omega), heap_put_other _ _ _ _ (by omega)]; exact I3.out
      · rw [heap_put_other _ _ _ _ (by omega), heap_put_other _ _ _ _ (by omega)]; exact I4.out
      · exact Below.atPut (Below.atPut hbW.out (by omega) _) (by omega) _
      · intro x hx
        rw [List.drop_eq_nil_of_le (by rw [List.length_append]; have := HCC.out; simp; omega)] at hx
        cases hx
    · have d1 : decide ((pre.length : Int) < (h : Int)) = false := decide_eq_false (by omega)
      have d1n : decide (pre.length < h) = false := decide_eq_false c
      have HCC := hid (show h ≤ pre.length by omega)
      by_cases q : (ad : Int) = lastOf (fun y => adr (f y)) h pre
      · have HY2 := hid (show put Y (B + 1) (.cells #[.int .i64 (pre.length : Nat)] 3) = Y by rw [put_self i1])
        have HQ := hid q
        obtain ⟨la, hla⟩ : ∃ la, lastOf (fun y => adr (f y)) h pre = la := ⟨_, rfl⟩
        have HLA := hid hla
        rw [hla] at e2' i2 q
        subst q
        have I0 := hid i0
        have I2 := hid i2
        have I3 := hid i3
        have I4 := hid i4
        clear i0 i1 i2 i3 i4 c hS e1' hla
        rw [← HY2.out]
        gi_wp2_with fail
        refine ⟨KeepsFrom.chg (HCH1.out _ _ (by rw [HS.out]; omega)) HKF.out, KpS.chg (by rw [← HS.out]; exact HCH1.out _ _ (by rw [HS.out]; omega)), ⟨⟨?_, ?_, ?_, ?_, ?_⟩, ?_⟩, ?_⟩
        · rw [heap_put_other _ _ _ _ (by omega)]; exact I0.out
        · rw [List.length_append]; exact heap_put_at _ _ _ (by omega)
        · rw [heap_put_other _ _ _ _ (by omega), lastOf_many _ _ HCC.out, HLA.out]; exact I2.out
        · rw [heap_put_other _ _ _ _ (by omega)]; exact I3.out
        · rw [heap_put_other _ _ _ _ (by omega)]; exact I4.out
        · exact Below.atPut hbW.out (by omega) _
        · intro x hx
          rw [List.drop_append_of_le_length HCC.out] at hx
          rw [lastOf_many _ _ HCC.out]
          rcases List.mem_append.1 hx with hx | hx
          · exact IC.out x hx
          · obtain rfl := List.mem_singleton.1 hx
            rw [HAD.out, HLA.out]
      · have HY2 := hid (show put (put Y (B + 1 + 1 + 1) (.cells #[.int .u64 0] 23)) (B + 1 + 1 + 1 + 1) (.cells #[.bool false] 4) = Y by rw [put_self i3, put_self i4])
        obtain ⟨la, hla⟩ : ∃ la, lastOf (fun y => adr (f y)) h pre = la := ⟨_, rfl⟩
        have HLA := hid hla
        rw [hla] at e2' i2 q
        have q1 : ((ad : Int) == la) = false := by simpa using q
        have q2 : ((ad : Int) != la) = true := by simpa using q
        have HQ := hid q
        clear i0 i1 i2 i3 i4 c hS q hla
        rw [← HY2.out]
        gi_wp2_with fail
        refine ⟨KeepsFrom.chg (HCH.out _ _ _ _ (by rw [HS.out]; omega) (by rw [HS.out]; omega)) HKF.out, ⟨rfl, pre, y, rfl, HCC.out, IC.out, by rw [HAD.out, HLA.out]; exact HQ.out, ?_, ?_⟩, ?_⟩
        · rw [heap_put_other _ _ _ _ (by omega), HAD.out]; exact heap_put_at _ _ _ (by omega)
        · exact heap_put_at _ _ _ (by rw [size_put]; omega)
        · exact Below.atPut (Below.atPut hbW.out (by omega) _) (by omega) _
  case done =>
    rintro D ys X hD hys ⟨⟨⟨i0, i1, i2, i3, i4⟩, iB⟩, iC⟩ hK
    have hys : L = ys := hys.symm
    subst hys
    have hx4 := lt_of_heap i4
    have hXs := iB.size
    have e3' := fun i => cell_of_row X (B + 1 + 1 + 1) i _ _ (0, 0) i3
    have e4' := fun i => cell_of_row X (B + 1 + 1 + 1 + 1) i _ _ (0, 0) i4
    have HM := hid (show midL (L.map fun y => adr (f y)) = none from mid_none (fun y => adr (f y)) (by rw [HN.out, ← HH.out]; exact iC))
    have IB := hid iB
    have HK := hid hK
    clear i0 i1 i2 i3 i4 iB iC hK
    have hx3 : B + 1 + 1 + 1 < X.heap.size := by omega
    go_wp2_with (first | (((with_reducible refine wp_region_fut_lit (by kernel_rfl) (by kernel_rfl) ?_)); (repeat (go_big_quiet_step ((first | fail)))); ((with_reducible refine wpQuiet_nil ?_)); rintro _ ⟨u, rfl⟩; (try (rw [Fut.put_self u (by first | assumption | (simp [go_sem]; done) | (simp [go_sem]; omega))]))))
    have hbX := u.below
    have hDX := (hbX.block _ (lt_of_heap HK.out)).trans HK.out
    generalize u.val = X2 at hbX hDX ⊢
    try rw [Exit.noGoto_ret]
    refine ⟨by simp, .inl ⟨_, _, rfl, run_takeDeferred hDX, ?_⟩⟩
    exact ⟨.tuple #[.int .u64 ((midL (L.map fun y => adr (f y))).getD 0), .bool (midL (L.map fun y => adr (f y))).isSome], by rw [HM.out]; simp [results, Tryz.results17, go_sem], .mk rfl (IB.out.trans ((hbX.mono IB.out.size).trans (belowK_b (w := W) (Nat.le_refl _) X2 D _ _ (by omega) hDX rfl rfl)))⟩
  case stop =>
    rintro D c pre X hD ⟨q, hq, rfl⟩ ⟨⟨rfl, p, y, hp, h3, h4, h5, i3, i4⟩, iB⟩ hK
    have hx4 := lt_of_heap i4
    have e3' := fun i => cell_of_row X (B + 1 + 1 + 1) i _ _ (0, 0) i3
    have e4' := fun i => cell_of_row X (B + 1 + 1 + 1 + 1) i _ _ (0, 0) i4
    have HM := hid (show midL (L.map fun y => adr (f y)) = some (adr (f y)) from mid_some (fun y => adr (f y)) (p := p) (R := L.drop q) (by rw [List.append_cons, ← hp, List.take_append_drop]) (by rw [HN.out, ← HH.out]; exact h3) (by rw [HN.out, ← HH.out]; exact h4) (by rw [HN.out, ← HH.out]; exact h5))
    have IB := hid iB
    have HK := hid hK
    obtain ⟨ad, had⟩ : ∃ ad, adr (f y) = ad := ⟨_, rfl⟩
    rw [had] at e3'
    have HAD := hid had
    clear i3 i4 iB hK h4 h5
    have hx3 : B + 1 + 1 + 1 < X.heap.size := by omega
    subst had
    rw [wpIn_wide]
    go_wp2_with (first | (((with_reducible refine wp_region_fut_lit (by kernel_rfl) (by kernel_rfl) ?_)); (repeat (go_big_quiet_step ((first | fail)))); ((with_reducible refine wpQuiet_nil ?_)); rintro _ ⟨u, rfl⟩; (try (rw [Fut.put_self u (by first | assumption | (simp [go_sem]; done) | (simp [go_sem]; omega))]))))
    have hbX := u.below
    have hDX := (hbX.block _ (lt_of_heap HK.out)).trans HK.out
    generalize u.val = X2 at hbX hDX ⊢
    try rw [Exit.noGoto_ret]
    refine ⟨by simp, .inl ⟨_, _, rfl, run_takeDeferred hDX, ?_⟩⟩
    exact ⟨.tuple #[.int .u64 ((midL (L.map fun y => adr (f y))).getD 0), .bool (midL (L.map fun y => adr (f y))).isSome], by rw [HM.out]; simp [results, Tryz.results17, go_sem], .mk rfl (IB.out.trans ((hbX.mono IB.out.size).trans (belowK_b (w := W) (Nat.le_refl _) X2 D _ _ (by omega) hDX rfl rfl)))⟩
end Go.Proofs.YthknenhcnpgkcaaGreat

/- Package walk on a shelf that holds items: Count, Middle, Collect of All and of Arc. -/
namespace Go.Proofs.YthknenhcnpgkcaaGreat
open Go.RowKit Go.Shelf
set_option linter.unusedVariables false
set_option linter.unusedSimpArgs false
theorem fut_mk {W W' : World} (h : Below W.heap.size W W') : ∃ u : Fut W, W' = u.val := ⟨⟨W', h⟩, rfl⟩
theorem attach_filter (xs : List It) (p : It → Bool) : (xs.attach.filter fun y => p y.1).map Subtype.val = xs.filter p := by
  have h := List.filter_map (f := (Subtype.val : {x // x ∈ xs} → It)) (p := p) (l := xs.attach)
  rw [List.attach_map_subtype_val] at h
  rw [h]
  rfl
theorem arcL_attach (a b : Int) (xs : List It) : (((piecesA a b).flatMap fun p => xs.attach.filter fun y => inP p y.1).map Subtype.val) = arcL a b xs := by
  unfold arcL
  rw [List.map_flatMap]
  congr 1
  funext p
  exact attach_filter xs (inP p)
theorem arcL_attach_len (a b : Int) (xs : List It) : ((piecesA a b).flatMap fun p => xs.attach.filter fun y => inP p y.1).length = (arcL a b xs).length := by
  rw [← arcL_attach, List.length_map]
section
variable {B0 : Nat} {w0 : World} {most : Int} {xs : List It} {g : Nat} {W : World}
set_option maxRecDepth 100000 in
set_option maxHeartbeats 400000 in
theorem sh_count (h : Sh B0 w0 most xs g W) (hn : xs.length ≤ 900) {a b : Int} (ha : 0 ≤ a) (ha2 : a < 18446744073709551616) (hb : 0 ≤ b) (hb2 : b < 18446744073709551616) (n : Nat) (hl : (arcL a b xs).length = n) :
    Calls Tryz.prog 63 #[.pointer (some ⟨g, 0, none⟩), .agg #[.int .u64 a, .int .u64 b]] W (Makes (.int .i64 n) W) := by
  have hle := arcL_len_le ha ha2 hb hb2 xs
  rw [hl] at hle
  have := count_is ((piecesA a b).flatMap fun p => xs.attach.filter fun y => inP p y.1) Subtype.val (by rw [arcL_attach_len, hl]; omega) (some ⟨g, 0, none⟩) a b W
    (fun V s C hbV hS hab hC hC2 hs1 hs2 => by
      have hF : FenA V.heap.size (KpS fun k => k = C) (fun r _ => ¬ (r = C)) := fenA_S (S := fun k => k = C) (fun k hk => by subst hk; exact hC)
      have hfr : ∀ (W' : World) (r : Nat), Below V.heap.size V W' → W'.heap.size ≤ r → ¬ (r = C) := fun W' r hb hr e => by have := hb.size; omega
      exact walkArc1_stops 8 (h.on hbV h.ge) hn s hS a b hb hab xs.attach Subtype.val (List.attach_map_subtype_val xs) hF hfr)
  rwa [arcL_attach_len, hl] at this
set_option maxRecDepth 100000 in
set_option maxHeartbeats 400000 in
theorem sh_middle (h : Sh B0 w0 most xs g W) (hn : xs.length ≤ 900) {a b : Int} (ha : 0 ≤ a) (ha2 : a < 18446744073709551616) (hb : 0 ≤ b) (hb2 : b < 18446744073709551616) (m : Int) (is : Bool) (h1 : (midL ((arcL a b xs).map adr)).getD 0 = m) (h2 : (midL ((arcL a b xs).map adr)).isSome = is) :
    Calls Tryz.prog 17 #[.pointer (some ⟨g, 0, none⟩), .agg #[.int .u64 a, .int .u64 b]] W (Makes (.tuple #[.int .u64 m, .bool is]) W) := by
  have hle := arcL_len_le ha ha2 hb hb2 xs
  have := middle_is ((piecesA a b).flatMap fun p => xs.attach.filter fun y => inP p y.1) Subtype.val (by rw [arcL_attach_len]; omega) (fun y => sh_small h y.1 y.2) (some ⟨g, 0, none⟩) a b W
    (fun V hbV => by rw [arcL_attach_len]; exact sh_count (h.on hbV h.ge) hn ha ha2 hb hb2 _ rfl)
    (fun V s S hbV hS hab hS1 hS2 hs1 hs2 => by
      have hF : FenA V.heap.size (KpS S) (fun r _ => ¬ S r) := fenA_S hS1
      have hfr : ∀ (W' : World) (r : Nat), Below V.heap.size V W' → W'.heap.size ≤ r → ¬ S r := fun W' r hb hr e => by have := hb.size; have := hS1 r e; omega
      exact walkArc1_stops 8 (h.on hbV h.ge) hn s hS a b hb hab xs.attach Subtype.val (List.attach_map_subtype_val xs) hF hfr)
  have e : (List.map (fun y => adr (Subtype.val y)) ((piecesA a b).flatMap fun p => xs.attach.filter fun y => inP p y.1)) = (arcL a b xs).map adr := by
    rw [← arcL_attach, List.map_map]; rfl
  rw [e, h1, h2] at this
  exact this
theorem sh_collectArc (h : Sh B0 w0 most xs g W) (hn : xs.length ≤ 900) {a b : Int} (ha : 0 ≤ a) (ha2 : a < 18446744073709551616) (hb : 0 ≤ b) (hb2 : b < 18446744073709551616) (s : Nat) (hS : W.heap[s]? = some (.cells #[.pointer (some ⟨g, 0, none⟩)] 27)) (hab : W.heap[s + 1]? = some (.cells #[.int .u64 a, .int .u64 b] 25)) (m : Nat) (hm : 1 ≤ m) (hm2 : m ≤ 2000) :
    Calls Tryz.prog 14 #[.func (.func 28) #[] #[.pointer (some ⟨s, 0, none⟩), .pointer (some ⟨s + 1, 0, none⟩)], .int .i64 m] W fun e W' => ∃ ao n c, e = .returned (.slice ao n c) ∧ Row W' 59 2 (.slice ao n c) n (flat ((arcL a b xs).take m)) ∧ n = min (arcL a b xs).length m ∧ Below W.heap.size W W' ∧ ∀ k, k < W.heap.size → blk (.slice ao n c) k = 0 := by
  have hle := arcL_len_le ha ha2 hb hb2 xs
  have := collect_is ((piecesA a b).flatMap fun p => xs.attach.filter fun y => inP p y.1) Subtype.val (by rw [arcL_attach_len]; omega) 28 #[.pointer (some ⟨s, 0, none⟩), .pointer (some ⟨s + 1, 0, none⟩)] W (enters_of Tryz.func28 (by kernel_rfl) rfl)
    (fun V A hbV hA hA0 => walkArc1_stops 8 (h.on hbV h.ge) hn s ((hbV.block _ (lt_of_heap hS)).trans hS) a b hb ((hbV.block _ (lt_of_heap hab)).trans hab) xs.attach Subtype.val (List.attach_map_subtype_val xs) (fenA_OS (S := fun _ => False) hA (fun _ h => h.elim)) (fun W' r hb hr => fresh_O hA (fun r e => by rw [hA0] at e; cases e) W' r hb hr))
    m hm hm2
  rwa [arcL_attach, arcL_attach_len] at this
theorem sh_collectAll (h : Sh B0 w0 most xs g W) (hn : xs.length ≤ 900) (s : Nat) (hS : W.heap[s]? = some (.cells #[.pointer (some ⟨g, 0, none⟩)] 27)) (m : Nat) (hm : 1 ≤ m) (hm2 : m ≤ 2000) :
    Calls Tryz.prog 14 #[.func (.func 24) #[] #[.pointer (some ⟨s, 0, none⟩)], .int .i64 m] W fun e W' => ∃ ao n c, e = .returned (.slice ao n c) ∧ Row W' 59 2 (.slice ao n c) n (flat (xs.take m)) ∧ n = min xs.length m ∧ Below W.heap.size W W' ∧ ∀ k, k < W.heap.size → blk (.slice ao n c) k = 0 := by
  have := collect_is xs.attach Subtype.val (by rw [List.length_attach]; omega) 24 #[.pointer (some ⟨s, 0, none⟩)] W (enters_of Tryz.func24 (by kernel_rfl) rfl)
    (fun V A hbV hA hA0 => walkAll1_stops 8 (h.on hbV h.ge) hn s (cell_of_row _ _ 0 _ _ (0, 0) ((hbV.block _ (lt_of_heap hS)).trans hS)) xs.attach Subtype.val (List.attach_map_subtype_val xs) (fen_O A) (fun W' r hb hr => fresh_O hA (fun r e => by rw [hA0] at e; cases e) W' r hb hr))
    m hm hm2
  rwa [List.attach_map_subtype_val, List.length_attach] at this
end
theorem count_nil (W : World) (a b : Int) (hb : 0 ≤ b) : Calls Tryz.prog 63 #[.pointer none, .agg #[.int .u64 a, .int .u64 b]] W (Makes (.int .i64 0) W) := by
  have e : ((piecesA a b).flatMap fun p => ([] : List It).filter fun y => inP p (id y)) = [] := by simp
  have := count_is (α := It) ((piecesA a b).flatMap fun p => ([] : List It).filter fun y => inP p (id y)) id (by rw [e]; simp) none a b W
    (fun V s C hbV hS hab hC hC2 hs1 hs2 => by
      have hF : FenA V.heap.size (KpS fun k => k = C) (fun r _ => ¬ (r = C)) := fenA_S (S := fun k => k = C) (fun k hk => by subst hk; exact hC)
      have hfr : ∀ (W' : World) (r : Nat), Below V.heap.size V W' → W'.heap.size ≤ r → ¬ (r = C) := fun W' r hb hr e => by have := hb.size; omega
      exact walkArc1_gen 8 (gives_nil V) (by simp) (fun x hx => by cases hx) s hS a b hb hab [] id rfl hF hfr)
  rw [e] at this
  exact this
theorem middle_nil (W : World) (a b : Int) (hb : 0 ≤ b) : Calls Tryz.prog 17 #[.pointer none, .agg #[.int .u64 a, .int .u64 b]] W (Makes (.tuple #[.int .u64 0, .bool false]) W) := by
  have e : ((piecesA a b).flatMap fun p => ([] : List {x : It // x.1.size ≤ maxLen}).filter fun y => inP p (Subtype.val y)) = [] := by simp
  have := middle_is (α := {x : It // x.1.size ≤ maxLen}) ((piecesA a b).flatMap fun p => ([] : List {x : It // x.1.size ≤ maxLen}).filter fun y => inP p (Subtype.val y)) Subtype.val (by rw [e]; simp) (fun y => y.2) none a b W
    (fun V hbV => by rw [e]; exact count_nil V a b hb)
    (fun V s S hbV hS hab hS1 hS2 hs1 hs2 => by
      have hF : FenA V.heap.size (KpS S) (fun r _ => ¬ S r) := fenA_S hS1
      have hfr : ∀ (W' : World) (r : Nat), Below V.heap.size V W' → W'.heap.size ≤ r → ¬ S r := fun W' r hb hr e => by have := hb.size; have := hS1 r e; omega
      exact walkArc1_gen 8 (gives_nil V) (by simp) (fun x hx => by cases hx) s hS a b hb hab [] Subtype.val rfl hF hfr)
  rw [e] at this
  exact this
end Go.Proofs.YthknenhcnpgkcaaGreat

/- rosarylaw5.alive. -/
namespace Go.Proofs.YthknenhcnpgkcaaGreat
open Go.RowKit Go.Shelf
set_option linter.unusedVariables false
set_option linter.unusedSimpArgs false
def ex3 : List It := [(⟨#[97]⟩, ⟨#[]⟩), (⟨#[98]⟩, ⟨#[]⟩), (⟨#[99]⟩, ⟨#[]⟩)]
theorem fill3 : fillL [(⟨#[98]⟩, ⟨#[]⟩), (⟨#[97]⟩, ⟨#[]⟩), (⟨#[99]⟩, ⟨#[]⟩)] = ex3 := by decide
theorem mid3 : midL ((arcL 0 0 ex3).map adr) = some 7133701809754865664 := by decide +kernel
theorem mid3a : (midL ((arcL 0 0 ex3).map adr)).getD 0 = 7133701809754865664 := by rw [mid3]; rfl
theorem mid3b : (midL ((arcL 0 0 ex3).map adr)).isSome = true := by rw [mid3]; rfl
theorem walkAt_at {B0 : Nat} {w0 : World} {most : Int} {xs : List It} {g : Nat} {W : World} (h : Sh B0 w0 most xs g W) (hn : xs.length ≤ 900) (i : Nat) (j : Int) (hj : j = i) (x : It) (hx : xs[i]? = some x) :
    Calls Tryz.prog 18 #[.pointer (some ⟨g, 0, none⟩), .int .i64 j] W (Makes (.tuple #[.agg #[.string x.1, .string x.2], .bool true]) W) := by subst hj; exact walkAt_some h hn i x hx
theorem rank3 : rankL ⟨#[99]⟩ ex3 = 2 := by decide
theorem src_blk {W : World} {r : Nat} {cs : List Value} {t : TypeId} {fr : Nat × Nat} (h : W.heap[r]? = some (.cells cs.toArray t fr)) (size m c : Nat) (hl : cs.length = m * size) (h1 : ∀ u ∈ cs, u.oneCell' = true) : Src W size (.slice (some ⟨r, 0, none⟩) m c) m cs :=
  ⟨hl, h1, .inr ⟨_, _, rfl, news_at h 0 _ (fun j u hj => by simpa using hj)⟩⟩
set_option maxRecDepth 100000 in
set_option maxHeartbeats 4000000 in
theorem wkAlive_any (w : World) : Calls Tryz.prog 4 #[] w (Makes (.bool true) w) := by
  go_enter Tryz.func4, Tryz.ntmps4
  go_wp2_with fail
  have hs := src_blk (cs := flat [(⟨#[98]⟩, ⟨#[]⟩), (⟨#[97]⟩, ⟨#[]⟩), (⟨#[99]⟩, ⟨#[]⟩)]) (heap_alloc_at w (.cells #[.string ⟨#[98]⟩, .string ⟨#[]⟩, .string ⟨#[97]⟩, .string ⟨#[]⟩, .string ⟨#[99]⟩, .string ⟨#[]⟩] 59) w.heap.size rfl) 2 3 3 rfl (flat_one _)
  have hbw : Below w.heap.size w (w.alloc (.cells #[.string ⟨#[98]⟩, .string ⟨#[]⟩, .string ⟨#[97]⟩, .string ⟨#[]⟩, .string ⟨#[99]⟩, .string ⟨#[]⟩] 59)) := (by repeat' (first | exact Below.refl _ _ | with_reducible assumption | omega | with_reducible refine below_put_fut ?_ ?_ _ | with_reducible refine below_to_put ?_ | with_reducible refine Below.alloc ?_ ?_ _ | with_reducible refine Below.fut ?_ ?_ _ | with_reducible refine Below.drew ?_ | with_reducible refine Below.setCell ?_ ?_ _ | with_reducible refine Below.atPut ?_ ?_ _ | (simp [go_sem]; done) | (simp [go_sem]; omega)))
  refine (filled_is _ _ _ 3 rfl (by omega) hs).mono ?_
  rintro _ W1 ⟨gs, gr, rfl, hb1⟩
  rw [fill3] at hb1
  have H1 := hid (hb1.base hbw hbw.size).sh
  clear hb1 hs hbw
  go_wp2_with fail
  (((with_reducible refine (walkAll_is (.pointer (some ⟨gs, 0, none⟩)) _ rfl).mono ?_)); rintro _ _ ⟨rfl, rfl⟩)
  have H2 := hid (H1.out.on (W' := W1.alloc (.cells #[.pointer (some ⟨gs, 0, none⟩)] 27)) (by repeat' (first | exact Below.refl _ _ | with_reducible assumption | omega | with_reducible refine below_put_fut ?_ ?_ _ | with_reducible refine below_to_put ?_ | with_reducible refine Below.alloc ?_ ?_ _ | with_reducible refine Below.fut ?_ ?_ _ | with_reducible refine Below.drew ?_ | with_reducible refine Below.setCell ?_ ?_ _ | with_reducible refine Below.atPut ?_ ?_ _ | (simp [go_sem]; done) | (simp [go_sem]; omega))) H1.out.ge)
  have hc2 : (W1.alloc (.cells #[.pointer (some ⟨gs, 0, none⟩)] 27)).heap[W1.heap.size]? = some (.cells #[.pointer (some ⟨gs, 0, none⟩)] 27) := heap_alloc_at _ _ _ rfl
  generalize W1.alloc (.cells _ 27) = W2 at H2 hc2 ⊢
  generalize W1.heap.size = s at hc2 ⊢
  have HC2 := hid hc2
  clear H1 hc2
  go_wp2_with fail
  refine (sh_collectAll H2.out (by decide) s HC2.out 9 (by omega) (by omega)).mono ?_
  rintro _ W3 ⟨ao, n, cc, rfl, hr3, hn3, hb3, -⟩
  obtain rfl : n = 3 := hn3
  have H3 := hid (H2.out.on hb3 H2.out.ge)
  obtain ⟨rb, cb, hv, _, hrl⟩ := World.ownsRow.form hr3 (by omega)
  obtain rfl : ao = some ⟨rb, 0, none⟩ := by injection hv
  have q0 : W3.cell? ⟨rb, 0, none⟩ = some (.string ⟨#[97]⟩) := by rw [hr3.cellAt _ (by omega)]; rfl
  clear hr3 hb3 hv H2 HC2
  go_wp2_with fail
  (((with_reducible refine (sh_middle H3.out (by decide) (a := 0) (b := 0) (by omega) (by omega) (by omega) (by omega) 7133701809754865664 true mid3a mid3b).mono ?_)); rintro _ _ ⟨rfl, u4, rfl⟩)
  have H4 := hid (H3.out.on u4.below H3.out.ge)
  go_wp2_with fail
  (((with_reducible refine (walkAt_at H4.out (by decide) 1 1 (by decide) (⟨#[98]⟩, ⟨#[]⟩) rfl).mono ?_)); rintro _ _ ⟨rfl, u5, rfl⟩)
  have H5 := hid (H4.out.on u5.below H4.out.ge)
  go_wp2_with fail
  (((with_reducible refine (rank_is (H5.out.on (W' := u5.val.alloc (.cells #[.string ⟨#[98]⟩, .string ⟨#[]⟩] 59)) (by repeat' (first | exact Below.refl _ _ | with_reducible assumption | omega | with_reducible refine below_put_fut ?_ ?_ _ | with_reducible refine below_to_put ?_ | with_reducible refine Below.alloc ?_ ?_ _ | with_reducible refine Below.fut ?_ ?_ _ | with_reducible refine Below.drew ?_ | with_reducible refine Below.setCell ?_ ?_ _ | with_reducible refine Below.atPut ?_ ?_ _ | (simp [go_sem]; done) | (simp [go_sem]; omega))) H5.out.ge) (by decide) ⟨#[99]⟩ (by decide)).mono ?_)); rintro _ _ ⟨rfl, u6, rfl⟩)
  rw [rank3]
  have hz5 := H5.out.ge
  have hfin : Below w.heap.size w u6.val := H5.out.1.trans ((Below.fut (w := u5.val.alloc (.cells #[.string ⟨#[98]⟩, .string ⟨#[]⟩] 59)) (by repeat' (first | exact Below.refl _ _ | with_reducible assumption | omega | with_reducible refine below_put_fut ?_ ?_ _ | with_reducible refine below_to_put ?_ | with_reducible refine Below.alloc ?_ ?_ _ | with_reducible refine Below.fut ?_ ?_ _ | with_reducible refine Below.drew ?_ | with_reducible refine Below.setCell ?_ ?_ _ | with_reducible refine Below.atPut ?_ ?_ _ | (simp [go_sem]; done) | (simp [go_sem]; omega))) (by simp) u6).mono hz5)
  go_wp2_with fail
  go_ret
  exact .mk rfl hfin
end Go.Proofs.YthknenhcnpgkcaaGreat

/- Package walk: Range$1 as a sequence. -/
namespace Go.Proofs.YthknenhcnpgkcaaGreat
open Go.RowKit Go.Shelf
attribute [local go_sem] Oper.semAt_some
set_option linter.unusedVariables false
set_option linter.unusedSimpArgs false
/-- As FenA, and more: blocks of Z are kept, too; K is closed under what a sequence does by itself. -/
structure FenZ (E : Nat) (Z : Nat → Prop) (K : World → World → Prop) (Rk : Nat → World → Prop) : Prop where
  fen : Fen K Rk
  late : ∀ {X Y : World} {k : Nat} {cs : Array Value} {t : TypeId} {fr : Nat × Nat}, (Z k ∨ E ≤ k) → X.heap[k]? = some (.cells cs t fr) → t ≠ 59 → K X Y → Y.heap[k]? = some (.cells cs t fr)
  trans : ∀ {X Y W : World}, K X Y → K Y W → K X W
  below : ∀ {X Y : World}, E ≤ X.heap.size → Below X.heap.size X Y → K X Y
  put : ∀ {X : World} {l : Nat} {o : Obj} (o' : Obj), E ≤ l → X.heap[l]? = some o → o.isCells = false → K X (X.putObj l o')
theorem fenZ_OS {E A : Nat} {S Z : Nat → Prop} (hA : A < E) (hS : ∀ k, S k → k < E) (hZ : ∀ k, Z k → k ≠ A ∧ ¬ S k) : FenZ E Z (KpOS A S) (fun r X => A < X.heap.size ∧ r ≠ A ∧ ¬ S r ∧ ownOf A X ≠ some r) :=
  ⟨fen_OS A S, fun {X Y k cs t fr} he hk ht h => by
    have hn : k ≠ A ∧ ¬ S k := by
      rcases he with h | h
      · exact hZ k h
      · exact ⟨by omega, fun e => by have := hS k e; omega⟩
    exact (h.typ _ _ _ _ hk ht hn.1 hn.2).trans hk,
   fun h k => h.trans k, fun he hb => KpOS.below (by omega) hb, fun o' he h hc => KpOS.putObj o' h hc (by omega)⟩
theorem fenZ_S {E : Nat} {S Z : Nat → Prop} (hS : ∀ k, S k → k < E) (hZ : ∀ k, Z k → ¬ S k) : FenZ E Z (KpS S) (fun r _ => ¬ S r) :=
  ⟨fen_S S, fun {X Y k cs t fr} he hk ht h => by
    have hn : ¬ S k := by
      rcases he with h | h
      · exact hZ k h
      · exact fun e => by have := hS k e; omega
    exact (h.2 _ _ hk rfl hn).trans hk,
   fun h k => h.trans k, fun he hb => ⟨hb.size, fun k o hk _ _ => hb.block k (lt_of_heap hk)⟩, fun o' he h hc => KpS.putObj _ _ _ _ o' h hc⟩
/-- Does an item lie in a range? -/
def inR (u v : ByteArray) (x : It) : Bool := !lt x.1 u && (decide (v.size = 0) || lt x.1 v)
theorem round_wide {P : Program} {l k m ll fn : Nat} {tmps : Array Value} {assign body : Code} {W : World} {R : Ending → World → Prop} (h : RoundIn Fence.wide k P ll fn tmps assign body W R) : RoundIn (Fence.wide.inRound l) m P ll fn tmps assign body W R := ⟨trivial, fun c cs _ => h.2 c cs fun d hd => by cases hd⟩
theorem empty_yes {v : ByteArray} (h : v.size = 0) : v.toList.isEmpty = true := by
  rw [ByteArray.toList_eq]
  have h2 : v.data.toList.length = 0 := by simpa using h
  rw [List.length_eq_zero_iff.1 h2]; rfl
theorem empty_no {v : ByteArray} (h : ¬ v.size = 0) : v.toList.isEmpty = false := by
  rw [ByteArray.toList_eq, Bool.eq_false_iff]
  intro h2
  rw [List.isEmpty_iff] at h2
  have h3 : v.data.toList.length = 0 := by rw [h2]; rfl
  exact h (by simpa using h3)
theorem rangeL_inR (u v : ByteArray) (xs : List It) : rangeL u v xs = xs.filter (inR u v) := rfl
theorem range_past {α : Type} {A : List α} {f : α → It} {u v : ByteArray} (hr : Rises (A.map f)) {q : Nat} {p : List α} {y : α} (hp : A.take q = p ++ [y]) (hv : v.size ≠ 0) (hy : lt (f y).1 v = false) :
    (A.filter fun z => inR u v (f z)) = p.filter fun z => inR u v (f z) := by
  have e : A = p ++ y :: A.drop q := by
    conv => lhs; rw [← List.take_append_drop q A, hp]
    simp
  have hr2 : Rises (p.map f ++ f y :: (A.drop q).map f) := by
    have : p.map f ++ f y :: (A.drop q).map f = A.map f := by conv => rhs; rw [e]
                                                              simp
    rw [this]; exact hr
  have hmid := hr2.mid
  conv => lhs; rw [e]
  rw [List.filter_append, List.filter_eq_nil_iff (l := y :: A.drop q) |>.2, List.append_nil]
  intro z hz hin
  unfold inR at hin
  simp only [Bool.and_eq_true, Bool.or_eq_true, decide_eq_true_eq, hv, false_or] at hin
  rcases List.mem_cons.1 hz with rfl | hz
  · rw [hin.2] at hy; cases hy
  · have h1 := hmid.2.1 (f z) (List.mem_map.2 ⟨z, hz, rfl⟩)
    rw [lt_trans h1 hin.2] at hy; cases hy
theorem walkRange_is (g : Option Addr) (u v : ByteArray) (W : World) : Calls Tryz.prog 7 #[.pointer g, .string u, .string v] W fun e W' => e = .returned (.func (.func 26) #[] #[.pointer (some ⟨W.heap.size, 0, none⟩), .pointer (some ⟨W.heap.size + 1, 0, none⟩), .pointer (some ⟨W.heap.size + 1 + 1, 0, none⟩)]) ∧ W' = ((W.alloc (.cells #[.pointer g] 27)).alloc (.cells #[.string u] 9)).alloc (.cells #[.string v] 9) := by
  go_enter Tryz.func7, Tryz.ntmps7
  go_wp2_with fail
  go_ret
  exact ⟨by simp, rfl⟩
set_option maxRecDepth 100000 in
set_option maxHeartbeats 4000000 in
theorem walkRange1_own (n : Nat) (hn1 : 1 ≤ n) {xs : List It} {g : Option Addr} {w : World} (h : Gives g xs w) (hn : xs.length ≤ 900) (hr : Rises xs) (s t r : Nat) (hS : w.heap[s]? = some (.cells #[.pointer g] 27))
    (u v : ByteArray) (hu : u.size ≤ maxLen) (hv : v.size ≤ maxLen) (hU : w.heap[t]? = some (.cells #[.string u] 9)) (hV : w.heap[r]? = some (.cells #[.string v] 9))
    {α : Type} (A : List α) (f : α → It) (hsm : ∀ y, (f y).1.size ≤ maxLen) (hAf : A.map f = xs) {K : World → World → Prop} {Rk : Nat → World → Prop} (hF : FenZ w.heap.size (fun k => k = t ∨ k = r) K Rk) (hfr : ∀ (W : World) (r : Nat), Below w.heap.size w W → W.heap.size ≤ r → Rk r W) :
    SeqOwn Fence.wide n Tryz.prog 26 #[.pointer (some ⟨s, 0, none⟩), .pointer (some ⟨t, 0, none⟩), .pointer (some ⟨r, 0, none⟩)] (fun x : α => #[.string (f x).1, .string (f x).2]) K (fun ys => ys = A.filter fun y => inR u v (f y))
      (fun pre => ∃ k, k ≤ (A.filter fun y => inR u v (f y)).length ∧ pre = (A.filter fun y => inR u v (f y)).take k) A.length w := fun ll J Jx W hW hJ hJx hY h0 => by
  refine callsIn_of_wp_marks (n := n) Tryz.func26 rfl trivial ?_ rfl
  rw [wpIn_wide]
  simp only [Tryz.ntmps26, List.size_toArray, List.length_cons, List.length_nil, Nat.reduceAdd, Nat.reduceSub, Array.replicate_succ, Array.replicate_zero, List.push_toArray, List.append_toArray, List.nil_append, List.cons_append]
  have hS1 := (hW.block _ (lt_of_heap hS)).trans hS
  have hU1 := (hW.block _ (lt_of_heap hU)).trans hU
  have hV1 := (hW.block _ (lt_of_heap hV)).trans hV
  have e1 := fun i => cell_of_row W s i _ _ (0, 0) hS1
  have l1 := lt_of_heap hS1
  have HSEQ := hid (fun (V : World) (hV : Below W.heap.size W V) (B : Nat) (hB : V.cell? ⟨B, 0, none⟩ = some (.pointer g)) => walkAll1_gen (n - 1) (h.on (hW.trans (hV.mono hW.size))) hn B hB A f hAf hF.fen (fun W' r hb hr => hfr W' r ((hW.trans (hV.mono hW.size)).trans (hb.mono (Nat.le_trans hW.size hV.size))) hr))
  have HY := hid hY
  have HJ := hid hJ
  have HJX := hid hJx
  have HF := hid hF
  have HU := hid hU1
  have HV := hid hV1
  have H0 := hid h0
  have hz := hW.size
  have HTW := hid (lt_of_heap hU)
  have HRW := hid (lt_of_heap hV)
  have HR := hid hr
  have HSM := hid hsm
  have HAF := hid hAf
  clear h hJ hJx hY h0 hS hU hV hS1 hU1 hV1 hF hfr hW hr hsm hAf
  go_wp2_with fail
  go_step3
  go_wp2_with fail
  go_step3
  go_wp2_with fail
  (((with_reducible refine (walkAll_is (.pointer g) _ rfl).mono ?_)); rintro _ _ ⟨rfl, rfl⟩)
  go_wp2_with fail
  have hbV : Below W.heap.size W ((W.alloc (.cells #[.func (.yield ll) #[] #[]] 69)).alloc (.cells #[.pointer g] 27)) := (by repeat' (first | exact Below.refl _ _ | with_reducible assumption | omega | with_reducible refine below_put_fut ?_ ?_ _ | with_reducible refine below_to_put ?_ | with_reducible refine Below.alloc ?_ ?_ _ | with_reducible refine Below.fut ?_ ?_ _ | with_reducible refine Below.drew ?_ | with_reducible refine Below.setCell ?_ ?_ _ | with_reducible refine Below.atPut ?_ ?_ _ | (simp [go_sem]; done) | (simp [go_sem]; omega)))
  have k0 : ((W.alloc (.cells #[.func (.yield ll) #[] #[]] 69)).alloc (.cells #[.pointer g] 27)).heap[W.heap.size]? = some (.cells #[.func (.yield ll) #[] #[]] 69) := (heap_alloc_other _ _ _ (by simp)).trans (heap_alloc_at _ _ _ rfl)
  have k1 : ((W.alloc (.cells #[.func (.yield ll) #[] #[]] 69)).alloc (.cells #[.pointer g] 27)).heap[W.heap.size + 1]? = some (.cells #[.pointer g] 27) := heap_alloc_at _ _ _ (by simp)
  have hVs : ((W.alloc (.cells #[.func (.yield ll) #[] #[]] 69)).alloc (.cells #[.pointer g] 27)).heap.size = W.heap.size + 2 := by simp
  generalize ((W.alloc (.cells #[.func (.yield ll) #[] #[]] 69)).alloc (.cells #[.pointer g] 27)) = V at hbV k0 k1 hVs ⊢
  obtain ⟨P, hP⟩ : ∃ P : α → Bool, P = fun z => inR u v (f z) := ⟨_, rfl⟩
  have HP := hid (show ∀ z, P z = inR u v (f z) from fun z => by rw [hP])
  have HPA := hid (show (A.filter fun y => inR u v (f y)) = A.filter P by rw [hP])
  clear hP
  obtain ⟨T, hT⟩ : ∃ T : List α → Prop, T = fun p => ∀ x ∈ p, lt (f x).1 u = true ∨ P x = true := ⟨_, rfl⟩
  have HT := hid hT
  refine wpIn_wide.1 (wpIn_range_own (F := Fence.wide) (n := n) rfl hn1 (gf := 24) (lb := #[.pointer (some ⟨W.heap.size + 1, 0, none⟩)]) rfl trivial (enters_of Tryz.func24 (by kernel_rfl) rfl)
    (SeqOwn.of_stops (HSEQ.out V hbV _ (cell_of_row _ _ 0 _ _ (0, 0) k1))) (fun h k => HF.out.trans h k) (fun X q o o' hq hX hc => HF.out.put o' (by omega) hX hc) (Below.refl _ _) (fun _ => rfl)
    (fun pre X => J (pre.filter P) X ∧ X.heap[W.heap.size]? = some (.cells #[.func (.yield ll) #[] #[]] 69) ∧ X.heap[t]? = some (.cells #[.string u] 9) ∧ X.heap[r]? = some (.cells #[.string v] 9))
    (fun c pre X => c = .exit 0 ∧ ∃ p y, pre = p ++ [y] ∧ ((v.size ≠ 0 ∧ lt (f y).1 v = false ∧ J (p.filter P) X) ∨ (P y = true ∧ Jx (p.filter P ++ [y]) X)))
    ?hI ?hIx ?h0 (fun y a' => a' = { tmps := #[.func (.yield ll) #[] #[], .pointer (some ⟨s, 0, none⟩), .pointer (some ⟨t, 0, none⟩), .pointer (some ⟨r, 0, none⟩), .pointer (some ⟨W.heap.size, 0, none⟩), .string (f y).1, .string (f y).2, .pointer g, .func (.func 24) #[] #[.pointer (some ⟨W.heap.size + 1, 0, none⟩)], .string (f y).1, .string (f y).2, undef, undef, undef, undef, undef, undef, undef, undef, undef, undef, undef, undef, undef, undef, undef, undef, undef, undef, undef], defers := [] })
    ?assign ?body ?done ?stop)
  case hI => exact OwnFrom.and (fun s X Y row hs hg hr => HJ.out _ X Y row hs hg fun r e => ⟨by have := (hr r e).1; omega, (hr r e).2⟩) (OwnFrom.and (own_ahead _ _ _ (by omega)) (OwnFrom.and (own_ahead _ _ _ (by have := HTW.out; omega)) (own_ahead _ _ _ (by have := HRW.out; omega))))
  case hIx =>
    exact fun c s X Y row ⟨h1, p, y, h2, h3⟩ hg hr => ⟨h1, p, y, h2, h3.imp (fun ⟨q1, q2, q3⟩ => ⟨q1, q2, HJ.out _ X Y row q3 hg fun r e => ⟨by have := (hr r e).1; omega, (hr r e).2⟩⟩) (fun ⟨q1, q2⟩ => ⟨q1, HJX.out _ X Y row q2 hg fun r e => ⟨by have := (hr r e).1; omega, (hr r e).2⟩⟩)⟩
  case h0 => exact ⟨own_below HJ.out H0.out hbV, k0, (hbV.block _ (by have := HTW.out; omega)).trans HU.out, (hbV.block _ (by have := HRW.out; omega)).trans HV.out⟩
  case assign =>
    rintro l pre y X K' hi hK
    have HK := hid hK
    clear hK hi
    gi_wp2_with fail
    exact HK.out _ (by simp)
  case body =>
    rintro l pre y a' X ⟨i1, i2, i3, i4⟩ rfl hlen
    have I1 := hid i1
    have I2 := hid i2
    have I3 := hid i3
    have I4 := hid i4
    have e2 := fun i => cell_of_row X t i _ _ (0, 0) i3
    have e3 := fun i => cell_of_row X r i _ _ (0, 0) i4
    have e4 := fun i => cell_of_row X W.heap.size i _ _ (0, 0) i2
    have l2 := lt_of_heap i3
    have l3 := lt_of_heap i4
    have l4 := lt_of_heap i2
    have hxs := lt_of_heap i2
    have hys := HSM.out y
    have HTL := hid (show (pre.filter P).length < A.length from Nat.lt_of_le_of_lt (List.length_filter_le _ _) hlen)
    obtain ⟨b1, hb1⟩ : ∃ b, Op.bytesLess (f y).1.data.toList u.data.toList = b := ⟨_, rfl⟩
    have HB1 := hid (show lt (f y).1 u = b1 from hb1)
    clear i1 i2 i3 i4
    gi_wp2_with fail
    refine ⟨trivial, fun h => (by cases h), CallsIn.inRound _ (callsIn_wide.2 ((less_is _ _ hys hu _ hb1 _).mono ?_))⟩
    rintro _ _ ⟨rfl, u1, rfl⟩
    clear hb1
    cases b1 with
    | true =>
      gi_wp2_with fail
      have hb := u1.below
      have hnp : P y = false := by rw [HP.out, inR, HB1.out]; rfl
      exact ⟨KeepsFrom.chg (S := fun _ => False) (Chg.of_below hb) (fun k hk => hk.elim), HF.out.below (by omega) hb, by rw [List.filter_append, List.filter_cons_of_neg (by rw [hnp]; simp), List.filter_nil, List.append_nil]; exact own_below HJ.out I1.out hb, (hb.block _ (lt_of_heap I2.out)).trans I2.out, (hb.block _ (lt_of_heap I3.out)).trans I3.out, (hb.block _ (lt_of_heap I4.out)).trans I4.out⟩
    | false =>
      by_cases hv0 : v.size = 0
      · have hve : v.toList.isEmpty = true := empty_yes hv0
        have hin := hid (show P y = true by rw [HP.out, inR, HB1.out, decide_eq_true hv0]; rfl)
        have HBX := hid u1.below
        clear hv0
        gi_wp2_with fail
        refine ⟨trivial, ?_⟩
        generalize u1.val = X2 at HBX ⊢
        clear e2 e3 e4 l2 l3 l4 hve
        have J2 := hid (own_below HJ.out I1.out HBX.out)
        have e4' := fun i => cell_of_row X2 W.heap.size i _ _ (0, 0) ((HBX.out.block _ (lt_of_heap I2.out)).trans I2.out)
        have l4' := Nat.lt_of_lt_of_le (lt_of_heap I2.out) HBX.out.size
        obtain ⟨fn, tmps, assign, body, hy, hR⟩ := HY.out (pre.filter P) y X2 J2.out HTL.out
        try dsimp only at hy
        gi_wp2_with fail
        refine ⟨fun h => (by cases h), ?_⟩
        refine (round_wide hR).mono ?_
        clear hy hR e4' l4'
        rintro e X4 ⟨hkf, (⟨rfl, hJ4, hk4⟩ | ⟨rfl, hJx4⟩)⟩
        · have J4 := hid hJ4
          have HKF := hid (show KeepsFrom V.heap.size X X4 from (KeepsFrom.chg (S := fun _ => False) (Chg.of_below HBX.out) (fun k hk => hk.elim)).trans (keepsFrom_up hkf (by omega)))
          have HK4 := hid (HF.out.trans (HF.out.below (by omega) HBX.out) hk4)
          have hx2 : W.heap.size ≤ X2.heap.size := Nat.le_trans (Nat.le_of_lt hxs) HBX.out.size
          have HB4 := hid (HF.out.late (.inr (by omega)) ((HBX.out.block _ (lt_of_heap I2.out)).trans I2.out) (by decide) hk4)
          have HT4 := hid (HF.out.late (.inl (.inl rfl)) ((HBX.out.block _ (lt_of_heap I3.out)).trans I3.out) (by decide) hk4)
          have HR4 := hid (HF.out.late (.inl (.inr rfl)) ((HBX.out.block _ (lt_of_heap I4.out)).trans I4.out) (by decide) hk4)
          clear hJ4 hk4 hkf
          gi_wp2_with fail
          exact ⟨HKF.out, HK4.out, by rw [List.filter_append, List.filter_cons_of_pos hin.out, List.filter_nil]; exact J4.out, HB4.out, HT4.out, HR4.out⟩
        · have J4 := hid hJx4
          have HKF := hid (show KeepsFrom V.heap.size X X4 from (KeepsFrom.chg (S := fun _ => False) (Chg.of_below HBX.out) (fun k hk => hk.elim)).trans (keepsFrom_up hkf (by omega)))
          clear hJx4 hkf
          gi_wp2_with fail
          exact ⟨HKF.out, rfl, pre, y, rfl, .inr ⟨hin.out, J4.out⟩⟩
      · have hve : v.toList.isEmpty = false := empty_no hv0
        obtain ⟨b2, hb2⟩ : ∃ b, Op.bytesLess (f y).1.data.toList v.data.toList = b := ⟨_, rfl⟩
        have HB2 := hid (show lt (f y).1 v = b2 from hb2)
        have HV0 := hid hv0
        clear hv0
        gi_wp2_with fail
        refine ⟨trivial, fun h => (by cases h), CallsIn.inRound _ (callsIn_wide.2 ((less_is _ _ hys hv _ hb2 _).mono ?_))⟩
        rintro _ _ ⟨rfl, u2, rfl⟩
        have HBX := hid (show Below X.heap.size X u2.val from u1.below.trans (u2.below.mono u1.below.size))
        clear hb2 hve
        generalize u2.val = X2 at HBX ⊢
        clear e2 e3 e4 l2 l3 l4
        cases b2 with
        | true =>
          have hin := hid (show P y = true by rw [HP.out, inR, HB1.out, HB2.out]; simp)
          have J2 := hid (own_below HJ.out I1.out HBX.out)
          have e4' := fun i => cell_of_row X2 W.heap.size i _ _ (0, 0) ((HBX.out.block _ (lt_of_heap I2.out)).trans I2.out)
          have l4' := Nat.lt_of_lt_of_le (lt_of_heap I2.out) HBX.out.size
          obtain ⟨fn, tmps, assign, body, hy, hR⟩ := HY.out (pre.filter P) y X2 J2.out HTL.out
          try dsimp only at hy
          gi_wp2_with fail
          refine ⟨fun h => (by cases h), ?_⟩
          refine (round_wide hR).mono ?_
          clear hy hR e4' l4'
          rintro e X4 ⟨hkf, (⟨rfl, hJ4, hk4⟩ | ⟨rfl, hJx4⟩)⟩
          · have J4 := hid hJ4
            have HKF := hid (show KeepsFrom V.heap.size X X4 from (KeepsFrom.chg (S := fun _ => False) (Chg.of_below HBX.out) (fun k hk => hk.elim)).trans (keepsFrom_up hkf (by omega)))
            have HK4 := hid (HF.out.trans (HF.out.below (by omega) HBX.out) hk4)
            have hx2 : W.heap.size ≤ X2.heap.size := Nat.le_trans (Nat.le_of_lt hxs) HBX.out.size
            have HB4 := hid (HF.out.late (.inr (by omega)) ((HBX.out.block _ (lt_of_heap I2.out)).trans I2.out) (by decide) hk4)
            have HT4 := hid (HF.out.late (.inl (.inl rfl)) ((HBX.out.block _ (lt_of_heap I3.out)).trans I3.out) (by decide) hk4)
            have HR4 := hid (HF.out.late (.inl (.inr rfl)) ((HBX.out.block _ (lt_of_heap I4.out)).trans I4.out) (by decide) hk4)
            clear hJ4 hk4 hkf
            gi_wp2_with fail
            exact ⟨HKF.out, HK4.out, by rw [List.filter_append, List.filter_cons_of_pos hin.out, List.filter_nil]; exact J4.out, HB4.out, HT4.out, HR4.out⟩
          · have J4 := hid hJx4
            have HKF := hid (show KeepsFrom V.heap.size X X4 from (KeepsFrom.chg (S := fun _ => False) (Chg.of_below HBX.out) (fun k hk => hk.elim)).trans (keepsFrom_up hkf (by omega)))
            clear hJx4 hkf
            gi_wp2_with fail
            exact ⟨HKF.out, rfl, pre, y, rfl, .inr ⟨hin.out, J4.out⟩⟩
        | false =>
          have J2 := hid (own_below HJ.out I1.out HBX.out)
          have HKF := hid (show KeepsFrom V.heap.size X X2 from KeepsFrom.chg (S := fun _ => False) (Chg.of_below HBX.out) (fun k hk => hk.elim))
          gi_wp2_with fail
          exact ⟨HKF.out, rfl, pre, y, rfl, .inl ⟨HV0.out, HB2.out, J2.out⟩⟩
  case done =>
    rintro D ys X hD hys ⟨i1, i2, i3, i4⟩ hK
    have hys : A = ys := hys.symm
    subst hys
    have I1 := hid i1
    have HK := hid hK
    clear i1 i2 i3 i4 hK
    go_wp2_with fail
    try rw [Exit.noGoto_normal]
    refine ⟨by simp, .inl ⟨_, _, rfl, run_takeDeferred HK.out, ?_⟩⟩
    exact ⟨_, results_none rfl _ _ _, ⟨_, rfl⟩, .inl ⟨_, rfl, by rw [HPA.out]; exact OwnFrom.putObj HJ.out _ I1.out (by omega) HK.out rfl⟩⟩
  case stop =>
    rintro D c pre X hD ⟨q, hq, rfl⟩ ⟨rfl, p, y, hp, h3⟩ hK
    have H3 := hid h3
    have HK := hid hK
    clear h3 hK
    have hspl : A.filter P = (p.filter P) ++ ([y].filter P ++ (A.drop q).filter P) := by
      conv => lhs; rw [← List.take_append_drop q A, hp]
      rw [List.filter_append, List.filter_append, List.append_assoc]
    have HSPL := hid hspl
    have HPAST := hid (show v.size ≠ 0 → lt (f y).1 v = false → A.filter P = p.filter P from fun h1 h2 => by
      rw [← HPA.out, range_past (by rw [HAF.out]; exact HR.out) hp h1 h2]
      refine List.filter_congr fun z _ => (HP.out z).symm)
    clear hspl hp
    rw [wpIn_wide]
    go_wp2_with fail
    try rw [Exit.noGoto_normal]
    refine ⟨by simp, .inl ⟨_, _, rfl, run_takeDeferred HK.out, ?_⟩⟩
    refine ⟨_, results_none rfl _ _ _, ⟨_, rfl⟩, ?_⟩
    rcases H3.out with ⟨h1, h2, h3⟩ | ⟨h1, h2⟩
    · exact .inl ⟨_, rfl, by rw [HPA.out, HPAST.out h1 h2]; exact OwnFrom.putObj HJ.out _ h3 (by omega) HK.out rfl⟩
    · refine .inr ⟨_, ⟨(p.filter P).length + 1, ?_, ?_⟩, OwnFrom.putObj HJX.out _ h2 (by omega) HK.out rfl⟩
      · rw [HPA.out, HSPL.out, List.filter_cons_of_pos h1, List.length_append, List.length_append]; simp
      · rw [HPA.out, HSPL.out, List.filter_cons_of_pos h1, List.filter_nil, ← List.append_assoc, List.take_left' (by rw [List.length_append]; rfl)]
end Go.Proofs.YthknenhcnpgkcaaGreat

/- Package walk: All with a function of one's own. -/
namespace Go.Proofs.YthknenhcnpgkcaaGreat
open Go.RowKit Go.Shelf
attribute [local go_sem] Oper.semAt_some
set_option linter.unusedVariables false
set_option linter.unusedSimpArgs false
set_option maxRecDepth 100000 in
set_option maxHeartbeats 4000000 in
theorem walkAll1_calls {xs : List It} {g : Option Addr} {w : World} (h : Gives g xs w) (hn : xs.length ≤ 900) (B : Nat) (hB : w.cell? ⟨B, 0, none⟩ = some (.pointer g))
    {K : World → World → Prop} {Rk : Nat → World → Prop} (hF : Fen K Rk) (cf : Nat) (lb : Array Value) (heg : ∀ args w, (callFunc cf args).run Tryz.prog w = .ok (.enter cf args) w) (J Jx : Nat → World → Prop) (hJb : ∀ i X Y, J i X → Below X.heap.size X Y → J i Y)
    (W : World) (hW : Below w.heap.size w W) (hfr : ∀ (X : World) (r : Nat), Below W.heap.size W X → W.heap.size ≤ r → Rk r X)
    (hY : ∀ i x X, xs[i]? = some x → J i X → Calls Tryz.prog cf (#[.string x.1, .string x.2] ++ lb) X fun e X' => (e = .returned (.bool true) ∧ J (i + 1) X' ∧ K X X') ∨ (e = .returned (.bool false) ∧ Jx (i + 1) X')) (h0 : J 0 W) :
    Calls Tryz.prog 24 #[.func (.func cf) #[] lb, .pointer (some ⟨B, 0, none⟩)] W fun e W' => (∃ v, e = .returned v) ∧ (J xs.length W' ∨ ∃ i, i < xs.length ∧ Jx (i + 1) W') := by
  have hBl := World.block_lt_of_cell? _ _ hB
  have hB1 := (hW.cell hBl).trans hB
  have hits := h W hW
  have HFR := hid (fun X hb r => hfr X r hb)
  have HJB := hid hJb
  have HY := hid hY
  have HEG := hid heg
  have H0 := hid h0
  clear hY hJb h hB hBl hfr heg h0
  go_enter Tryz.func24, Tryz.ntmps24
  go_wp2_with fail
  refine hits.mono ?_
  rintro _ W1 ⟨a1, c1, rfl, hr1, hb1, hf1⟩
  have HJ1 := hid (HJB.out _ _ _ H0.out hb1)
  have HA := hid hr1
  obtain ⟨m, hLm⟩ : ∃ m, xs.length = m := ⟨_, rfl⟩
  have HLM := hid hLm
  have HG := hid (show ∀ r, blk (.slice a1 m c1) r ≠ 0 → Rk r W1 from fun r hr => HFR.out _ hb1 r (Nat.le_of_not_lt fun e => by rw [← hLm] at hr; exact hr (hf1 r e)))
  clear hr1 hb1 H0 hits hf1
  rw [hLm] at hn HA ⊢
  clear hLm
  go_wp2_with fail
  go_loopw [8] (fun i wr => ∃ k : Nat, k ≤ m ∧ i = .int .i64 k ∧ Hid (J k wr) ∧ Hid (Row wr 59 2 (.slice a1 m c1) m (flat xs)) ∧ Hid (∀ r, blk (.slice a1 m c1) r ≠ 0 → Rk r wr)) (fun i _ => m - (intOf i).toNat)
  case atStart => exact ⟨0, Nat.zero_le _, rfl, HJ1, HA, HG⟩
  case round =>
    obtain ⟨k, hk, rfl, hJk, hrow, hrk⟩ := hrel
    by_cases hlt : k < m
    · obtain ⟨p, hp⟩ : ∃ p, xs[k]? = some p := ⟨xs[k]'(by rw [HLM.out]; exact hlt), List.getElem?_eq_getElem _⟩
      obtain ⟨r, o, rfl, c0, c2, c1'⟩ := (show Src wr 2 (.slice a1 xs.length c1) xs.length (flat xs) by rw [HLM.out]; exact hrow.out.src (flat_one _)).at_ k p hp
      have hr := World.block_lt_of_cell? _ _ c0
      have HP := hid hp
      clear hp
      have heg := HEG.out
      go_wp2_with fail
      have hb2 : Below wr.heap.size wr (wr.alloc (.cells #[.string p.1, .string p.2] 59)) := (by repeat' (first | exact Below.refl _ _ | with_reducible assumption | omega | with_reducible refine below_put_fut ?_ ?_ _ | with_reducible refine below_to_put ?_ | with_reducible refine Below.alloc ?_ ?_ _ | with_reducible refine Below.fut ?_ ?_ _ | with_reducible refine Below.drew ?_ | with_reducible refine Below.setCell ?_ ?_ _ | with_reducible refine Below.atPut ?_ ?_ _ | (simp [go_sem]; done) | (simp [go_sem]; omega)))
      have HB2 := hid hb2
      generalize wr.alloc (.cells _ 59) = W2 at HB2 ⊢
      clear hb2 heg
      refine (HY.out k p W2 HP.out (HJB.out _ _ _ hJk.out HB2.out)).mono ?_
      rintro e W4 (⟨rfl, hJ4, hk4⟩ | ⟨rfl, hJx4⟩)
      · have hst : ∀ q, blk (.slice (some ⟨r, o, none⟩) m c1) q ≠ 0 → Rk q W4 ∧ ∀ o', W2.heap[q]? = some o' → o'.isCells = true → W4.heap[q]? = some o' := fun q hq => by
          have hql := hrow.out.lt hq
          exact hF.step (hF.below (hrk.out q hq) HB2.out) (Nat.lt_of_lt_of_le hql HB2.out.size) hk4
        have hrow4 := hid (show Row W4 59 2 (.slice (some ⟨r, o, none⟩) m c1) m (flat xs) from (hrow.out.keep fun q hq => HB2.out.block q (hrow.out.lt hq)).keep fun q hq => by
          obtain ⟨r2, c3, hv, _, _⟩ := World.ownsRow.form hrow.out (by omega)
          injection hv with hv; injection hv with hv; cases hv
          have hrow2 := hrow.out.keep (W' := W2) fun q hq => HB2.out.block q (hrow.out.lt hq)
          obtain ⟨cur, _, _, hcur, _, _⟩ := row_open hrow2
          rw [blk_at _ _ _ _ _ none] at hq
          obtain rfl := one_ne hq
          rw [(hst q (by rw [blk_at _ _ _ _ _ none, one_self]; omega)).2 _ hcur rfl, hcur])
        have hrk4 := hid (fun q hq => (hst q hq).1)
        have HJ4 := hid hJ4
        clear hJ4 hk4 hst
        go_wp2_with fail
        exact ⟨⟨k + 1, by omega, by go_num, HJ4, hrow4, hrk4⟩, by simp [intOf]; omega⟩
      · have HJX := hid hJx4
        clear hJx4
        go_wp2_with fail
        exact bodyPost_ret (results_none rfl _ _ _) rfl ⟨⟨_, rfl⟩, .inr ⟨k, by rw [HLM.out]; exact hlt, HJX.out⟩⟩
    · obtain rfl : k = m := by omega
      go_wp2_with fail
      go_end0
      exact ⟨⟨_, rfl⟩, .inl (by rw [HLM.out]; exact hJk.out)⟩
end Go.Proofs.YthknenhcnpgkcaaGreat
