import Derived.Test.YthknenhcnpgkcaaWkQ
/- Package walk: Arc$1 as a stopping sequence. -/
namespace Go.Proofs.Ythknenhcnpgkcaa
open Go.RowKit Go.Shelf
attribute [local go_sem] Oper.semAt_some
set_option linter.unusedVariables false
set_option linter.unusedSimpArgs false
theorem flatC_at : ∀ {P : List (Int × Int)} {k : Nat} {p : Int × Int}, P[k]? = some p → (flatC P)[k * 2]? = some (.int .u64 p.1) ∧ (flatC P)[k * 2 + 1]? = some (.int .u64 p.2)
  | [], _, _, h => by cases h
  | q :: P, 0, p, h => by cases h; exact ⟨rfl, rfl⟩
  | q :: P, k + 1, p, h => by
    have := flatC_at (P := P) (k := k) (p := p) (by simpa using h)
    have e : (k + 1) * 2 = k * 2 + 1 + 1 := by omega
    rw [e]
    exact this
theorem sh_small {B : Nat} {w0 : World} {most : Int} {xs : List It} {g : Nat} {W : World} (h : Sh B w0 most xs g W) : ∀ x ∈ xs, x.1.size ≤ maxLen := fun x hx => by obtain ⟨_, c, top, h3, _⟩ := h; exact (h3.small x hx).1
theorem sh_rises {B : Nat} {w0 : World} {most : Int} {xs : List It} {g : Nat} {W : World} (h : Sh B w0 most xs g W) : Rises xs := by obtain ⟨_, c, top, h3, _⟩ := h; exact h3.rises
set_option maxRecDepth 100000 in
set_option maxHeartbeats 4000000 in
theorem walkArc1_gen (n : Nat) {xs : List It} {g : Option Addr} {w : World} (h : Gives g xs w) (hn : xs.length ≤ 900) (hsm : ∀ x ∈ xs, x.1.size ≤ maxLen) (s : Nat) (hS : w.heap[s]? = some (.cells #[.pointer g] 23))
    (a b : Int) (hb0 : 0 ≤ b) (hab : w.heap[s + 1]? = some (.cells #[.int .u64 a, .int .u64 b] 38))
    {α : Type} (A : List α) (f : α → It) (hAf : A.map f = xs) {K : World → World → Prop} {Rk : Nat → World → Prop} (hF : FenA w.heap.size K Rk) (hfr : ∀ (W : World) (r : Nat), Below w.heap.size w W → W.heap.size ≤ r → Rk r W) :
    SeqStopsK Fence.wide n Try.prog 80 #[.pointer (some ⟨s, 0, none⟩), .pointer (some ⟨s + 1, 0, none⟩)] (fun x : α => #[.string (f x).1, .string (f x).2]) K (fun ys => ys = (piecesA a b).flatMap fun p => A.filter fun y => inP p (f y))
      (fun pre => ∃ k, k ≤ ((piecesA a b).flatMap fun p => A.filter fun y => inP p (f y)).length ∧ pre = ((piecesA a b).flatMap fun p => A.filter fun y => inP p (f y)).take k) ((piecesA a b).flatMap fun p => A.filter fun y => inP p (f y)).length w := fun ll J Jx W hW hJ hJx hY h0 => by
  refine callsIn_wide.2 ?_
  have hBl := lt_of_heap hS
  have hBl2 := lt_of_heap hab
  have hS1 := (hW.block _ hBl).trans hS
  have hab1 := (hW.block _ hBl2).trans hab
  have hJb : ∀ s A B, J s A → Below A.heap.size A B → J s B := fun s A B hs hb => hJ s A B none hs ⟨hb.os, hb.tape, hb.output, hb.size, fun k hk _ => hb.block k hk⟩ (fun r e => by cases e)
  have hz := hW.size
  have hits := h W hW
  have HSM := hid hsm
  have HFR := hid (fun r => hfr W r hW)
  have HJB := hid hJb
  have HY := hid hY
  obtain ⟨P, hP⟩ : ∃ P, piecesA a b = P := ⟨_, rfl⟩
  obtain ⟨T, hT⟩ : ∃ T : Int × Int → α → Bool, T = fun p y => inP p (f y) := ⟨_, rfl⟩
  have HT := hid hT
  have HP := hid hP
  have hab2 := hab1
  have e1 := fun i => cell_of_row W s i _ _ (0, 0) hS1
  have e2 := fun i => cell_of_row W (s + 1) i _ _ (0, 0) hab1
  have l1 := lt_of_heap hS1
  have l2 := lt_of_heap hab1
  have HAB := hid hab1
  have HL := hid (show ∀ L : List α, L = P.flatMap (fun p => A.filter (T p)) → ((piecesA a b).flatMap fun p => A.filter fun y => inP p (f y)) = L from fun L hL => by rw [hL, hP, hT])
  have HLE := hid (show w.heap.size ≤ W.heap.size from hz)
  have HF := hid hF
  have HP2 := hid (show ∀ p ∈ P, ¬ 0 < p.2 → p.2 = 0 from fun p hp hn => by
    rw [← hP] at hp
    rcases pieces_cases a b with ⟨_, e⟩ | ⟨_, _, e⟩ | ⟨_, _, e⟩ <;> rw [e] at hp <;> simp at hp
    · rw [hp]
    · rw [hp] at hn ⊢; simp at hn ⊢; omega
    · rcases hp with rfl | rfl
      · rfl
      · simp at hn ⊢; omega)
  clear hJ hJx hY hJb h hsm hS hab hBl hBl2 hfr hT hS1 hab1 hab2
  go_enter Try.func80, Try.ntmps80
  go_step3
  go_wp2_with fail
  refine hits.mono ?_
  rintro _ W1 ⟨a1, c1, rfl, hr1, hb1, hf1⟩
  have hJ1 := HJB.out _ _ _ h0 hb1
  have hz1 := hb1.size
  have HA := hid hr1
  obtain ⟨m, hLm⟩ : ∃ m, xs.length = m := ⟨_, rfl⟩
  have HLM := hid hLm
  have HAM := hid (show A.length = m by rw [← hLm, ← hAf, List.length_map])
  have HAF := hid hAf
  have HG := hid (show ∀ r, blk (.slice a1 m c1) r ≠ 0 → Rk r W1 from fun r hr => HF.out.fen.below (HFR.out r (Nat.le_of_not_lt fun e => by rw [← hLm] at hr; exact hr (hf1 r e))) hb1)
  have e2' := fun i => cell_of_row W1 (s + 1) i _ _ (0, 0) ((hb1.block _ l2).trans HAB.out)
  rw [hLm] at hn HA ⊢
  clear hLm hr1 h0 hits hf1 hAf e1 e2
  go_wp2_with fail
  go_step3
  go_wp2_with fail
  refine (arcPieces_is a b _).mono ?_
  rintro _ W2 ⟨r, hr, rfl, hb2, hrow2⟩
  have HJ2 := hid (show J (toldA P A T (0, 0) 0 0) W2 from by simpa [toldA] using HJB.out _ _ _ hJ1 hb2)
  have HA2 := hid (show Row W2 34 2 (.slice a1 m c1) m (flat xs) from HA.out.keep fun q hq => hb2.block q (HA.out.lt hq))
  have HG2 := hid (fun r hr => HF.out.fen.below (HG.out r hr) hb2)
  have hrr := lt_of_heap hrow2
  have hPn := piecesA_len a b
  rw [hP] at hrow2 hPn ⊢
  have HR2 := hid hrow2
  have hz2 := hb2.size
  have hEr : w.heap.size ≤ r := by omega
  obtain ⟨pn, hpn⟩ : ∃ pn, P.length = pn := ⟨_, rfl⟩
  have HPN := hid hpn
  rw [hpn] at hPn ⊢
  clear hJ1 hb1 hb2 hrow2 e2' HA HG hP hpn HAB
  go_wp2_with fail
  go_loopw [15] (fun i wr => ∃ k : Nat, k ≤ pn ∧ i = .int .i64 k ∧ W2.heap.size ≤ wr.heap.size ∧ Hid (J (toldA P A T (0, 0) k 0) wr) ∧ Hid (Row wr 34 2 (.slice a1 m c1) m (flat xs)) ∧ Hid (∀ r, blk (.slice a1 m c1) r ≠ 0 → Rk r wr) ∧ Hid (wr.heap[r]? = some (.cells (flatC P).toArray 38))) (fun i _ => pn - (intOf i).toNat)
  case atStart => exact ⟨0, Nat.zero_le _, rfl, Nat.le_refl _, HJ2, HA2, HG2, HR2⟩
  case round =>
    obtain ⟨k, hk, rfl, hzr, hJk, hrow, hrk, hpr⟩ := hrel
    clear HJ2 HA2 HG2 HR2
    by_cases hlt : k < pn
    · obtain ⟨p, hp⟩ : ∃ p, P[k]? = some p := ⟨P[k]'(by rw [HPN.out]; exact hlt), List.getElem?_eq_getElem _⟩
      have hf0 : wr.cell? ⟨r, k * 2, none⟩ = some (.int .u64 p.1) := by rw [cell_of_row wr r (k * 2) _ _ (0, 0) hpr.out]; simpa using (flatC_at hp).1
      have hf1 : wr.cell? ⟨r, k * 2 + 1, none⟩ = some (.int .u64 p.2) := by rw [cell_of_row wr r (k * 2 + 1) _ _ (0, 0) hpr.out]; simpa using (flatC_at hp).2
      have hrl : r < wr.heap.size := by omega
      have HPK := hid hp
      have HJK := hid (show J (toldA P A T p k 0) wr from hJk.out)
      clear hp hJk
      go_wp2_with fail
      have hp6 : (wr.alloc (.cells #[.int .u64 p.1, .int .u64 p.2] 38)).heap[wr.heap.size]? = some (.cells #[.int .u64 p.1, .int .u64 p.2] 38) := heap_alloc_at _ _ _ rfl
      have hb6 : Below wr.heap.size wr (wr.alloc (.cells #[.int .u64 p.1, .int .u64 p.2] 38)) := (by repeat' (first | exact Below.refl _ _ | with_reducible assumption | omega | with_reducible refine below_put_fut ?_ ?_ _ | with_reducible refine below_to_put ?_ | with_reducible refine Below.alloc ?_ ?_ _ | with_reducible refine Below.fut ?_ ?_ _ | with_reducible refine Below.drew ?_ | with_reducible refine Below.setCell ?_ ?_ _ | with_reducible refine Below.atPut ?_ ?_ _ | (simp [go_sem]; done) | (simp [go_sem]; omega)))
      generalize wr.alloc (.cells _ 38) = W3 at hp6 hb6 ⊢
      have HJ3 := hid (HJB.out _ _ _ HJK.out hb6)
      have HA3 := hid (show Row W3 34 2 (.slice a1 m c1) m (flat xs) from hrow.out.keep fun q hq => hb6.block q (hrow.out.lt hq))
      have HG3 := hid (fun r hr => HF.out.fen.below (hrk.out r hr) hb6)
      have HR3 := hid ((hb6.block r hrl).trans hpr.out)
      have hz6 := hb6.size
      have hE6 : w.heap.size ≤ wr.heap.size := by omega
      have hE7 : W2.heap.size ≤ wr.heap.size := hzr
      generalize wr.heap.size = B6 at hp6 hz6 hE6 hE7 ⊢
      have HP6 := hid hp6
      clear hb6 hf0 hf1 hrow hrk hpr HJK hzr hrl hp6
      go_loopw [21] (fun j wx => ∃ q : Nat, q ≤ m ∧ j = .int .i64 q ∧ W3.heap.size ≤ wx.heap.size ∧ Hid (J (toldA P A T p k q) wx) ∧ Hid (Row wx 34 2 (.slice a1 m c1) m (flat xs)) ∧ Hid (∀ r, blk (.slice a1 m c1) r ≠ 0 → Rk r wx) ∧ Hid (wx.heap[r]? = some (.cells (flatC P).toArray 38)) ∧ Hid (wx.heap[B6]? = some (.cells #[.int .u64 p.1, .int .u64 p.2] 38))) (fun j _ => m - (intOf j).toNat)
      case atStart => exact ⟨0, Nat.zero_le _, rfl, Nat.le_refl _, HJ3, HA3, HG3, HR3, HP6⟩
      case round =>
        obtain ⟨q, hq, rfl, hzx, hJq, hrow, hrk, hpr, hp6⟩ := hrel
        clear HJ3 HA3 HG3 HR3 HP6
        by_cases hlt2 : q < m
        · obtain ⟨y, hy⟩ : ∃ y, A[q]? = some y := ⟨A[q]'(by rw [HAM.out]; exact hlt2), List.getElem?_eq_getElem _⟩
          have hpx : xs[q]? = some (f y) := by rw [← HAF.out, List.getElem?_map, hy]; rfl
          have HQ := hid hy
          clear hy
          obtain ⟨x, hxy⟩ : ∃ x, x = f y := ⟨_, rfl⟩
          rw [← hxy] at hpx
          have HXY := hid hxy
          clear hxy
          obtain ⟨ri, oi, rfl, i0, i2, i1⟩ := (show Src wr 2 (.slice a1 xs.length c1) xs.length (flat xs) by rw [HLM.out]; exact hrow.out.src (flat_one _)).at_ q x hpx
          have hri := World.block_lt_of_cell? _ _ i0
          have hsx := HSM.out x (List.mem_of_getElem? hpx)
          have e6 := fun i => cell_of_row wr B6 i _ _ (0, 0) hp6.out
          have l6 := lt_of_heap hp6.out
          clear hpx
          obtain ⟨ad, had⟩ : ∃ ad, addrN x.1.data.toList = ad := ⟨_, rfl⟩
          have HAD := hid (show adr x = ad by unfold adr; rw [had])
          go_wp2_with fail
          (((with_reducible refine (addr_any x.1 hsx ad had _).mono ?_)); rintro _ _ ⟨rfl, u, rfl⟩)
          have hb4 : Below wr.heap.size wr u.val := (by repeat' (first | exact Below.refl _ _ | with_reducible assumption | omega | with_reducible refine below_put_fut ?_ ?_ _ | with_reducible refine below_to_put ?_ | with_reducible refine Below.alloc ?_ ?_ _ | with_reducible refine Below.fut ?_ ?_ _ | with_reducible refine Below.drew ?_ | with_reducible refine Below.setCell ?_ ?_ _ | with_reducible refine Below.atPut ?_ ?_ _ | (simp [go_sem]; done) | (simp [go_sem]; omega)))
          have hp8 : u.val.heap[wr.heap.size]? = some (.cells #[.string x.1, .string x.2] 34) := (u.below.block _ (by simp)).trans (heap_alloc_at _ _ _ rfl)
          have e6' := fun i => cell_of_row u.val B6 i _ _ (0, 0) ((hb4.block _ l6).trans hp6.out)
          have l6' : B6 < u.val.heap.size := Nat.lt_of_lt_of_le l6 hb4.size
          generalize u.val = W5 at hb4 hp8 e6' l6' ⊢
          have HJ5 := hid (HJB.out _ _ _ hJq.out hb4)
          have HA5 := hid (show Row W5 34 2 (.slice (some ⟨ri, oi, none⟩) m c1) m (flat xs) from by have := hrow.out.keep fun q hq => hb4.block q (hrow.out.lt hq); rwa [← HLM.out] at this ⊢)
          have HG5 := hid (show ∀ r, blk (.slice (some ⟨ri, oi, none⟩) m c1) r ≠ 0 → Rk r W5 from fun r hr => HF.out.fen.below (hrk.out r (by rw [HLM.out] at *; exact hr)) hb4)
          have HR5 := hid ((hb4.block r (lt_of_heap hpr.out)).trans hpr.out)
          have HP5 := hid ((hb4.block _ l6).trans hp6.out)
          have hz5 := hb4.size
          have HIN := hid (show T p y = true ↔ p.1 ≤ (ad : Int) ∧ (p.2 = 0 ∨ (ad : Int) < p.2) by rw [HT.out, inP_iff, ← HXY.out, HAD.out])
          by_cases g1 : (ad : Int) < p.1
          · have d1 : decide ((ad : Int) < p.1) = true := decide_eq_true g1
            have HNI := hid (show T p y = false by rw [Bool.eq_false_iff]; intro h; have := HIN.out.1 h; omega)
            clear g1
            go_wp2_with fail
            exact ⟨⟨q + 1, by omega, by go_num, by omega, hid (by rw [toldA_skips HQ.out HNI.out]; exact HJ5.out), HA5, HG5, HR5, HP5⟩, by simp [intOf]; omega⟩
          · have d1 : decide ((ad : Int) < p.1) = false := decide_eq_false g1
            by_cases g2 : 0 < p.2
            · have d2 : decide (0 < p.2) = true := decide_eq_true g2
              by_cases g3 : p.2 ≤ (ad : Int)
              · have d3 : decide (p.2 ≤ (ad : Int)) = true := decide_eq_true g3
                have HNI := hid (show T p y = false by rw [Bool.eq_false_iff]; intro h; have := HIN.out.1 h; omega)
                clear g1 g2 g3
                go_wp2_with fail
                exact ⟨⟨q + 1, by omega, by go_num, by omega, hid (by rw [toldA_skips HQ.out HNI.out]; exact HJ5.out), HA5, HG5, HR5, HP5⟩, by simp [intOf]; omega⟩
              · have d3 : decide (p.2 ≤ (ad : Int)) = false := decide_eq_false g3
                have HYI := hid (show T p y = true from HIN.out.2 ⟨by omega, by omega⟩)
                clear g1 g2 g3
                go_upto_region 9 with fail
                have hq0 := cell_of_row W5 _ 0 _ _ (0, 0) hp8
                have hq1 := cell_of_row W5 _ 1 _ _ (0, 0) hp8
                rw [← wpIn_wide (n := n)]
                refine wpIn_region_lit ?_
                refine wpListIn_runTo (fun _ => trivial) rfl (fun _ h => by cases h) (some 43) rfl (.func (.yield ll) #[] #[]) W5 (by simp [execOp, Act.eval, Act.put, go_sem]) ?_
                simp only [Act.put, List.setIfInBounds_toArray, List.set_cons_succ, List.set_cons_zero]
                refine wpListIn_runTo (fun _ => trivial) rfl (fun _ h => by cases h) (some 44) rfl (.pointer (some ⟨wr.heap.size, 0, none⟩)) W5 (by simp [execOp, Act.eval, Act.put, go_sem]) ?_
                simp only [Act.put, List.setIfInBounds_toArray, List.set_cons_succ, List.set_cons_zero]
                refine wpListIn_runTo (fun _ => trivial) rfl (fun _ h => by cases h) (some 45) rfl (.string x.1) W5 (by simp [execOp, Act.eval, Act.put, go_sem, hq0]) ?_
                simp only [Act.put, List.setIfInBounds_toArray, List.set_cons_succ, List.set_cons_zero]
                refine wpListIn_runTo (fun _ => trivial) rfl (fun _ h => by cases h) (some 46) rfl (.pointer (some ⟨wr.heap.size, 1, none⟩)) W5 (by simp [execOp, Act.eval, Act.put, go_sem]) ?_
                simp only [Act.put, List.setIfInBounds_toArray, List.set_cons_succ, List.set_cons_zero]
                refine wpListIn_runTo (fun _ => trivial) rfl (fun _ h => by cases h) (some 47) rfl (.string x.2) W5 (by simp [execOp, Act.eval, Act.put, go_sem, hq1]) ?_
                simp only [Act.put, List.setIfInBounds_toArray, List.set_cons_succ, List.set_cons_zero]
                obtain ⟨hlen, htk, hsn, htk2⟩ := toldA_tells HPK.out HQ.out HYI.out
                obtain ⟨fn, tmps, assign, body, hy, hR⟩ := HY.out _ y W5 HJ5.out (by rw [HL.out _ rfl]; exact hlen)
                try dsimp only at hy
                rw [← HXY.out] at hy
                have HTK := hid htk2
                have HSN := hid hsn
                have HLN := hid hlen
                clear htk hsn htk2 hlen
                gi_wp2_with fail
                refine ⟨fun h => (by cases h), ?_⟩
                refine hR.mono ?_
                clear hy hR
                rintro e W6 (⟨rfl, hJ6, hk6⟩ | ⟨rfl, hJx6⟩)
                · have hst : ∀ q, blk (.slice (some ⟨ri, oi, none⟩) m c1) q ≠ 0 → Rk q W6 ∧ ∀ o', W5.heap[q]? = some o' → o'.isCells = true → W6.heap[q]? = some o' := fun q hq => HF.out.fen.step (HG5.out q hq) (HA5.out.lt hq) hk6
                  have HA6 := hid (show Row W6 34 2 (.slice (some ⟨ri, oi, none⟩) m c1) m (flat xs) from HA5.out.keep fun q hq => by
                    obtain ⟨r2, c3, hv, _, _⟩ := World.ownsRow.form HA5.out (by omega)
                    injection hv with hv; injection hv with hv; cases hv
                    obtain ⟨cur, _, _, hcur, _, _⟩ := row_open HA5.out
                    rw [blk_at _ _ _ _ _ none] at hq
                    obtain rfl := one_ne hq
                    rw [(hst q (by rw [blk_at _ _ _ _ _ none, one_self]; omega)).2 _ hcur rfl, hcur])
                  have HG6 := hid (fun q hq => (hst q hq).1)
                  have HR6 := hid ((HF.out.late hEr HR5.out (by decide) hk6).trans HR5.out)
                  have HP6 := hid ((HF.out.late hE6 HP5.out (by decide) hk6).trans HP5.out)
                  have HJ6 := hid (show J (toldA P A T p k (q + 1)) W6 by rw [HSN.out]; exact hJ6)
                  have hz6' := HF.out.fen.size hk6
                  clear hJ6 hk6 hst hq0 hq1 hp8
                  gi_wp2_with fail
                  go_wp2_with fail
                  exact ⟨⟨q + 1, by omega, by go_num, by omega, HJ6, HA6, HG6, HR6, HP6⟩, by simp [intOf]; omega⟩
                · have HJX := hid hJx6
                  clear hJx6
                  gi_wp2_with fail
                  go_wp2_with fail
                  rw [Exit.noGoto_normal]
                  go_end0
                  exact ⟨⟨_, rfl⟩, .inr ⟨_, ⟨(toldA P A T p k q).length + 1, by rw [HL.out _ rfl]; exact HLN.out, by rw [HL.out _ rfl]; exact HTK.out⟩, HJX.out⟩⟩
            · have d2 : decide (0 < p.2) = false := decide_eq_false g2
              have HYI := hid (show T p y = true from HIN.out.2 ⟨by omega, .inl (HP2.out p (List.mem_of_getElem? HPK.out) (by omega))⟩)
              clear g1 g2
              go_upto_region 9 with fail
              have hq0 := cell_of_row W5 _ 0 _ _ (0, 0) hp8
              have hq1 := cell_of_row W5 _ 1 _ _ (0, 0) hp8
              rw [← wpIn_wide (n := n)]
              refine wpIn_region_lit ?_
              refine wpListIn_runTo (fun _ => trivial) rfl (fun _ h => by cases h) (some 43) rfl (.func (.yield ll) #[] #[]) W5 (by simp [execOp, Act.eval, Act.put, go_sem]) ?_
              simp only [Act.put, List.setIfInBounds_toArray, List.set_cons_succ, List.set_cons_zero]
              refine wpListIn_runTo (fun _ => trivial) rfl (fun _ h => by cases h) (some 44) rfl (.pointer (some ⟨wr.heap.size, 0, none⟩)) W5 (by simp [execOp, Act.eval, Act.put, go_sem]) ?_
              simp only [Act.put, List.setIfInBounds_toArray, List.set_cons_succ, List.set_cons_zero]
              refine wpListIn_runTo (fun _ => trivial) rfl (fun _ h => by cases h) (some 45) rfl (.string x.1) W5 (by simp [execOp, Act.eval, Act.put, go_sem, hq0]) ?_
              simp only [Act.put, List.setIfInBounds_toArray, List.set_cons_succ, List.set_cons_zero]
              refine wpListIn_runTo (fun _ => trivial) rfl (fun _ h => by cases h) (some 46) rfl (.pointer (some ⟨wr.heap.size, 1, none⟩)) W5 (by simp [execOp, Act.eval, Act.put, go_sem]) ?_
              simp only [Act.put, List.setIfInBounds_toArray, List.set_cons_succ, List.set_cons_zero]
              refine wpListIn_runTo (fun _ => trivial) rfl (fun _ h => by cases h) (some 47) rfl (.string x.2) W5 (by simp [execOp, Act.eval, Act.put, go_sem, hq1]) ?_
              simp only [Act.put, List.setIfInBounds_toArray, List.set_cons_succ, List.set_cons_zero]
              obtain ⟨hlen, htk, hsn, htk2⟩ := toldA_tells HPK.out HQ.out HYI.out
              obtain ⟨fn, tmps, assign, body, hy, hR⟩ := HY.out _ y W5 HJ5.out (by rw [HL.out _ rfl]; exact hlen)
              try dsimp only at hy
              rw [← HXY.out] at hy
              have HTK := hid htk2
              have HSN := hid hsn
              have HLN := hid hlen
              clear htk hsn htk2 hlen
              gi_wp2_with fail
              refine ⟨fun h => (by cases h), ?_⟩
              refine hR.mono ?_
              clear hy hR
              rintro e W6 (⟨rfl, hJ6, hk6⟩ | ⟨rfl, hJx6⟩)
              · have hst : ∀ q, blk (.slice (some ⟨ri, oi, none⟩) m c1) q ≠ 0 → Rk q W6 ∧ ∀ o', W5.heap[q]? = some o' → o'.isCells = true → W6.heap[q]? = some o' := fun q hq => HF.out.fen.step (HG5.out q hq) (HA5.out.lt hq) hk6
                have HA6 := hid (show Row W6 34 2 (.slice (some ⟨ri, oi, none⟩) m c1) m (flat xs) from HA5.out.keep fun q hq => by
                  obtain ⟨r2, c3, hv, _, _⟩ := World.ownsRow.form HA5.out (by omega)
                  injection hv with hv; injection hv with hv; cases hv
                  obtain ⟨cur, _, _, hcur, _, _⟩ := row_open HA5.out
                  rw [blk_at _ _ _ _ _ none] at hq
                  obtain rfl := one_ne hq
                  rw [(hst q (by rw [blk_at _ _ _ _ _ none, one_self]; omega)).2 _ hcur rfl, hcur])
                have HG6 := hid (fun q hq => (hst q hq).1)
                have HR6 := hid ((HF.out.late hEr HR5.out (by decide) hk6).trans HR5.out)
                have HP6 := hid ((HF.out.late hE6 HP5.out (by decide) hk6).trans HP5.out)
                have HJ6 := hid (show J (toldA P A T p k (q + 1)) W6 by rw [HSN.out]; exact hJ6)
                have hz6' := HF.out.fen.size hk6
                clear hJ6 hk6 hst hq0 hq1 hp8
                gi_wp2_with fail
                go_wp2_with fail
                exact ⟨⟨q + 1, by omega, by go_num, by omega, HJ6, HA6, HG6, HR6, HP6⟩, by simp [intOf]; omega⟩
              · have HJX := hid hJx6
                clear hJx6
                gi_wp2_with fail
                go_wp2_with fail
                rw [Exit.noGoto_normal]
                go_end0
                exact ⟨⟨_, rfl⟩, .inr ⟨_, ⟨(toldA P A T p k q).length + 1, by rw [HL.out _ rfl]; exact HLN.out, by rw [HL.out _ rfl]; exact HTK.out⟩, HJX.out⟩⟩
        · obtain rfl : q = m := by omega
          go_wp2_with fail
          exact ⟨⟨k + 1, by omega, by go_num, by omega, hid (by have := hJq.out; rw [← HAM.out, toldA_next HPK.out (0, 0)] at this; exact this), hrow, hrk, hpr⟩, by simp [intOf]; omega⟩
    · obtain rfl : k = pn := by omega
      have HJ5 := hid (show J (P.flatMap fun p => A.filter (T p)) wr from by have := hJk.out; rwa [← HPN.out, toldA_end] at this)
      go_wp2_with fail
      rw [Exit.noGoto_normal]
      go_end0
      exact ⟨⟨_, rfl⟩, .inl ⟨_, (HL.out _ rfl).symm, HJ5.out⟩⟩
theorem walkArc1_stops (n : Nat) {B0 : Nat} {w0 : World} {most : Int} {xs : List It} {g : Nat} {w : World} (h : Sh B0 w0 most xs g w) (hn : xs.length ≤ 900) (s : Nat) (hS : w.heap[s]? = some (.cells #[.pointer (some ⟨g, 0, none⟩)] 23))
    (a b : Int) (hb0 : 0 ≤ b) (hab : w.heap[s + 1]? = some (.cells #[.int .u64 a, .int .u64 b] 38))
    {α : Type} (A : List α) (f : α → It) (hAf : A.map f = xs) {K : World → World → Prop} {Rk : Nat → World → Prop} (hF : FenA w.heap.size K Rk) (hfr : ∀ (W : World) (r : Nat), Below w.heap.size w W → W.heap.size ≤ r → Rk r W) :
    SeqStopsK Fence.wide n Try.prog 80 #[.pointer (some ⟨s, 0, none⟩), .pointer (some ⟨s + 1, 0, none⟩)] (fun x : α => #[.string (f x).1, .string (f x).2]) K (fun ys => ys = (piecesA a b).flatMap fun p => A.filter fun y => inP p (f y))
      (fun pre => ∃ k, k ≤ ((piecesA a b).flatMap fun p => A.filter fun y => inP p (f y)).length ∧ pre = ((piecesA a b).flatMap fun p => A.filter fun y => inP p (f y)).take k) ((piecesA a b).flatMap fun p => A.filter fun y => inP p (f y)).length w :=
  walkArc1_gen n (h.gives hn) hn (sh_small h) s hS a b hb0 hab A f hAf hF hfr
end Go.Proofs.Ythknenhcnpgkcaa
