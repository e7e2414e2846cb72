import Derived.Test.YthknenhcnpgkcaaSh3
import Derived.Deep.RegionWith
import Derived.Deep.DeepMust
/- Contracts of package shelf: all, Items. -/
namespace Go.Proofs.Ythknenhcnpgkcaa
open Go.RowKit
set_option linter.unusedVariables false
set_option linter.unusedSimpArgs false
theorem wpList_append_ex {P : Program} {w : World} {ops : Array Oper} {rest : List Oper} {o : Oper} {a : Act} {Q : Exit → Act → World → Prop} {R : Value → World → Prop} (hgd : o.guard = none) (s x : Operand) (t : TypeId)
    (ho : o.op = .call { callee := .builtin .append, args := #[s, x], argTypes := #[t, t] }) (v sv : Value) (hs : a.eval s = v) (hx : a.eval x = sv)
    (hrun : ∃ v' w', (Builtin.append_ #[t, t] o.type #[v, sv]).run P w = .ok v' w' ∧ R v' w') (h : ∀ v' w', R v' w' → wpList P ops Q rest (a.put o.dst v') w') : wpList P ops Q (o :: rest) a w := by
  obtain ⟨v', w', hr, hR⟩ := hrun
  exact wpList_append_run hgd s x t ho v sv hs hx v' w' hr (h v' w' hR)
/-- One more item in a list. -/
theorem append_one {W W2 : World} {v : Value} {n : Nat} {ys : List It} (h : Row W 34 2 v n (flat ys)) (hb : Below W.heap.size W W2) (hn : n ≤ 1000) {S : Nat} {x : It} (hS : W2.heap[S]? = some (.cells #[.string x.1, .string x.2] 34)) :
    ∃ v' W', (Builtin.append_ #[28, 28] 28 #[v, .slice (some ⟨S, 0, none⟩) 1 1]).run Try.prog W2 = .ok v' W' ∧ (∃ ao c, v' = .slice ao (n + 1) c) ∧ Row W' 34 2 v' (n + 1) (flat (ys ++ [x])) ∧ Chg (fun k => blk v k ≠ 0) W W' ∧ ∀ k, k < W.heap.size → blk v' k ≤ blk v k := by
  obtain ⟨i0, hi0, hz0, hz1, hz2⟩ := info_parts item_info
  obtain ⟨v', W', hrun, hrow, hch, hle⟩ := append_row (P := Try.prog) W2 28 28 34 i0 _ 2 32 Try.underlying28 hi0 hz0 hz1 hz2 rfl (by omega) v n _ (owns_below h hb) (.slice (some ⟨S, 0, none⟩) 1 1) 1 [.string x.1, .string x.2]
    ⟨rfl, by simp [Value.oneCell'], .inr ⟨⟨S, 0, none⟩, 1, rfl, World.news_of_block hS⟩⟩ (by unfold maxLen; omega) (by omega)
  obtain ⟨ao, c, rfl⟩ := owns_slice hrow
  refine ⟨_, W', hrun, ⟨ao, c, rfl⟩, ?_, (Chg.of_below (S := fun k => blk v k ≠ 0) hb).trans hch (fun _ _ h => h), fun k hk => hle k (Nat.lt_of_lt_of_le hk hb.size)⟩
  rw [flat_append]
  exact hrow
set_option maxRecDepth 100000 in
set_option maxHeartbeats 8000000 in
theorem all_is : ∀ (d lo : Nat) (W : World) (q : Kid) (ov : Value) (m : Nat) (olds : List It), At d lo W q → Row W 34 2 ov m (flat olds) → olds.length = m → m + q.xs.length ≤ 1000 → (∀ k, q.c k ≠ 0 → blk ov k = 0) →
    Calls Try.prog 74 #[.pointer (some ⟨q.p, 0, none⟩), ov] W fun en W' => ∃ ao c, en = .returned (.slice ao (m + q.xs.length) c) ∧ Row W' 34 2 (.slice ao (m + q.xs.length) c) (m + q.xs.length) (flat (olds ++ q.xs)) ∧ Chg (fun k => blk ov k ≠ 0) W W' ∧ ∀ k, k < W.heap.size → blk (.slice ao (m + q.xs.length) c) k ≤ blk ov k := by
  intro d
  induction d using Nat.strongRecOn with
  | _ d ih =>
  intro lo W q ov m olds h hrow hol hm hdis
  have IH := hid ih
  clear ih
  obtain ⟨iv, bv, its, kids, hN, hl1, hl2, hG⟩ := h.node
  obtain ⟨oo, oc, rfl⟩ := owns_slice hrow
  obtain ⟨io, ic, rfl⟩ := owns_slice hN.items
  obtain ⟨bo, bc, rfl⟩ := owns_slice hN.below
  obtain ⟨n, hn⟩ : ∃ n, its.length = n := ⟨_, rfl⟩
  obtain ⟨kn, hkn⟩ : ∃ kn, kids.length = kn := ⟨_, rfl⟩
  have HKEEP := hid (show ∀ wr, Chg (fun k => blk (.slice oo m oc) k ≠ 0) W wr → ∀ k, q.c k ≠ 0 → wr.heap[k]? = W.heap[k]? from fun wr hc k hk => hc.block k (h.lt k hk) (by rw [hdis k hk]; simp))
  have hiv := hN.items
  have hbv := hN.below
  rw [hn] at hiv hN hl1 hl2
  rw [hkn] at hbv hN
  have hpl := hN.lt
  have HN := hid hN
  have HH := hid h
  have HROW := hid hrow
  have HOL := hid hol
  have HM := hid hm
  have HDIS := hid hdis
  have HG := hid hG
  have HNN := hid hn
  have HKN := hid hkn
  have HIV := hid hiv
  have HBV := hid hbv
  have hcp := fun i => cell_of_row W q.p i _ _ (0, 0) hN.heap
  have hm0 : m ≤ 1000 := by omega
  obtain ⟨lf, hlf⟩ : ∃ b, ((kn : Int) == 0) = b := ⟨_, rfl⟩
  have HLF := hid hlf
  clear hN h hrow hol hm hdis hG hn hkn hiv hbv hlf
  go_enter Try.func74, Try.ntmps74
  go_wp2_with fail
  go_loopw [1, 15] (fun o x wr => ∃ (i m' : Nat) (ao : Option Addr) (c : Nat), i ≤ n ∧ x = .int .i64 i ∧ o = .slice ao m' c ∧ m' ≤ 1000 ∧ Hid ((olds ++ preL d its kids i).length = m' ∧ Row wr 34 2 (.slice ao m' c) m' (flat (olds ++ preL d its kids i))) ∧ Hid (Chg (fun k => blk (.slice oo m oc) k ≠ 0) W wr ∧ ∀ k, k < W.heap.size → blk (.slice ao m' c) k ≤ blk (.slice oo m oc) k)) (fun _ x _ => n - (intOf x).toNat)
  case atStart =>
    have e : preL d its kids 0 = [] := by unfold preL; split <;> simp [wpre]
    exact ⟨0, m, oo, oc, Nat.zero_le _, rfl, rfl, hm0, hid (by rw [e, List.append_nil]; exact ⟨HOL.out, HROW.out⟩), hid ⟨Chg.refl _ _, fun _ _ => Nat.le_refl _⟩⟩
  case round =>
    obtain ⟨i, m', ao, c, hi, rfl, rfl, hm', hr, hc⟩ := hrel
    have hpr : wr.heap[q.p]? = some (.cells #[.slice io n ic, .slice bo kn bc] 118) := (HKEEP.out wr hc.out.1 q.p (by have := HN.out.cnt q.p; rw [one_self] at this; omega)).trans HN.out.heap
    have hplr := lt_of_heap hpr
    have hcr := fun i => cell_of_row wr q.p i _ _ (0, 0) hpr
    have HPR := hid hpr
    clear hpr
    by_cases hlt : i < n
    · obtain ⟨x, hx⟩ : ∃ x, its[i]? = some x := ⟨its[i]'(by rw [HNN.out]; exact hlt), List.getElem?_eq_getElem _⟩
      obtain ⟨ri, ci, hv, _, hril⟩ := World.ownsRow.form HIV.out (by omega)
      obtain rfl : io = some ⟨ri, 0, none⟩ := by injection hv
      have hf := flat_at its i x hx
      have hrib : wr.heap[ri]? = W.heap[ri]? := HKEEP.out wr hc.out.1 ri (by have := HN.out.cnt ri; rw [blk_at _ _ _ _ _ none, one_self] at this; omega)
      have q0 : wr.cell? ⟨ri, i * 2, none⟩ = some (.string x.1) := by
        rw [World.cell?_of_block (w := W) (a := ⟨ri, i * 2, none⟩) hrib, HIV.out.cellAt _ (by omega), ← hf.1]; congr 1; omega
      have q1 : wr.cell? ⟨ri, i * 2 + 1, none⟩ = some (.string x.2) := by
        rw [World.cell?_of_block (w := W) (a := ⟨ri, i * 2 + 1, none⟩) hrib, HIV.out.cellAt _ (by omega), ← hf.2]; congr 1; omega
      have hrir := World.block_lt_of_cell? _ _ q0
      have HX := hid hx
      clear hv hf hx hrib
      cases d with
      | zero =>
        have hk0 : kn = 0 := by rw [← HKN.out]; obtain ⟨e, _⟩ := HG.out; rw [e]; rfl
        obtain rfl : lf = true := by rw [← HLF.out, hk0]; rfl
        have HPL := hid (preL_leaf (kids := kids) HX.out)
        have hlen := preL_len HG.out i ⟨0, [], fun _ => 0⟩ (by rw [HNN.out]; exact hlt) (fun e => absurd rfl e)
        have hm2 : m' + 1 ≤ 1000 := by
          have e1 := hr.out.1; have e2 := HOL.out; have e3 := HM.out
          rw [List.length_append] at e1
          simp at hlen
          omega
        go_wp2_with fail
        (((with_reducible refine (leaf_is _ q.p _ _ _ _ ((heap_alloc_other _ _ _ hplr).trans HPR.out) true HLF.out).mono ?_)); rintro _ _ ⟨rfl, u1, rfl⟩)
        go_wp2_with (first | (at_builtin; refine wpList_append_ex (by rfl) _ _ _ (by rfl) _ _ (by rfl) (by rfl) (append_one (x := x) hr.out.2 (by repeat' (first | exact Below.refl _ _ | with_reducible assumption | omega | with_reducible refine below_put_fut ?_ ?_ _ | with_reducible refine below_to_put ?_ | with_reducible refine Below.alloc ?_ ?_ _ | with_reducible refine Below.fut ?_ ?_ _ | with_reducible refine Below.drew ?_ | with_reducible refine Below.setCell ?_ ?_ _ | with_reducible refine Below.atPut ?_ ?_ _ | (simp [go_sem]; done) | (simp [go_sem]; omega))) hm' (by repeat' (first | rfl | assumption | (with_reducible refine (heap_drew_eq _ _).trans ?_) | (refine (Fut.heap _ _ ?_).trans ?_ ; focus (first | assumption | omega | (simp [go_sem]; done) | (simp [go_sem]; omega))) | (refine (heap_put_at _ _ _ ?_).trans ?_ ; focus (first | assumption | omega | (simp [go_sem]; done) | (simp [go_sem]; omega))) | (refine (heap_put_other _ _ _ _ ?_).trans ?_ ; focus (first | assumption | omega | (simp [go_sem]; done) | (simp [go_sem]; omega))) | (refine (heap_alloc_other _ _ _ ?_).trans ?_ ; focus (first | assumption | omega | (simp [go_sem]; done) | (simp [go_sem]; omega))) | (refine (heap_alloc_at _ _ _ ?_).trans ?_ ; focus (first | assumption | omega | (simp [go_sem]; done) | (simp [go_sem]; omega))) | (simp [go_sem]; done) | (simp [go_sem]; omega)))) ?_; rintro v4 w4 ⟨⟨ao4, c4, rfl⟩, hr4, hc4, hb4⟩))
        refine ⟨⟨i + 1, m' + 1, ao4, c4, by omega, by go_num, rfl, hm2, hid ⟨?_, ?_⟩, hid ⟨?_, ?_⟩⟩, by simp [intOf]; omega⟩
        · rw [HPL.out, ← List.append_assoc, List.length_append, hr.out.1]; rfl
        · rw [HPL.out, ← List.append_assoc]; exact hr4
        · exact hc.out.1.trans hc4 (fun k hk h => by have := hc.out.2 k hk; omega)
        · exact fun k hk => Nat.le_trans (hb4 k (Nat.lt_of_lt_of_le hk hc.out.1.size)) (hc.out.2 k hk)
      | succ d =>
        have hk1 : kn = n + 1 := by rw [← HKN.out, ← HNN.out]; exact HG.out.1
        obtain rfl : lf = false := by rw [← HLF.out, hk1]; simp; omega
        obtain ⟨s, hs⟩ : ∃ s, kids[i]? = some s := ⟨_, List.getElem?_eq_getElem (by rw [HKN.out]; omega)⟩
        obtain ⟨rb, cb', hv, _, hrb⟩ := World.ownsRow.form HBV.out (by omega)
        obtain rfl : bo = some ⟨rb, 0, none⟩ := by injection hv
        have hrbb : wr.heap[rb]? = W.heap[rb]? := HKEEP.out wr hc.out.1 rb (by have := HN.out.cnt rb; rw [blk_at rb 0 kn bc rb none, one_self] at this; omega)
        have hcb : wr.cell? ⟨rb, i, none⟩ = some (.pointer (some ⟨s.p, 0, none⟩)) := by
          rw [World.cell?_of_block (w := W) (a := ⟨rb, i, none⟩) hrbb, HBV.out.cellAt i (by omega)]
          simp [ptrs, hs, Kid.v]
        have hrbl := World.block_lt_of_cell? _ _ hcb
        have hsk : At d 3 W s := HG.out.2.2 s (List.mem_of_getElem? hs)
        have HPL := hid (preL_node (d := d) HX.out hs)
        have hlen := preL_len HG.out i s (by rw [HNN.out]; exact hlt) (fun _ => hs)
        have hqs : ∀ k, s.c k ≠ 0 → q.c k ≠ 0 := fun k hk => by have := HN.out.kid (List.mem_of_getElem? hs) k; omega
        have hm2 : m' + s.xs.length + 1 ≤ 1000 := by
          have e1 := hr.out.1; have e2 := HOL.out; have e3 := HM.out
          rw [List.length_append] at e1
          simp at hlen
          omega
        have hin : (i : Int) < kn := by omega
        have HCALL := hid (fun (X : World) (hb : Below wr.heap.size wr X) => IH.out d (by omega) 3 X s (.slice ao m' c) m' (olds ++ preL (d + 1) its kids i) (hsk.keep fun k hk => (hb.block k (Nat.lt_of_lt_of_le (hsk.lt k hk) hc.out.1.size)).trans (HKEEP.out wr hc.out.1 k (hqs k hk))) (owns_below hr.out.2 hb) hr.out.1 (by omega) (fun k hk => by
          have h1 := hc.out.2 k (hsk.lt k hk); have h2 := HDIS.out k (hqs k hk); omega))
        have HBX := hid (show blk (.slice ao m' c) wr.heap.size = 0 from by
          rcases Nat.eq_zero_or_pos (blk (.slice ao m' c) wr.heap.size) with e | e
          · exact e
          · have := hr.out.2.lt (k := wr.heap.size) (by omega); omega)
        clear hlen hqs hsk hs hv hrbb
        go_wp2_with fail
        (((with_reducible refine (leaf_is _ q.p _ _ _ _ ((heap_alloc_other _ _ _ hplr).trans HPR.out) false HLF.out).mono ?_)); rintro _ _ ⟨rfl, u1, rfl⟩)
        go_wp2_with fail
        refine (HCALL.out _ (by repeat' (first | exact Below.refl _ _ | with_reducible assumption | omega | with_reducible refine below_put_fut ?_ ?_ _ | with_reducible refine below_to_put ?_ | with_reducible refine Below.alloc ?_ ?_ _ | with_reducible refine Below.fut ?_ ?_ _ | with_reducible refine Below.drew ?_ | with_reducible refine Below.setCell ?_ ?_ _ | with_reducible refine Below.atPut ?_ ?_ _ | (simp [go_sem]; done) | (simp [go_sem]; omega)))).mono ?_
        rintro _ W5 ⟨ao5, c5, rfl, hr5, hc5, hb5⟩
        have hbu : Below wr.heap.size wr u1.val := (by repeat' (first | exact Below.refl _ _ | with_reducible assumption | omega | with_reducible refine below_put_fut ?_ ?_ _ | with_reducible refine below_to_put ?_ | with_reducible refine Below.alloc ?_ ?_ _ | with_reducible refine Below.fut ?_ ?_ _ | with_reducible refine Below.drew ?_ | with_reducible refine Below.setCell ?_ ?_ _ | with_reducible refine Below.atPut ?_ ?_ _ | (simp [go_sem]; done) | (simp [go_sem]; omega)))
        have h6 : W5.heap[wr.heap.size]? = some (.cells #[.string x.1, .string x.2] 34) := (hc5.block _ (by have := u1.below.size; simp only [World.size_alloc] at this; omega) (by rw [HBX.out]; simp)).trans ((u1.below.block _ (by simp)).trans (heap_alloc_at _ _ _ rfl))
        have hl6 := lt_of_heap h6
        have hcs := fun i => cell_of_row W5 wr.heap.size i _ _ (0, 0) h6
        have HR5 := hid hr5
        have HC5 := hid (hc.out.1.trans ((Chg.of_below (S := fun k => blk (.slice ao m' c) k ≠ 0) hbu).trans hc5 (fun _ _ h => h)) (fun k hk h => by have := hc.out.2 k hk; omega))
        have HB5 := hid (show ∀ k, k < W.heap.size → blk (.slice ao5 (m' + s.xs.length) c5) k ≤ blk (.slice oo m oc) k from fun k hk => Nat.le_trans (hb5 k (Nat.lt_of_lt_of_le hk (Nat.le_trans hc.out.1.size hbu.size))) (hc.out.2 k hk))
        have hz5 : W.heap.size ≤ W5.heap.size := HC5.out.size
        clear hr5 hc5 hb5 h6 hbu
        generalize hsl : s.xs.length = sl at *
        have HSL := hid hsl
        clear hsl
        go_wp2_with (first | (at_builtin; refine wpList_append_ex (by rfl) _ _ _ (by rfl) _ _ (by rfl) (by rfl) (append_one (x := x) HR5.out (by repeat' (first | exact Below.refl _ _ | with_reducible assumption | omega | with_reducible refine below_put_fut ?_ ?_ _ | with_reducible refine below_to_put ?_ | with_reducible refine Below.alloc ?_ ?_ _ | with_reducible refine Below.fut ?_ ?_ _ | with_reducible refine Below.drew ?_ | with_reducible refine Below.setCell ?_ ?_ _ | with_reducible refine Below.atPut ?_ ?_ _ | (simp [go_sem]; done) | (simp [go_sem]; omega))) (by omega) (by repeat' (first | rfl | assumption | (with_reducible refine (heap_drew_eq _ _).trans ?_) | (refine (Fut.heap _ _ ?_).trans ?_ ; focus (first | assumption | omega | (simp [go_sem]; done) | (simp [go_sem]; omega))) | (refine (heap_put_at _ _ _ ?_).trans ?_ ; focus (first | assumption | omega | (simp [go_sem]; done) | (simp [go_sem]; omega))) | (refine (heap_put_other _ _ _ _ ?_).trans ?_ ; focus (first | assumption | omega | (simp [go_sem]; done) | (simp [go_sem]; omega))) | (refine (heap_alloc_other _ _ _ ?_).trans ?_ ; focus (first | assumption | omega | (simp [go_sem]; done) | (simp [go_sem]; omega))) | (refine (heap_alloc_at _ _ _ ?_).trans ?_ ; focus (first | assumption | omega | (simp [go_sem]; done) | (simp [go_sem]; omega))) | (simp [go_sem]; done) | (simp [go_sem]; omega)))) ?_; rintro v4 w4 ⟨⟨ao4, c4, rfl⟩, hr4, hc4, hb4⟩))
        refine ⟨⟨i + 1, m' + sl + 1, ao4, c4, by omega, by go_num, rfl, hm2, hid ⟨?_, ?_⟩, hid ⟨?_, ?_⟩⟩, by simp [intOf]; omega⟩
        · rw [HPL.out, List.length_append, List.length_append, List.length_append, HSL.out]
          have := hr.out.1
          rw [List.length_append] at this
          simp; omega
        · rw [HPL.out, ← List.append_assoc, ← List.append_assoc]; exact hr4
        · exact HC5.out.trans hc4 (fun k hk h => by have := HB5.out k hk; omega)
        · exact fun k hk => Nat.le_trans (hb4 k (Nat.lt_of_lt_of_le hk hz5)) (HB5.out k hk)
    · obtain rfl : i = n := by omega
      cases d with
      | zero =>
        have hk0 : kn = 0 := by rw [← HKN.out]; obtain ⟨e, _⟩ := HG.out; rw [e]; rfl
        obtain rfl : lf = true := by rw [← HLF.out, hk0]; rfl
        have he := (preL_end HG.out).1 rfl
        rw [HNN.out] at he
        have HE := hid he
        clear he
        go_wp2_with fail
        (((with_reducible refine (leaf_is _ q.p _ _ _ _ HPR.out true HLF.out).mono ?_)); rintro _ _ ⟨rfl, u1, rfl⟩)
        go_wp2_with fail
        have hlen := hr.out.1
        rw [HE.out, List.length_append, HOL.out] at hlen
        subst hlen
        go_ret
        have hr2 := hr.out.2
        rw [HE.out] at hr2
        exact ⟨ao, c, rfl, owns_below hr2 u1.below, hc.out.1.trans (Chg.of_below (S := fun k => blk (.slice oo m oc) k ≠ 0) u1.below) (fun _ _ h => h), hc.out.2⟩
      | succ d =>
        have hk1 : kn = i + 1 := by rw [← HKN.out, ← HNN.out]; exact HG.out.1
        obtain rfl : lf = false := by rw [← HLF.out, hk1]; simp; omega
        obtain ⟨s, hs⟩ : ∃ s, kids[i]? = some s := ⟨_, List.getElem?_eq_getElem (by rw [HKN.out]; omega)⟩
        obtain ⟨rb, cb', hv, _, hrb⟩ := World.ownsRow.form HBV.out (by omega)
        obtain rfl : bo = some ⟨rb, 0, none⟩ := by injection hv
        have hrbb : wr.heap[rb]? = W.heap[rb]? := HKEEP.out wr hc.out.1 rb (by have := HN.out.cnt rb; rw [blk_at rb 0 kn bc rb none, one_self] at this; omega)
        have hcb : wr.cell? ⟨rb, i, none⟩ = some (.pointer (some ⟨s.p, 0, none⟩)) := by
          rw [World.cell?_of_block (w := W) (a := ⟨rb, i, none⟩) hrbb, HBV.out.cellAt i (by omega)]
          simp [ptrs, hs, Kid.v]
        have hrbl := World.block_lt_of_cell? _ _ hcb
        have hsk : At d 3 W s := HG.out.2.2 s (List.mem_of_getElem? hs)
        have he := (preL_end HG.out).2 s (by omega) (by rw [HNN.out]; exact hs)
        rw [HNN.out] at he
        have HE := hid he
        have hqs : ∀ k, s.c k ≠ 0 → q.c k ≠ 0 := fun k hk => by have := HN.out.kid (List.mem_of_getElem? hs) k; omega
        have hm2 : m' + s.xs.length = m + q.xs.length := by
          have e1 := hr.out.1; have e2 := HOL.out
          have e3 := congrArg List.length he
          rw [List.length_append] at e1 e3
          omega
        have hm3 := HM.out
        have hin : (i : Int) < kn := by omega
        have HCALL := hid (fun (X : World) (hb : Below wr.heap.size wr X) => IH.out d (by omega) 3 X s (.slice ao m' c) m' (olds ++ preL (d + 1) its kids i) (hsk.keep fun k hk => (hb.block k (Nat.lt_of_lt_of_le (hsk.lt k hk) hc.out.1.size)).trans (HKEEP.out wr hc.out.1 k (hqs k hk))) (owns_below hr.out.2 hb) hr.out.1 (by omega) (fun k hk => by
          have h1 := hc.out.2 k (hsk.lt k hk); have h2 := HDIS.out k (hqs k hk); omega))
        clear he hqs hsk hs hv hrbb
        go_wp2_with fail
        (((with_reducible refine (leaf_is _ q.p _ _ _ _ HPR.out false HLF.out).mono ?_)); rintro _ _ ⟨rfl, u1, rfl⟩)
        go_wp2_with fail
        go_region_with (go_at_call 74; ((with_reducible refine (HCALL.out _ (by repeat' (first | exact Below.refl _ _ | with_reducible assumption | omega | with_reducible refine below_put_fut ?_ ?_ _ | with_reducible refine below_to_put ?_ | with_reducible refine Below.alloc ?_ ?_ _ | with_reducible refine Below.fut ?_ ?_ _ | with_reducible refine Below.drew ?_ | with_reducible refine Below.setCell ?_ ?_ _ | with_reducible refine Below.atPut ?_ ?_ _ | (simp [go_sem]; done) | (simp [go_sem]; omega)))).mono ?_)); rintro _ W5 ⟨ao5, c5, rfl, hr5, hc5, hb5⟩)
        all_goals
          have HR5 := hid hr5
          have hbu : Below wr.heap.size wr u1.val.drew := (by repeat' (first | exact Below.refl _ _ | with_reducible assumption | omega | with_reducible refine below_put_fut ?_ ?_ _ | with_reducible refine below_to_put ?_ | with_reducible refine Below.alloc ?_ ?_ _ | with_reducible refine Below.fut ?_ ?_ _ | with_reducible refine Below.drew ?_ | with_reducible refine Below.setCell ?_ ?_ _ | with_reducible refine Below.atPut ?_ ?_ _ | (simp [go_sem]; done) | (simp [go_sem]; omega)))
          have HC5 := hid (hc.out.1.trans ((Chg.of_below (S := fun k => blk (.slice ao m' c) k ≠ 0) hbu).trans hc5 (fun _ _ h => h)) (fun k hk h => by have := hc.out.2 k hk; omega))
          have HB5 := hid (show ∀ k, k < W.heap.size → blk (.slice ao5 (m' + s.xs.length) c5) k ≤ blk (.slice oo m oc) k from fun k hk => Nat.le_trans (hb5 k (Nat.lt_of_lt_of_le hk (Nat.le_trans hc.out.1.size hbu.size))) (hc.out.2 k hk))
          clear hr5 hc5 hb5 hbu
          go_wp2_with fail
          go_ret
          have h1 := HR5.out
          have h2 := HB5.out
          rw [List.append_assoc, HE.out] at h1
          rw [hm2] at h1 h2
          exact ⟨ao5, c5, (by first | rfl | rw [hm2]), h1, HC5.out, h2⟩
set_option maxRecDepth 100000 in
/-- All items of a shelf. -/
theorem items_is {most : Int} {xs : List It} {W : World} {g : Nat} {c : Cnt} {top : Value} (h : Shf most xs W g c top) (hn : xs.length ≤ 1000) :
    Calls Try.prog 28 #[.pointer (some ⟨g, 0, none⟩)] W fun en W' => ∃ ao cc, en = .returned (.slice ao xs.length cc) ∧ Row W' 34 2 (.slice ao xs.length cc) xs.length (flat xs) ∧ Below W.heap.size W W' ∧ ∀ k, k < W.heap.size → blk (.slice ao xs.length cc) k = 0 := by
  have hc := fun i => cell_of_row W g i _ _ (0, 0) h.heap
  have hgl := lt_of_heap h.heap
  cases h.top with
  | none hx hcc =>
    subst hx
    clear h
    go_enter Try.func28, Try.ntmps28
    go_wp2_with (go_at_call 74; go_in)
    go_ret
    exact ⟨none, 0, rfl, World.ownsRow_nil _ _ _ _, (by repeat' (first | exact Below.refl _ _ | with_reducible assumption | omega | with_reducible refine below_put_fut ?_ ?_ _ | with_reducible refine below_to_put ?_ | with_reducible refine Below.alloc ?_ ?_ _ | with_reducible refine Below.fut ?_ ?_ _ | with_reducible refine Below.drew ?_ | with_reducible refine Below.setCell ?_ ?_ _ | with_reducible refine Below.atPut ?_ ?_ _ | (simp [go_sem]; done) | (simp [go_sem]; omega))), fun k _ => blk_nil _ _ _⟩
  | some d q ha hx hg hcc =>
    have hall := fun (X : World) (hb : Below W.heap.size W X) => all_is d 1 X q (.slice none 0 0) 0 [] (ha.keep fun k hk => hb.block k (ha.lt k hk)) (World.ownsRow_nil _ _ _ _) rfl (by rw [hx]; omega) (fun k _ => blk_nil _ _ _)
    rw [hx] at hall
    have HALL := hid hall
    clear hall h hcc hg ha
    go_enter Try.func28, Try.ntmps28
    go_wp2_with fail
    refine (HALL.out _ (Below.refl _ _)).mono ?_
    rintro _ W5 ⟨ao5, c5, rfl, hr5, hc5, hb5⟩
    rw [Nat.zero_add] at hr5 hb5 ⊢
    rw [List.nil_append] at hr5
    have HR := hid hr5
    have HC := hid (hc5.below (B := W.heap.size) (Nat.le_refl _) (fun i hi => absurd (blk_nil 0 0 i) (by simp at hi)))
    have HB := hid (fun k hk => Nat.eq_zero_of_le_zero (by have := hb5 k hk; rwa [blk_nil] at this))
    clear hr5 hc5 hb5
    go_wp2_with fail
    go_ret
    exact ⟨ao5, c5, rfl, HR.out, HC.out, HB.out⟩
end Go.Proofs.Ythknenhcnpgkcaa
