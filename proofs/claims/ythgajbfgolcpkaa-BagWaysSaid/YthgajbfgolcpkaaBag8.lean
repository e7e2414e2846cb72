import Derived.Test.YthgajbfgolcpkaaBag7
import Derived.IntWalk
/- A way through a bag with a function of one's own. -/
namespace Go.Proofs.Ythgajbfgolcpkaa
open Go.RowKit Go.Shelf
set_option linter.unusedVariables false
set_option linter.unusedSimpArgs false
/-- The block that is kept holds something else. -/
theorem Bag.rekeep {most : Int} {w0 : Base} {g M : Nat} {l : List Pk} {q q' : Obj} {W W' : World} (h : Bag most (w0.with M q) g l W) (hM : w0.heap.size ≤ M) (hb : Below W.heap.size (put W M q') W') : Bag most (w0.with M q') g l W' := by
  obtain ⟨v, h⟩ := h.ex
  obtain ⟨hk, hg, hv⟩ := h.kept M q (Base.with_self _ _ _)
  have hl := lt_of_heap hk
  have hp : BagAt most (w0.with M q') g l.length (flatP l) (put W M q') v := by
    refine ⟨Below.atPut h.below hM _, ?_, owns_put h.owns hv _, h.base, h.ne, fun k r hr => ?_⟩
    · rw [heap_put_other _ _ _ _ (fun e => hg e.symm)]; exact h.heap
    · by_cases e : k = M
      · subst e
        rw [Base.with_self] at hr
        cases hr
        exact ⟨heap_put_at _ _ _ hl, hg, hv⟩
      · have hr' : w0.keep k = some r := by simpa [Base.with, e] using hr
        have := h.kept k r (Base.with_other hr' e)
        exact ⟨by rw [heap_put_other _ _ _ _ e]; exact this.1, this.2⟩
  exact ⟨v, hp.on (by rw [size_put]; exact hb)⟩
theorem Bag.bare {most : Int} {w0 : Base} {g M : Nat} {l : List Pk} {q : Obj} {W : World} (h : Bag most (w0.with M q) g l W) (hk : ∀ k, w0.keep k = none) : Bag most w0 g l W := by
  obtain ⟨v, h⟩ := h.ex
  exact ⟨v, h.below, h.heap, h.owns, h.base, h.ne, fun k r hr => by rw [hk] at hr; cases hr⟩
set_option maxRecDepth 100000 in
set_option maxHeartbeats 4000000 in
theorem bagAll1_ways {most : Int} {w0 : Base} {g : Nat} {l : List Pk} {W : World} {v : Value} (h : BagAt most w0 g l.length (flatP l) W v) (hl : l.length ≤ 1000) (B : Nat) (hB : W.cell? ⟨B, 0, none⟩ = some (.pointer (some ⟨g, 0, none⟩))) (S : Nat → Prop) (hS : ∀ k, S k → k < W.heap.size) (A1 A2 : Nat) (J Jx : Nat → World → Prop) (hJb : ∀ k A B, J k A → Below A.heap.size A B → J k B)
    (hY : ∀ k p W, l[k]? = some p → J k W → Calls Try.prog 21 #[.int .i64 k, .agg (pk p.1 p.2.1 p.2.2.1 p.2.2.2), .pointer (some ⟨A1, 0, none⟩), .pointer (some ⟨A2, 0, none⟩)] W fun e W' => (e = .returned (.bool true) ∧ J (k + 1) W' ∧ KpS S W W') ∨ (e = .returned (.bool false) ∧ Jx (k + 1) W'))
    (h0 : J 0 W) :
    Calls Try.prog 46 #[.func (.func 21) #[] #[.pointer (some ⟨A1, 0, none⟩), .pointer (some ⟨A2, 0, none⟩)], .pointer (some ⟨B, 0, none⟩)] W fun e W' => (∃ v, e = .returned v) ∧ (J l.length W' ∨ ∃ k, k ≤ l.length ∧ Jx k W') := by
  have h1 := h
  have hB1 := hB
  obtain ⟨ao, cc, rfl⟩ := owns_slice h.owns
  have hc := fun i => cell_of_row W g i _ _ (0, 0) h1.heap
  have H1 := hid h1
  clear h h1 hB
  go_enter Try.func46, Try.ntmps46
  go_wp2_with fail
  (((with_reducible refine (clone_pkt _ _ l.length (flatP l) ((owns_zero H1.out.owns).src (flatP_one _)) hl).mono ?_)); rintro _ W1 ⟨cv, rfl, hr1, hb1, hf1⟩)
  have hJ1 := hJb _ _ _ h0 hb1
  obtain ⟨a1, c1, rfl⟩ := owns_slice hr1
  have hz1 := hb1.size
  clear hc hB1
  have HR := hid hr1
  have HF := hid hf1
  have HJ1 := hid hJ1
  have HJB := hid hJb
  have HY := hid hY
  clear hr1 hf1 hb1 h0 hJ1 hY hJb
  go_wp2_with fail
  go_loopw [13] (fun i wr => ∃ k : Nat, k ≤ l.length ∧ i = .int .i64 k ∧ W1.heap.size ≤ wr.heap.size ∧ Hid (J k wr) ∧ Hid (Row wr 38 25 (.slice a1 l.length c1) l.length (flatP l))) (fun i _ => l.length - (intOf i).toNat)
  case atStart => exact ⟨0, Nat.zero_le _, rfl, Nat.le_refl _, HJ1, HR⟩
  case round =>
    obtain ⟨k, hk, rfl, hzr, hJk, hrow⟩ := hrel
    by_cases hlt : k < l.length
    · obtain ⟨p, hp⟩ : ∃ p, l[k]? = some p := ⟨l[k], List.getElem?_eq_getElem hlt⟩
      obtain ⟨r2, rfl⟩ : ∃ r2, a1 = some ⟨r2, 0, none⟩ := by
        obtain ⟨r, cap, h2, _, _⟩ := World.ownsRow.form hrow.out (by omega)
        injection h2 with h2; exact ⟨r, h2⟩
      have HC := hid (row_cells hrow.out hp)
      have HP := hid hp
      clear hp
      have k1 : (k : Int) < l.length := by omega
      go_upto_region 3 with fail
      refine wp_region_lit ?_
      refine Go.Great.wpList_runTo rfl (some 15) rfl (.int .i64 k) wr (by simp [execOp, Act.eval, Act.put, go_sem, k1, hlt]) ?_
      simp only [Act.put, List.setIfInBounds_toArray, List.set_cons_succ, List.set_cons_zero]
      refine Go.Great.wpList_runTo rfl (some 16) rfl (.pointer (some ⟨r2, k * 25, none⟩)) wr (by simp [execOp, Act.eval, Act.put, go_sem, k1, hlt]) ?_
      simp only [Act.put, List.setIfInBounds_toArray, List.set_cons_succ, List.set_cons_zero]
      refine wpList_load_cells rfl 38 _ rfl ⟨r2, k * 25, none⟩ (by simp [Act.eval, Act.put]) (pkl p) _ HC.out Try.underlying38 rfl (by kernel_rfl) ?_
      rw [pkl_arr]
      simp only [Act.put, List.setIfInBounds_toArray, List.set_cons_succ, List.set_cons_zero]
      refine Go.Great.wpList_runTo rfl (some 4) rfl (.pointer (some ⟨wr.heap.size, 0, none⟩)) (wr.alloc (.cells (pk 0 0 0 0) 38)) (by kernel_rfl) ?_
      simp only [Act.put, List.setIfInBounds_toArray, List.set_cons_succ, List.set_cons_zero]
      refine Go.Great.wpList_runTo rfl (some 3) rfl (.int .i64 k) (wr.alloc (.cells (pk 0 0 0 0) 38)) (by simp [execOp, Act.eval, Act.put, go_sem]) ?_
      simp only [Act.put, List.setIfInBounds_toArray, List.set_cons_succ, List.set_cons_zero]
      refine wpList_store_row rfl 38 (.tmp 4) (.tmp 17) rfl wr.heap.size (pk p.1 p.2.1 p.2.2.1 p.2.2.2) (pk 0 0 0 0) (by simp [Act.eval, Act.put]) (by simp [Act.eval, Act.put]) (heap_alloc_at _ _ _ rfl) (by kernel_rfl) rfl (by simp [Value.oneCell']) ?_
      refine wpList_nil ?_
      rw [put_alloc]
      simp [Act.put]
      have hp2 : (wr.alloc (.cells (pk p.1 p.2.1 p.2.2.1 p.2.2.2) 38)).heap[wr.heap.size]? = some (.cells (pk p.1 p.2.1 p.2.2.1 p.2.2.2) 38) := heap_alloc_at _ _ _ rfl
      have hb2 : Below wr.heap.size wr (wr.alloc (.cells (pk p.1 p.2.1 p.2.2.1 p.2.2.2) 38)) := (by repeat' (first | exact Below.refl _ _ | with_reducible assumption | omega | with_reducible refine below_put_fut ?_ ?_ _ | with_reducible refine below_to_put ?_ | with_reducible refine Below.alloc ?_ ?_ _ | with_reducible refine Below.fut ?_ ?_ _ | with_reducible refine Below.drew ?_ | with_reducible refine Below.setCell ?_ ?_ _ | with_reducible refine Below.atPut ?_ ?_ _ | (simp [go_sem]; done) | (simp [go_sem]; omega)))
      generalize wr.alloc (.cells (pk p.1 p.2.1 p.2.2.1 p.2.2.2) 38) = W2 at hp2 hb2 ⊢
      go_upto_region 4 with fail
      refine wp_region_lit ?_
      refine Go.Great.wpList_runTo rfl (some 18) rfl (.func (.func 21) #[] #[.pointer (some ⟨A1, 0, none⟩), .pointer (some ⟨A2, 0, none⟩)]) W2 (by simp [execOp, Act.eval, go_sem]) ?_
      simp only [Act.put, List.setIfInBounds_toArray, List.set_cons_succ, List.set_cons_zero]
      refine Go.Great.wpList_runTo rfl (some 19) rfl (.int .i64 k) W2 (by simp [execOp, Act.eval, go_sem]) ?_
      simp only [Act.put, List.setIfInBounds_toArray, List.set_cons_succ, List.set_cons_zero]
      refine Go.Great.wpList_runTo rfl (some 20) rfl (.agg (pk p.1 p.2.1 p.2.2.1 p.2.2.2)) W2 (run_load_row 38 (.tmp 4) rfl wr.heap.size (by simp [Act.eval]) 38 _ (0, 0) _ hp2 Try.underlying38 rfl (by kernel_rfl)) ?_
      simp only [Act.put, List.setIfInBounds_toArray, List.set_cons_succ, List.set_cons_zero]
      go_wp2_with fail
      (((with_reducible refine (own_is _ _ _ _ _).mono ?_)); rintro _ _ ⟨rfl, u, rfl⟩)
      have hb3 := hb2.trans (u.below.mono hb2.size)
      have hp3 := (u.below.block _ (lt_of_heap hp2)).trans hp2
      have hz3 := u.below.size
      have hz4 := hb2.size
      generalize u.val = W3 at hb3 hp3 hz3 ⊢
      go_wp2_with fail
      refine (HY.out k p W3 HP.out (HJB.out _ _ _ hJk.out hb3)).mono ?_
      rintro e W4 (⟨rfl, hJ4, hk4⟩ | ⟨rfl, hJx4⟩)
      · have hrow4 : Row W4 38 25 (.slice (some ⟨r2, 0, none⟩) l.length c1) l.length (flatP l) := by
          refine (hrow.out.chg (Chg.of_below (S := fun _ => False) hb3) (fun _ _ h => h)).keep fun q hq => ?_
          rw [blk_at _ _ _ _ _ none] at hq
          obtain rfl := one_ne hq
          obtain ⟨cur, _, _, hcur, _, _⟩ := row_open (hrow.out.chg (Chg.of_below (S := fun _ => False) hb3) (fun _ _ h => h))
          have hq0 := HF.out q
          refine hk4.2 q _ hcur rfl (fun h => ?_)
          have h2 := hS q h
          have := HF.out q (by omega)
          rw [blk_at _ _ _ _ _ none, one_self] at this
          omega
        have HJ4 := hid hJ4
        have HR4 := hid hrow4
        have hz5 := hk4.1
        clear hJ4 hk4 hrow4 hp3 hp2
        go_wp2_with fail
        go_roundw
        case rel => exact ⟨k + 1, by omega, by go_num, by omega, HJ4, HR4⟩
        case measure => simp [intOf]; omega
      · go_wp2_with fail
        exact bodyPost_ret (results_none rfl _ _ _) rfl ⟨⟨_, rfl⟩, .inr ⟨k + 1, by omega, hJx4⟩⟩
    · obtain rfl : k = l.length := by omega
      go_wp2_with fail
      go_end0
      exact ⟨⟨_, rfl⟩, .inl hJk.out⟩
set_option maxRecDepth 100000 in
set_option maxHeartbeats 4000000 in
theorem ways_fn (k stop : Nat) (hk : k ≤ 1000) (hs : stop ≤ 1000) (A1 A2 : Nat) (a b c : Int) (W : World) (h1 : W.heap[A1]? = some (.cells #[.int .i64 k] 3)) (h2 : W.heap[A2]? = some (.cells #[.int .i64 stop] 3)) (hne : A1 ≠ A2) :
    Calls Try.prog 21 #[.int .i64 k, .agg (pk a b c k), .pointer (some ⟨A1, 0, none⟩), .pointer (some ⟨A2, 0, none⟩)] W fun e W' => e = .returned (.bool (decide (k + 1 < stop))) ∧ ∃ P, W' = put (W.alloc P) A1 (.cells #[.int .i64 ((k : Int) + 1)] 3) := by
  have l1 := lt_of_heap h1
  have l2 := lt_of_heap h2
  have c2 := fun i => cell_of_row W A2 i _ _ (0, 0) h2
  have n1 : ((⟨A2, 0, none⟩ : Addr) = ⟨A1, 0, none⟩) = False := by simp only [Addr.mk.injEq, eq_iff_iff, iff_false]; omega
  have n2 : ((⟨W.heap.size, 0, none⟩ : Addr) = ⟨A1, 0, none⟩) = False := by simp only [Addr.mk.injEq, eq_iff_iff, iff_false]; omega
  have hadd : IntKind.i64.wrap ((k : Int) + 1) = (k : Int) + 1 := IntWalk.i64_in _ (by omega)
  have hq : ((k : Int) == (k : Int)) = true := by simp
  have hdec : decide ((k : Int) + 1 < (stop : Int)) = decide (k + 1 < stop) := by congr 1; simp only [eq_iff_iff]; omega
  rw [← put_self h1]
  clear h1 h2
  go_enter Try.func21, Try.ntmps21
  go_wp2_with fail
  go_ret
  exact ⟨rfl, _, by rw [alloc_put _ _ _ _ l1, put_put]⟩
end Go.Proofs.Ythgajbfgolcpkaa
