import Derived.Test.YthgajbfgolcpkaaBag1
import Derived.Deep.RegionWith
/- Contracts of package bag: Put, Twice. -/
namespace Go.Proofs.Ythgajbfgolcpkaa
open Go.RowKit
set_option linter.unusedVariables false
set_option linter.unusedSimpArgs false
theorem step_load_row {P : Program} {w : World} {ops : Array Oper} {o : Oper} {a : Act} {K : Act → World → Prop} {Q : Exit → Act → World → Prop} {E : Prop} (hgd : o.guard = none) (ty : TypeId) (x : Operand) (ho : o.op = .load ty x)
    (g : Nat) (hx : a.eval x = .pointer (some ⟨g, 0, none⟩)) (t : TypeId) (cs : Array Value) (fr : Nat × Nat) (d : TypeDesc) (hg : w.heap[g]? = some (.cells cs t fr))
    (hu : P.underlying ty = some d) (hd : (match d with | .struct _ | .array _ _ => true | _ => false) = true) (hi : (P.info? ty).map (·.size) = some cs.size)
    (h : K (a.put o.dst (.agg cs)) w) : if Region.wanted o (yielded ops a.tmps) = true then Oper.wp P o a w K Q else E := by
  have hw : Region.wanted o (yielded ops a.tmps) = true := by simp [Region.wanted, hgd]
  rw [if_pos hw]
  exact wp_load_row ty x ho g hx t cs fr d hg hu hd hi h
theorem below_put_alloc {B : Nat} {a w : World} {g : Nat} {o x : Obj} (h : Below B (put a g o) (put w g o)) (hg : g < w.heap.size) (hB : B ≤ w.heap.size) : Below B (put a g o) (put (w.alloc x) g o) := by
  rw [← alloc_put _ _ _ _ hg]
  exact h.alloc (by rw [size_put]; exact hB) _
theorem below_put_drew {B : Nat} {a w : World} {g : Nat} {o : Obj} (h : Below B (put a g o) (put w g o)) : Below B (put a g o) (put w.drew g o) := h.drew
set_option maxRecDepth 100000 in
theorem put_full {most : Int} {w0 : Base} {g n : Nat} {xs : List Value} {W : World} {v : Value} (h : BagAt most w0 g n xs W v) (hn : most ≤ n) (a b c d : Int) :
    Calls Try.prog 19 #[.pointer (some ⟨g, 0, none⟩), .agg (pk a b c d)] W fun en W' => en = .returned (.bool false) ∧ BagAt most w0 g n xs W' v := by
  have hc := fun i => cell_of_row W g i _ _ (0, 0) h.heap
  obtain ⟨ao, cc, rfl⟩ := owns_slice h.owns
  have hg := h.lt
  have H := hid h
  clear h
  go_enter Try.func19, Try.ntmps19
  go_wp2_with (first | (((with_reducible refine wp_region_fut_lit (by kernel_rfl) (by kernel_rfl) ?_)); (repeat (go_big_quiet_step ((first | fail)))); ((with_reducible refine wpQuiet_nil ?_)); rintro _ ⟨u, rfl⟩; (try (rw [Fut.put_self u (by first | assumption | (simp [go_sem]; done) | (simp [go_sem]; omega))]))))
  go_ret
  exact ⟨rfl, H.out.on (by repeat' (first | exact Below.refl _ _ | with_reducible assumption | omega | with_reducible refine below_put_fut ?_ ?_ _ | with_reducible refine below_to_put ?_ | with_reducible refine Below.alloc ?_ ?_ _ | with_reducible refine Below.fut ?_ ?_ _ | with_reducible refine Below.drew ?_ | with_reducible refine Below.setCell ?_ ?_ _ | with_reducible refine Below.atPut ?_ ?_ _ | (simp [go_sem]; done) | (simp [go_sem]; omega)))⟩
set_option maxRecDepth 100000 in
set_option maxHeartbeats 4000000 in
theorem put_is {most : Int} {w0 : Base} {g n : Nat} {xs : List Value} {W : World} {v : Value} (h : BagAt most w0 g n xs W v) (hn : n < most) (hm : most ≤ 2000) (a b c d : Int) :
    Calls Try.prog 19 #[.pointer (some ⟨g, 0, none⟩), .agg (pk a b c d)] W fun en W' => ∃ v', en = .returned (.bool true) ∧ BagAt most w0 g (n + 1) (xs ++ pkl (a, b, c, d)) W' v' := by
  obtain ⟨i0, hi0, hz0, hz1, hz2⟩ := info_parts packet_info
  obtain ⟨ao, cc, rfl⟩ := owns_slice h.owns
  have hg := h.lt
  have hz := h.size
  have HA := fun W2 (hb : Below W.heap.size (put W g (.cells #[.int .i64 most, .slice ao n cc] 90)) W2) (r : Nat) (hr : W2.heap[r]? = some (.cells (pk a b c d) 38)) => append_obj (P := Try.prog) (h.on (by rw [put_self h.heap] at hb; exact hb)) 88 88 i0 _ 272 Try.underlying88 hi0 hz0 hz1 hz2 rfl (by omega) ⟨r, 0, none⟩ 1 1 (pkl (a, b, c, d)) rfl (World.news_of_block hr) (pkl_one _) (by unfold maxLen; omega) (by omega)
  have HA2 := hid HA
  clear HA
  rw [← put_self h.heap]
  clear h hi0 hz0 hz1 hz2
  simp only [bagObj]
  have hd : decide (most ≤ (n : Int)) = false := by simp; omega
  go_enter Try.func19, Try.ntmps19
  go_wp2_with (first | (((with_reducible refine wp_region_fut_lit (by kernel_rfl) (by kernel_rfl) ?_)); (repeat (go_big_quiet_step ((first | fail)))); ((with_reducible refine wpQuiet_nil ?_)); rintro _ ⟨u, rfl⟩; (try (rw [Fut.put_self u (by first | assumption | (simp [go_sem]; done) | (simp [go_sem]; omega))]))))
  refine wp_region_any (by kernel_rfl) ?_
  change wpAny _ _ _ _ _ _ _ (World.drew _)
  refine wpAny_take (i := 0) (v := ?_) rfl (by kernel_rfl) (by kernel_rfl) (by kernel_rfl) (fun _ _ _ h => h) (Or.inl ⟨by rfl, ?_⟩) ?_
  rotate_left
  · (intro w; go_simp; try with_reducible rfl)
  refine wpAny_take (i := 1) (v := ?_) rfl (by kernel_rfl) (by kernel_rfl) (by kernel_rfl) (fun _ _ _ h => h) (Or.inl ⟨by rfl, ?_⟩) ?_
  rotate_left
  · (intro w; go_simp; try with_reducible rfl)
  refine wpAny_take (i := 2) (v := ?_) rfl (by kernel_rfl) (by kernel_rfl) (by kernel_rfl) (fun _ _ _ h => h) (Or.inl ⟨by rfl, ?_⟩) ?_
  rotate_left
  · (intro w; go_simp; try with_reducible rfl)
  refine wpAny_take (i := 3) (v := ?_) rfl (by kernel_rfl) (by kernel_rfl) (by kernel_rfl) (fun _ _ _ h => h) (Or.inl ⟨by rfl, ?_⟩) ?_
  rotate_left
  · (intro w; go_simp; try with_reducible rfl)
  refine wpAny_ready (rs := [4, 5]) (by kernel_rfl) (by simp) ?_
  refine AllReady.cons (i := 4) rfl (fun K hK => ?_) ?_
  · go_simp
    refine hK _ _ ?_
    clear hK K
    refine wpAny_ready (rs := [5]) (by kernel_rfl) (by simp) ?_
    refine AllReady.cons (i := 5) rfl (fun K hK => ?_) ?_
    · refine step_load_row (by rfl) 38 _ (by rfl) W.heap.size (by rfl) 38 (pk a b c d) (0, 0) _ (by repeat' (first | rfl | assumption | (with_reducible refine (heap_drew_eq _ _).trans ?_) | (refine (Fut.heap _ _ ?_).trans ?_ ; focus (first | assumption | omega | (simp [go_sem]; done) | (simp [go_sem]; omega))) | (refine (heap_put_at _ _ _ ?_).trans ?_ ; focus (first | assumption | omega | (simp [go_sem]; done) | (simp [go_sem]; omega))) | (refine (heap_put_other _ _ _ _ ?_).trans ?_ ; focus (first | assumption | omega | (simp [go_sem]; done) | (simp [go_sem]; omega))) | (refine (heap_alloc_other _ _ _ ?_).trans ?_ ; focus (first | assumption | omega | (simp [go_sem]; done) | (simp [go_sem]; omega))) | (refine (heap_alloc_at _ _ _ ?_).trans ?_ ; focus (first | assumption | omega | (simp [go_sem]; done) | (simp [go_sem]; omega))) | (simp [go_sem]; done) | (simp [go_sem]; omega))) (by rfl) rfl (by kernel_rfl) ?_
      try go_simp
      refine hK _ _ ?_
      clear hK K
      refine wpAny_ready (rs := [6]) (by kernel_rfl) (by simp) ?_
      refine AllReady.cons (i := 6) rfl (fun K hK => ?_) ?_
      · go_simp
        (rw [← put_drew]; ((with_reducible refine (own_is _ _ _ _ _).mono ?_)); rintro _ _ ⟨rfl, u2, rfl⟩; rw [Fut.put_self u2 (by first | assumption | (simp [go_sem]; done) | (simp [go_sem]; omega))]; obtain ⟨v', W2, hrun, hgrow, hobj⟩ := HA2.out (put (u2.val.alloc (.cells (pk a b c d) 38)) g (.cells #[.int .i64 most, .slice ao n cc] 90)) (below_put_alloc (below_put_fut (below_put_drew (below_put_fut (below_put_alloc (Below.refl _ _) (by first | assumption | (simp [go_sem]; done) | (simp [go_sem]; omega)) (Nat.le_refl _)) (by first | assumption | (simp [go_sem]; done) | (simp [go_sem]; omega)) u)) (by first | assumption | (simp [go_sem]; done) | (simp [go_sem]; omega)) u2) (by first | assumption | (simp [go_sem]; done) | (simp [go_sem]; omega)) (by first | assumption | (simp [go_sem]; done) | (simp [go_sem]; omega))) u2.val.heap.size (by repeat' (first | rfl | assumption | (with_reducible refine (heap_drew_eq _ _).trans ?_) | (refine (Fut.heap _ _ ?_).trans ?_ ; focus (first | assumption | omega | (simp [go_sem]; done) | (simp [go_sem]; omega))) | (refine (heap_put_at _ _ _ ?_).trans ?_ ; focus (first | assumption | omega | (simp [go_sem]; done) | (simp [go_sem]; omega))) | (refine (heap_put_other _ _ _ _ ?_).trans ?_ ; focus (first | assumption | omega | (simp [go_sem]; done) | (simp [go_sem]; omega))) | (refine (heap_alloc_other _ _ _ ?_).trans ?_ ; focus (first | assumption | omega | (simp [go_sem]; done) | (simp [go_sem]; omega))) | (refine (heap_alloc_at _ _ _ ?_).trans ?_ ; focus (first | assumption | omega | (simp [go_sem]; done) | (simp [go_sem]; omega))) | (simp [go_sem]; done) | (simp [go_sem]; omega))); obtain ⟨ao', cc', rfl⟩ := owns_slice (hobj (.cells #[.int .i64 most, .slice ao n cc] 90)).owns; rw [show u2.val.heap.size = W.heap.size + 1 + u.n + u2.n from (by rw [Fut.size u2, size_put]; show u.val.heap.size + _ = _; rw [Fut.size u, size_put, World.size_alloc])] at hrun; have HG := hid hgrow; clear hgrow; have HO := hid hobj; clear hobj; have hg2 : g < W2.heap.size := by have := (HO.out (.cells #[.int .i64 most, .slice ao n cc] 90)).lt; rw [size_put] at this; exact this)
        try go_simp
        refine hK _ _ ?_
        clear hK K
        refine wpAny_ready (rs := [7]) (by kernel_rfl) (by simp) ?_
        refine AllReady.cons (i := 7) rfl (fun K hK => ?_) ?_
        · go_simp
          refine hK _ _ ?_
          clear hK K
          refine wpAny_ready (rs := [8]) (by kernel_rfl) (by simp) ?_
          refine AllReady.cons (i := 8) rfl (fun K hK => ?_) AllReady.nil
          refine step_append_run (by rfl) _ _ _ (by rfl) _ _ (by rfl) (by rfl) _ _ hrun ?_
          try go_simp
          refine hK _ _ ?_
          clear hK K
          refine wpAny_take (i := 9) (v := ?_) rfl (by kernel_rfl) (by kernel_rfl) (by kernel_rfl) (fun _ _ _ h => h) (Or.inl ⟨by rfl, ?_⟩) ?_
          rotate_left
          · (intro w; go_simp; try with_reducible rfl)
          refine wpAny_take (i := 10) (v := ?_) rfl (by kernel_rfl) (by kernel_rfl) (by kernel_rfl) (fun _ _ _ h => h) (Or.inl ⟨by rfl, ?_⟩) ?_
          rotate_left
          · (intro w; go_simp; try with_reducible rfl)
          refine wpAny_ready (rs := [11]) (by kernel_rfl) (by simp) ?_
          refine AllReady.cons (i := 11) rfl (fun K hK => ?_) AllReady.nil
          go_simp
          refine hK _ _ ?_
          clear hK K
          refine wpAny_done (by kernel_rfl) ?_ _
          go_wp2_with fail
          go_ret
          exact ⟨_, rfl, HO.out _⟩
        exact AllReady.nil
      exact AllReady.nil
    exact AllReady.nil
  refine AllReady.cons (i := 5) rfl (fun K hK => ?_) ?_
  · refine step_load_row (by rfl) 38 _ (by rfl) W.heap.size (by rfl) 38 (pk a b c d) (0, 0) _ (by repeat' (first | rfl | assumption | (with_reducible refine (heap_drew_eq _ _).trans ?_) | (refine (Fut.heap _ _ ?_).trans ?_ ; focus (first | assumption | omega | (simp [go_sem]; done) | (simp [go_sem]; omega))) | (refine (heap_put_at _ _ _ ?_).trans ?_ ; focus (first | assumption | omega | (simp [go_sem]; done) | (simp [go_sem]; omega))) | (refine (heap_put_other _ _ _ _ ?_).trans ?_ ; focus (first | assumption | omega | (simp [go_sem]; done) | (simp [go_sem]; omega))) | (refine (heap_alloc_other _ _ _ ?_).trans ?_ ; focus (first | assumption | omega | (simp [go_sem]; done) | (simp [go_sem]; omega))) | (refine (heap_alloc_at _ _ _ ?_).trans ?_ ; focus (first | assumption | omega | (simp [go_sem]; done) | (simp [go_sem]; omega))) | (simp [go_sem]; done) | (simp [go_sem]; omega))) (by rfl) rfl (by kernel_rfl) ?_
    try go_simp
    refine hK _ _ ?_
    clear hK K
    refine wpAny_ready (rs := [4, 6]) (by kernel_rfl) (by simp) ?_
    refine AllReady.cons (i := 4) rfl (fun K hK => ?_) ?_
    · go_simp
      refine hK _ _ ?_
      clear hK K
      refine wpAny_ready (rs := [6]) (by kernel_rfl) (by simp) ?_
      refine AllReady.cons (i := 6) rfl (fun K hK => ?_) ?_
      · go_simp
        (rw [← put_drew]; ((with_reducible refine (own_is _ _ _ _ _).mono ?_)); rintro _ _ ⟨rfl, u2, rfl⟩; rw [Fut.put_self u2 (by first | assumption | (simp [go_sem]; done) | (simp [go_sem]; omega))]; obtain ⟨v', W2, hrun, hgrow, hobj⟩ := HA2.out (put (u2.val.alloc (.cells (pk a b c d) 38)) g (.cells #[.int .i64 most, .slice ao n cc] 90)) (below_put_alloc (below_put_fut (below_put_drew (below_put_fut (below_put_alloc (Below.refl _ _) (by first | assumption | (simp [go_sem]; done) | (simp [go_sem]; omega)) (Nat.le_refl _)) (by first | assumption | (simp [go_sem]; done) | (simp [go_sem]; omega)) u)) (by first | assumption | (simp [go_sem]; done) | (simp [go_sem]; omega)) u2) (by first | assumption | (simp [go_sem]; done) | (simp [go_sem]; omega)) (by first | assumption | (simp [go_sem]; done) | (simp [go_sem]; omega))) u2.val.heap.size (by repeat' (first | rfl | assumption | (with_reducible refine (heap_drew_eq _ _).trans ?_) | (refine (Fut.heap _ _ ?_).trans ?_ ; focus (first | assumption | omega | (simp [go_sem]; done) | (simp [go_sem]; omega))) | (refine (heap_put_at _ _ _ ?_).trans ?_ ; focus (first | assumption | omega | (simp [go_sem]; done) | (simp [go_sem]; omega))) | (refine (heap_put_other _ _ _ _ ?_).trans ?_ ; focus (first | assumption | omega | (simp [go_sem]; done) | (simp [go_sem]; omega))) | (refine (heap_alloc_other _ _ _ ?_).trans ?_ ; focus (first | assumption | omega | (simp [go_sem]; done) | (simp [go_sem]; omega))) | (refine (heap_alloc_at _ _ _ ?_).trans ?_ ; focus (first | assumption | omega | (simp [go_sem]; done) | (simp [go_sem]; omega))) | (simp [go_sem]; done) | (simp [go_sem]; omega))); obtain ⟨ao', cc', rfl⟩ := owns_slice (hobj (.cells #[.int .i64 most, .slice ao n cc] 90)).owns; rw [show u2.val.heap.size = W.heap.size + 1 + u.n + u2.n from (by rw [Fut.size u2, size_put]; show u.val.heap.size + _ = _; rw [Fut.size u, size_put, World.size_alloc])] at hrun; have HG := hid hgrow; clear hgrow; have HO := hid hobj; clear hobj; have hg2 : g < W2.heap.size := by have := (HO.out (.cells #[.int .i64 most, .slice ao n cc] 90)).lt; rw [size_put] at this; exact this)
        try go_simp
        refine hK _ _ ?_
        clear hK K
        refine wpAny_ready (rs := [7]) (by kernel_rfl) (by simp) ?_
        refine AllReady.cons (i := 7) rfl (fun K hK => ?_) ?_
        · go_simp
          refine hK _ _ ?_
          clear hK K
          refine wpAny_ready (rs := [8]) (by kernel_rfl) (by simp) ?_
          refine AllReady.cons (i := 8) rfl (fun K hK => ?_) AllReady.nil
          refine step_append_run (by rfl) _ _ _ (by rfl) _ _ (by rfl) (by rfl) _ _ hrun ?_
          try go_simp
          refine hK _ _ ?_
          clear hK K
          refine wpAny_take (i := 9) (v := ?_) rfl (by kernel_rfl) (by kernel_rfl) (by kernel_rfl) (fun _ _ _ h => h) (Or.inl ⟨by rfl, ?_⟩) ?_
          rotate_left
          · (intro w; go_simp; try with_reducible rfl)
          refine wpAny_take (i := 10) (v := ?_) rfl (by kernel_rfl) (by kernel_rfl) (by kernel_rfl) (fun _ _ _ h => h) (Or.inl ⟨by rfl, ?_⟩) ?_
          rotate_left
          · (intro w; go_simp; try with_reducible rfl)
          refine wpAny_ready (rs := [11]) (by kernel_rfl) (by simp) ?_
          refine AllReady.cons (i := 11) rfl (fun K hK => ?_) AllReady.nil
          go_simp
          refine hK _ _ ?_
          clear hK K
          refine wpAny_done (by kernel_rfl) ?_ _
          go_wp2_with fail
          go_ret
          exact ⟨_, rfl, HO.out _⟩
        exact AllReady.nil
      exact AllReady.nil
    refine AllReady.cons (i := 6) rfl (fun K hK => ?_) ?_
    · go_simp
      (rw [← put_drew]; ((with_reducible refine (own_is _ _ _ _ _).mono ?_)); rintro _ _ ⟨rfl, u2, rfl⟩; rw [Fut.put_self u2 (by first | assumption | (simp [go_sem]; done) | (simp [go_sem]; omega))]; obtain ⟨v', W2, hrun, hgrow, hobj⟩ := HA2.out (put (u2.val.alloc (.cells (pk a b c d) 38)) g (.cells #[.int .i64 most, .slice ao n cc] 90)) (below_put_alloc (below_put_fut (below_put_drew (below_put_fut (below_put_alloc (Below.refl _ _) (by first | assumption | (simp [go_sem]; done) | (simp [go_sem]; omega)) (Nat.le_refl _)) (by first | assumption | (simp [go_sem]; done) | (simp [go_sem]; omega)) u)) (by first | assumption | (simp [go_sem]; done) | (simp [go_sem]; omega)) u2) (by first | assumption | (simp [go_sem]; done) | (simp [go_sem]; omega)) (by first | assumption | (simp [go_sem]; done) | (simp [go_sem]; omega))) u2.val.heap.size (by repeat' (first | rfl | assumption | (with_reducible refine (heap_drew_eq _ _).trans ?_) | (refine (Fut.heap _ _ ?_).trans ?_ ; focus (first | assumption | omega | (simp [go_sem]; done) | (simp [go_sem]; omega))) | (refine (heap_put_at _ _ _ ?_).trans ?_ ; focus (first | assumption | omega | (simp [go_sem]; done) | (simp [go_sem]; omega))) | (refine (heap_put_other _ _ _ _ ?_).trans ?_ ; focus (first | assumption | omega | (simp [go_sem]; done) | (simp [go_sem]; omega))) | (refine (heap_alloc_other _ _ _ ?_).trans ?_ ; focus (first | assumption | omega | (simp [go_sem]; done) | (simp [go_sem]; omega))) | (refine (heap_alloc_at _ _ _ ?_).trans ?_ ; focus (first | assumption | omega | (simp [go_sem]; done) | (simp [go_sem]; omega))) | (simp [go_sem]; done) | (simp [go_sem]; omega))); obtain ⟨ao', cc', rfl⟩ := owns_slice (hobj (.cells #[.int .i64 most, .slice ao n cc] 90)).owns; rw [show u2.val.heap.size = W.heap.size + 1 + u.n + u2.n from (by rw [Fut.size u2, size_put]; show u.val.heap.size + _ = _; rw [Fut.size u, size_put, World.size_alloc])] at hrun; have HG := hid hgrow; clear hgrow; have HO := hid hobj; clear hobj; have hg2 : g < W2.heap.size := by have := (HO.out (.cells #[.int .i64 most, .slice ao n cc] 90)).lt; rw [size_put] at this; exact this)
      try go_simp
      refine hK _ _ ?_
      clear hK K
      refine wpAny_ready (rs := [4, 7]) (by kernel_rfl) (by simp) ?_
      refine AllReady.cons (i := 4) rfl (fun K hK => ?_) ?_
      · go_simp
        refine hK _ _ ?_
        clear hK K
        refine wpAny_ready (rs := [7]) (by kernel_rfl) (by simp) ?_
        refine AllReady.cons (i := 7) rfl (fun K hK => ?_) ?_
        · go_simp
          refine hK _ _ ?_
          clear hK K
          refine wpAny_ready (rs := [8]) (by kernel_rfl) (by simp) ?_
          refine AllReady.cons (i := 8) rfl (fun K hK => ?_) AllReady.nil
          refine step_append_run (by rfl) _ _ _ (by rfl) _ _ (by rfl) (by rfl) _ _ hrun ?_
          try go_simp
          refine hK _ _ ?_
          clear hK K
          refine wpAny_take (i := 9) (v := ?_) rfl (by kernel_rfl) (by kernel_rfl) (by kernel_rfl) (fun _ _ _ h => h) (Or.inl ⟨by rfl, ?_⟩) ?_
          rotate_left
          · (intro w; go_simp; try with_reducible rfl)
          refine wpAny_take (i := 10) (v := ?_) rfl (by kernel_rfl) (by kernel_rfl) (by kernel_rfl) (fun _ _ _ h => h) (Or.inl ⟨by rfl, ?_⟩) ?_
          rotate_left
          · (intro w; go_simp; try with_reducible rfl)
          refine wpAny_ready (rs := [11]) (by kernel_rfl) (by simp) ?_
          refine AllReady.cons (i := 11) rfl (fun K hK => ?_) AllReady.nil
          go_simp
          refine hK _ _ ?_
          clear hK K
          refine wpAny_done (by kernel_rfl) ?_ _
          go_wp2_with fail
          go_ret
          exact ⟨_, rfl, HO.out _⟩
        exact AllReady.nil
      refine AllReady.cons (i := 7) rfl (fun K hK => ?_) ?_
      · go_simp
        refine hK _ _ ?_
        clear hK K
        refine wpAny_ready (rs := [4]) (by kernel_rfl) (by simp) ?_
        refine AllReady.cons (i := 4) rfl (fun K hK => ?_) ?_
        · go_simp
          refine hK _ _ ?_
          clear hK K
          refine wpAny_ready (rs := [8]) (by kernel_rfl) (by simp) ?_
          refine AllReady.cons (i := 8) rfl (fun K hK => ?_) AllReady.nil
          refine step_append_run (by rfl) _ _ _ (by rfl) _ _ (by rfl) (by rfl) _ _ hrun ?_
          try go_simp
          refine hK _ _ ?_
          clear hK K
          refine wpAny_take (i := 9) (v := ?_) rfl (by kernel_rfl) (by kernel_rfl) (by kernel_rfl) (fun _ _ _ h => h) (Or.inl ⟨by rfl, ?_⟩) ?_
          rotate_left
          · (intro w; go_simp; try with_reducible rfl)
          refine wpAny_take (i := 10) (v := ?_) rfl (by kernel_rfl) (by kernel_rfl) (by kernel_rfl) (fun _ _ _ h => h) (Or.inl ⟨by rfl, ?_⟩) ?_
          rotate_left
          · (intro w; go_simp; try with_reducible rfl)
          refine wpAny_ready (rs := [11]) (by kernel_rfl) (by simp) ?_
          refine AllReady.cons (i := 11) rfl (fun K hK => ?_) AllReady.nil
          go_simp
          refine hK _ _ ?_
          clear hK K
          refine wpAny_done (by kernel_rfl) ?_ _
          go_wp2_with fail
          go_ret
          exact ⟨_, rfl, HO.out _⟩
        exact AllReady.nil
      exact AllReady.nil
    exact AllReady.nil
  exact AllReady.nil
end Go.Proofs.Ythgajbfgolcpkaa
