import Derived.Test.YthgajbfgolcpkaaScan2
import Derived.Test.YthgajbfgolcpkaaKey
import Derived.BigRegion
/- Contracts of package scan: part. -/
namespace Go.Proofs.Ythgajbfgolcpkaa
open Go.RowKit
theorem less_is (a b : ByteArray) (ha : a.size ≤ maxLen) (hb : b.size ≤ maxLen) (r : Bool) (hr : Op.bytesLess a.data.toList b.data.toList = r) (w : World) :
    Calls Try.prog 66 #[.string a, .string b] w (Makes (.bool r) w) := by subst hr; exact less_any a b ha hb w
set_option maxRecDepth 100000 in
set_option maxHeartbeats 4000000 in
theorem part_full (s : Sc) (w0 : Base) (g n : Nat) (xs : List Value) (W : World) (v : Value) (h : ScanAt s w0 g n xs W v) (te : Int) (tv : ByteArray) (sv : Value) (tmore : Bool) (tnext : ByteArray) (tnode : Int)
    (m : Nat) (news : List Value) (hs : Src W 2 sv m news) (hn : n ≤ 100) (hm : m ≤ 100) (hful : s.most ≤ n + m) :
    Calls Try.prog 52 #[.pointer (some ⟨g, 0, none⟩), .agg #[.int .i64 te, .string tv, sv, .bool tmore, .string tnext, .int .i64 tnode]] W fun en W' => ∃ v', en = .returned (.tuple #[.slice none 0 0, .bool true]) ∧ ScanAt { s with on := false, over := true, waits := 0, e := 0, more := tmore } w0 g (n + m) (xs ++ news) W' v' := by
  obtain ⟨i0, hi0, hz0, hz1, hz2⟩ := info_parts item_info
  have hg := h.lt
  have hb := h.size
  obtain ⟨T, hT⟩ : ∃ T : Obj, T = .cells #[.int .i64 te, .string tv, sv, .bool tmore, .string tnext, .int .i64 tnode] 31 := ⟨_, rfl⟩
  have h2 := h.on (((Below.refl _ W).alloc (Nat.le_refl _) T).drew)
  have hs2 := hs.heap (((Below.refl _ W).alloc (Nat.le_refl _) T).drew)
  obtain ⟨_, W1, hrun, hgrow, hobj⟩ := append_src (P := Try.prog) h2 29 29 i0 _ 32 Try.underlying29 hi0 hz0 hz1 hz2 rfl (by omega) sv m news hs2 (by unfold maxLen; omega) (by omega)
  obtain ⟨ao, cc, rfl⟩ := owns_slice (hobj (s.obj (.slice none 0 0))).owns
  rw [← put_self h2.heap] at hrun
  rw [← put_self h.heap]
  rw [hT] at hrun hgrow
  simp only [Sc.obj] at hrun ⊢
  rw [put_drew] at hrun
  have hg1 : g < W1.heap.size := by have := hgrow.size; simp [World.drew] at this; omega
  have hT1 : ∀ i, W1.cell? ⟨W.heap.size, i, none⟩ = (#[.int .i64 te, .string tv, sv, .bool tmore, .string tnext, .int .i64 tnode] : Array Value)[i]? := by
    intro i
    rw [World.cell?_of_block (hgrow.block W.heap.size (by simp [World.drew]) (fun e => by have := (h.owns.lt _ e.symm).2; omega))]
    exact cell_of_row _ _ i _ _ (0, 0) (heap_alloc_at _ _ _ rfl)
  have hw1 : W.heap.size < W1.heap.size := by have := hgrow.size; simp [World.drew] at this; omega
  have hne : ((⟨W.heap.size, 0, none⟩ : Addr) = ⟨g, 0, none⟩) = False := by simp only [Addr.mk.injEq, eq_iff_iff, iff_false]; omega
  go_enter Try.func52, Try.ntmps52
  go_wp2_with (first | ((with_reducible refine wp_loop_rounds 1 ?_)) | ((with_reducible refine rounds_step ?_)) | ((go_step3)) | (((with_reducible refine wp_region_fut_lit (by kernel_rfl) (by kernel_rfl) ?_)); (repeat (go_big_quiet_step ((first | fail)))); ((with_reducible refine wpQuiet_nil ?_)); rintro _ ⟨u, rfl⟩; (try (rw [Fut.put_self u (by first | assumption | (simp [go_sem]; done) | (simp [go_sem]; omega))]))))
  go_region_law (refine step_append_run (by rfl) _ _ _ (by rfl) _ _ (by rfl) (by rfl) _ _ hrun ?_)
  all_goals go_wp2_with (first | ((with_reducible refine wp_loop_rounds 1 ?_)) | ((with_reducible refine rounds_step ?_)) | ((go_step3)) | (go_at_call 53; ((with_reducible refine (ends_ok { s with more := tmore } w0 g (n + m) (xs ++ news) _ (.slice ao (n + m) cc) (by repeat' (first | exact hobj _ | with_reducible refine ObjAt.fut_put ?_ _ | with_reducible refine ObjAt.drew_put ?_))).mono ?_)); rintro _ _ ⟨rfl, ho⟩) | (((with_reducible refine wp_region_fut_lit (by kernel_rfl) (by kernel_rfl) ?_)); (repeat (go_big_quiet_step ((first | fail)))); ((with_reducible refine wpQuiet_nil ?_)); rintro _ ⟨u, rfl⟩; (try (rw [Fut.put_self u (by first | assumption | (simp [go_sem]; done) | (simp [go_sem]; omega))]))))
  all_goals (try (rw [Exit.noGoto_ret])); go_ret2; exact ⟨_, rfl, ho⟩
set_option maxRecDepth 100000 in
set_option maxHeartbeats 4000000 in
theorem part_last (s : Sc) (w0 : Base) (g n : Nat) (xs : List Value) (W : World) (v : Value) (h : ScanAt s w0 g n xs W v) (te : Int) (tv : ByteArray) (sv : Value) (tnext : ByteArray) (tnode : Int)
    (m : Nat) (news : List Value) (hs : Src W 2 sv m news) (hn : n ≤ 100) (hm : m ≤ 100) (hful : n + m < s.most) :
    Calls Try.prog 52 #[.pointer (some ⟨g, 0, none⟩), .agg #[.int .i64 te, .string tv, sv, .bool false, .string tnext, .int .i64 tnode]] W fun en W' => ∃ v', en = .returned (.tuple #[.slice none 0 0, .bool true]) ∧ ScanAt { s with on := false, over := true, waits := 0, e := 0 } w0 g (n + m) (xs ++ news) W' v' := by
  obtain ⟨i0, hi0, hz0, hz1, hz2⟩ := info_parts item_info
  have hg := h.lt
  have hb := h.size
  obtain ⟨T, hT⟩ : ∃ T : Obj, T = .cells #[.int .i64 te, .string tv, sv, .bool false, .string tnext, .int .i64 tnode] 31 := ⟨_, rfl⟩
  have h2 := h.on (((Below.refl _ W).alloc (Nat.le_refl _) T).drew)
  have hs2 := hs.heap (((Below.refl _ W).alloc (Nat.le_refl _) T).drew)
  obtain ⟨_, W1, hrun, hgrow, hobj⟩ := append_src (P := Try.prog) h2 29 29 i0 _ 32 Try.underlying29 hi0 hz0 hz1 hz2 rfl (by omega) sv m news hs2 (by unfold maxLen; omega) (by omega)
  obtain ⟨ao, cc, rfl⟩ := owns_slice (hobj (s.obj (.slice none 0 0))).owns
  rw [← put_self h2.heap] at hrun
  rw [← put_self h.heap]
  rw [hT] at hrun hgrow
  simp only [Sc.obj] at hrun ⊢
  rw [put_drew] at hrun
  have hg1 : g < W1.heap.size := by have := hgrow.size; simp [World.drew] at this; omega
  have hT1 : ∀ i, W1.cell? ⟨W.heap.size, i, none⟩ = (#[.int .i64 te, .string tv, sv, .bool false, .string tnext, .int .i64 tnode] : Array Value)[i]? := by
    intro i
    rw [World.cell?_of_block (hgrow.block W.heap.size (by simp [World.drew]) (fun e => by have := (h.owns.lt _ e.symm).2; omega))]
    exact cell_of_row _ _ i _ _ (0, 0) (heap_alloc_at _ _ _ rfl)
  have hw1 : W.heap.size < W1.heap.size := by have := hgrow.size; simp [World.drew] at this; omega
  have hne : ((⟨W.heap.size, 0, none⟩ : Addr) = ⟨g, 0, none⟩) = False := by simp only [Addr.mk.injEq, eq_iff_iff, iff_false]; omega
  go_enter Try.func52, Try.ntmps52
  go_wp2_with (first | ((with_reducible refine wp_loop_rounds 1 ?_)) | ((with_reducible refine rounds_step ?_)) | ((go_step3)) | (((with_reducible refine wp_region_fut_lit (by kernel_rfl) (by kernel_rfl) ?_)); (repeat (go_big_quiet_step ((first | fail)))); ((with_reducible refine wpQuiet_nil ?_)); rintro _ ⟨u, rfl⟩; (try (rw [Fut.put_self u (by first | assumption | (simp [go_sem]; done) | (simp [go_sem]; omega))]))))
  go_region_law (refine step_append_run (by rfl) _ _ _ (by rfl) _ _ (by rfl) (by rfl) _ _ hrun ?_)
  all_goals go_wp2_with (first | ((with_reducible refine wp_loop_rounds 1 ?_)) | ((with_reducible refine rounds_step ?_)) | ((go_step3)) | (go_at_call 53; ((with_reducible refine (ends_ok s w0 g (n + m) (xs ++ news) _ (.slice ao (n + m) cc) (by repeat' (first | exact hobj _ | with_reducible refine ObjAt.fut_put ?_ _ | with_reducible refine ObjAt.drew_put ?_))).mono ?_)); rintro _ _ ⟨rfl, ho⟩) | (((with_reducible refine wp_region_fut_lit (by kernel_rfl) (by kernel_rfl) ?_)); (repeat (go_big_quiet_step ((first | fail)))); ((with_reducible refine wpQuiet_nil ?_)); rintro _ ⟨u, rfl⟩; (try (rw [Fut.put_self u (by first | assumption | (simp [go_sem]; done) | (simp [go_sem]; omega))]))))
  all_goals (try (rw [Exit.noGoto_ret])); go_ret2; exact ⟨_, rfl, ho⟩
set_option maxRecDepth 100000 in
set_option maxHeartbeats 4000000 in
theorem part_more (s : Sc) (w0 : Base) (g n : Nat) (xs : List Value) (W : World) (v : Value) (h : ScanAt s w0 g n xs W v) (te : Int) (tv : ByteArray) (sv : Value) (tnext : ByteArray) (tnode : Int)
    (m : Nat) (news : List Value) (hs : Src W 2 sv m news) (hn : n ≤ 100) (hm : m ≤ 100) (hful : n + m < s.most) (hful2 : s.most ≤ 100) (hless : Op.bytesLess s.key.data.toList tnext.data.toList = true) (hk1 : s.key.size ≤ maxLen) (hk2 : tnext.size ≤ maxLen) (h0 : 0 ≤ s.id) (h1 : s.id < 1000000) :
    Calls Try.prog 52 #[.pointer (some ⟨g, 0, none⟩), .agg #[.int .i64 te, .string tv, sv, .bool true, .string tnext, .int .i64 tnode]] W fun en W' => ∃ v' L, en = .returned (.tuple #[.slice (some ⟨L, 0, none⟩) 1 1, .bool false]) ∧ Letter { s with key := tnext, am := s.most - (n + m), tried := 1, old := 0, id := s.id + 1 } w0 L W' ∧ ScanAt { s with key := tnext, am := s.most - (n + m), tried := 1, old := 0, id := s.id + 1 } w0 g (n + m) (xs ++ news) W' v' := by
  obtain ⟨i0, hi0, hz0, hz1, hz2⟩ := info_parts item_info
  have hg := h.lt
  have hb := h.size
  obtain ⟨T, hT⟩ : ∃ T : Obj, T = .cells #[.int .i64 te, .string tv, sv, .bool true, .string tnext, .int .i64 tnode] 31 := ⟨_, rfl⟩
  have h2 := h.on (((Below.refl _ W).alloc (Nat.le_refl _) T).drew)
  have hs2 := hs.heap (((Below.refl _ W).alloc (Nat.le_refl _) T).drew)
  obtain ⟨_, W1, hrun, hgrow, hobj⟩ := append_src (P := Try.prog) h2 29 29 i0 _ 32 Try.underlying29 hi0 hz0 hz1 hz2 rfl (by omega) sv m news hs2 (by unfold maxLen; omega) (by omega)
  obtain ⟨ao, cc, rfl⟩ := owns_slice (hobj (s.obj (.slice none 0 0))).owns
  rw [← put_self h2.heap] at hrun
  rw [← put_self h.heap]
  rw [hT] at hrun hgrow
  simp only [Sc.obj] at hrun ⊢
  rw [put_drew] at hrun
  have hg1 : g < W1.heap.size := by have := hgrow.size; simp [World.drew] at this; omega
  have hT1 : ∀ i, W1.cell? ⟨W.heap.size, i, none⟩ = (#[.int .i64 te, .string tv, sv, .bool true, .string tnext, .int .i64 tnode] : Array Value)[i]? := by
    intro i
    rw [World.cell?_of_block (hgrow.block W.heap.size (by simp [World.drew]) (fun e => by have := (h.owns.lt _ e.symm).2; omega))]
    exact cell_of_row _ _ i _ _ (0, 0) (heap_alloc_at _ _ _ rfl)
  have hw1 : W.heap.size < W1.heap.size := by have := hgrow.size; simp [World.drew] at this; omega
  have hne : ((⟨W.heap.size, 0, none⟩ : Addr) = ⟨g, 0, none⟩) = False := by simp only [Addr.mk.injEq, eq_iff_iff, iff_false]; omega
  go_enter Try.func52, Try.ntmps52
  go_wp2_with (first | ((with_reducible refine wp_loop_rounds 1 ?_)) | ((with_reducible refine rounds_step ?_)) | ((go_step3)) | (((with_reducible refine wp_region_fut_lit (by kernel_rfl) (by kernel_rfl) ?_)); (repeat (go_big_quiet_step ((first | fail)))); ((with_reducible refine wpQuiet_nil ?_)); rintro _ ⟨u, rfl⟩; (try (rw [Fut.put_self u (by first | assumption | (simp [go_sem]; done) | (simp [go_sem]; omega))]))))
  go_region_law (refine step_append_run (by rfl) _ _ _ (by rfl) _ _ (by rfl) (by rfl) _ _ hrun ?_)
  all_goals go_wp2_with (first | ((with_reducible refine wp_loop_rounds 1 ?_)) | ((with_reducible refine rounds_step ?_)) | ((go_step3)) | (go_at_call 66; ((with_reducible refine (less_is _ _ hk1 hk2 _ hless _).mono ?_)); rintro _ _ ⟨rfl, u, rfl⟩; (try (rw [Fut.put_self u (by first | assumption | (simp [go_sem]; done) | (simp [go_sem]; omega))]))) | (((with_reducible refine wp_region_fut_lit (by kernel_rfl) (by kernel_rfl) ?_)); (repeat (go_big_quiet_step ((first | (go_at_call 66; with_reducible exact Calls.fut_of (less_is _ _ hk1 hk2 _ hless _)))))); ((with_reducible refine wpQuiet_nil ?_)); rintro _ ⟨u, rfl⟩; (try (rw [Fut.put_self u (by first | assumption | (simp [go_sem]; done) | (simp [go_sem]; omega))]))))
  all_goals go_region
  all_goals go_wp2_with (first | ((with_reducible refine wp_loop_rounds 1 ?_)) | ((with_reducible refine rounds_step ?_)) | ((go_step3)) | (go_at_call 51; ((with_reducible refine (ask_is { s with key := tnext, am := s.most - (n + m), tried := 1, old := 0 } w0 g (n + m) (xs ++ news) _ (.slice ao (n + m) cc) (by repeat' (first | exact hobj _ | with_reducible refine ObjAt.fut_put ?_ _ | with_reducible refine ObjAt.drew_put ?_)) h0 h1).mono ?_)); rintro _ _ ⟨L, rfl, hL, ho⟩) | (((with_reducible refine wp_region_fut_lit (by kernel_rfl) (by kernel_rfl) ?_)); (repeat (go_big_quiet_step ((first | fail)))); ((with_reducible refine wpQuiet_nil ?_)); rintro _ ⟨u, rfl⟩; (try (rw [Fut.put_self u (by first | assumption | (simp [go_sem]; done) | (simp [go_sem]; omega))]))))
  all_goals (try (rw [Exit.noGoto_ret])); go_ret2; exact ⟨_, _, rfl, hL, ho⟩
end Go.Proofs.Ythgajbfgolcpkaa
