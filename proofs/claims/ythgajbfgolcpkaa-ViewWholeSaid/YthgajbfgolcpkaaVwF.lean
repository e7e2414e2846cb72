import Derived.Test.YthgajbfgolcpkaaVwB
import Derived.BigRegion
import Derived.BigQuiet
import Derived.IntWalk
/- Two numbers, sorted, and without what comes twice (slices.Sort, slices.Compact at []int). -/
namespace Go.Proofs.Ythgajbfgolcpkaa
open Go.RowKit
set_option linter.unusedVariables false
set_option linter.unusedSimpArgs false
theorem isnan_int (x : Int) (W : World) : Calls Try.prog 93 #[.int .i64 x] W (Makes (.bool false) W) := by
  go_enter Try.func93, Try.ntmps93
  go_wp2_with (first | (((with_reducible refine wp_region_fut_lit (by kernel_rfl) (by kernel_rfl) ?_)); (repeat (go_big_quiet_step ((first | fail)))); ((with_reducible refine wpQuiet_nil ?_)); rintro _ ⟨u, rfl⟩; (try (rw [Fut.put_self u (by first | assumption | (simp [go_sem]; done) | (simp [go_sem]; omega))]))))
  go_ret; exact .mk (by first | rfl | (simp; done) | (simp; omega)) (by repeat' (first | exact Below.refl _ _ | with_reducible assumption | omega | with_reducible refine below_put_fut ?_ ?_ _ | with_reducible refine below_to_put ?_ | with_reducible refine Below.alloc ?_ ?_ _ | with_reducible refine Below.fut ?_ ?_ _ | with_reducible refine Below.drew ?_ | with_reducible refine Below.setCell ?_ ?_ _ | with_reducible refine Below.atPut ?_ ?_ _ | (simp [go_sem]; done) | (simp [go_sem]; omega)))
theorem less_int (x y : Int) (r : Bool) (hr : decide (x < y) = r) (W : World) : Calls Try.prog 82 #[.int .i64 x, .int .i64 y] W (Makes (.bool r) W) := by
  subst hr
  go_enter Try.func82, Try.ntmps82
  go_wp2_with (first | (go_at_call 93; ((with_reducible refine (isnan_int _ _).mono ?_)); rintro _ _ ⟨rfl, u, rfl⟩; (try (rw [Fut.put_self u (by first | assumption | (simp [go_sem]; done) | (simp [go_sem]; omega))]))) | (((with_reducible refine wp_region_fut_lit (by kernel_rfl) (by kernel_rfl) ?_)); (repeat (go_big_quiet_step ((first | (go_at_call 93; with_reducible exact Calls.fut_of (isnan_int _ _)))))); ((with_reducible refine wpQuiet_nil ?_)); rintro _ ⟨u, rfl⟩; (try (rw [Fut.put_self u (by first | assumption | (simp [go_sem]; done) | (simp [go_sem]; omega))]))))
  go_ret; exact .mk (by first | rfl | (simp; done) | (simp; omega)) (by repeat' (first | exact Below.refl _ _ | with_reducible assumption | omega | with_reducible refine below_put_fut ?_ ?_ _ | with_reducible refine below_to_put ?_ | with_reducible refine Below.alloc ?_ ?_ _ | with_reducible refine Below.fut ?_ ?_ _ | with_reducible refine Below.drew ?_ | with_reducible refine Below.setCell ?_ ?_ _ | with_reducible refine Below.atPut ?_ ?_ _ | (simp [go_sem]; done) | (simp [go_sem]; omega)))
set_option maxRecDepth 100000 in
theorem len64_is (W : World) : Calls Try.prog 86 #[.int .u64 2] W fun e W' => (∃ v : Int, e = .returned (.int .i64 v)) ∧ ∃ u : Fut W, W' = u.val := by
  go_enter Try.func86, Try.ntmps86
  go_upto_region 10 with fail
  refine wp_region_lit ?_
  refine Go.Great.wpList_runTo rfl (some 19) rfl (.int .i64 0) W (by simp [execOp, Act.eval, go_sem]) ?_
  simp only [Act.put, List.setIfInBounds_toArray, List.set_cons_succ, List.set_cons_zero]
  refine Go.Great.wpList_runTo rfl (some 20) rfl (.int .u64 2) W (by simp [execOp, Act.eval, go_sem]) ?_
  simp only [Act.put, List.setIfInBounds_toArray, List.set_cons_succ, List.set_cons_zero]
  refine Go.Great.wpList_runTo rfl (some 21) rfl (.int .u8 2) W (by kernel_rfl) ?_
  simp only [Act.put, List.setIfInBounds_toArray, List.set_cons_succ, List.set_cons_zero]
  refine Go.Great.wpList_runTo rfl (some 22) rfl (.int .u8 2) W (by kernel_rfl) ?_
  simp only [Act.put, List.setIfInBounds_toArray, List.set_cons_succ, List.set_cons_zero]
  refine Go.Great.wpList_runTo rfl (some 23) rfl (.int .i64 2) W (by kernel_rfl) ?_
  simp only [Act.put, List.setIfInBounds_toArray, List.set_cons_succ, List.set_cons_zero]
  refine Go.Great.wpList_runTo rfl (some 24) rfl (.int .i64 2) W (by kernel_rfl) ?_
  simp only [Act.put, List.setIfInBounds_toArray, List.set_cons_succ, List.set_cons_zero]
  go_wp2_with fail
  go_ret
  exact ⟨⟨_, rfl⟩, ⟨⟨_, (by repeat' (first | exact Below.refl _ _ | with_reducible assumption | omega | with_reducible refine below_put_fut ?_ ?_ _ | with_reducible refine below_to_put ?_ | with_reducible refine Below.alloc ?_ ?_ _ | with_reducible refine Below.fut ?_ ?_ _ | with_reducible refine Below.drew ?_ | with_reducible refine Below.setCell ?_ ?_ _ | with_reducible refine Below.atPut ?_ ?_ _ | (simp [go_sem]; done) | (simp [go_sem]; omega)))⟩, rfl⟩⟩
set_option maxRecDepth 100000 in
set_option maxHeartbeats 400000 in
theorem len_bits (W : World) : Calls Try.prog 73 #[.int .u64 2] W fun e W' => (∃ v : Int, e = .returned (.int .i64 v)) ∧ ∃ u : Fut W, W' = u.val := by
  go_enter Try.func73, Try.ntmps73
  go_wp2_with fail
  refine (len64_is _).mono ?_
  rintro _ _ ⟨⟨v, rfl⟩, u, rfl⟩
  go_wp2_with fail
  go_ret
  exact ⟨⟨_, rfl⟩, u, rfl⟩
/-- A row that begins with two numbers. -/
def Two (W : World) (r : Nat) (x y : Int) : Prop := ∃ cs, W.heap[r]? = some (.cells cs 3) ∧ cs[0]? = some (.int .i64 x) ∧ cs[1]? = some (.int .i64 y)
theorem Two.cells {W : World} {r : Nat} {x y : Int} (h : Two W r x y) : W.cell? ⟨r, 0, none⟩ = some (.int .i64 x) ∧ W.cell? ⟨r, 1, none⟩ = some (.int .i64 y) := by
  obtain ⟨cs, h1, h2, h3⟩ := h
  exact ⟨(cell_of_row W r 0 _ _ _ h1).trans h2, (cell_of_row W r 1 _ _ _ h1).trans h3⟩
set_option maxRecDepth 100000 in
set_option maxHeartbeats 4000000 in
theorem ins2_keep (W : World) (r c : Nat) (x y : Int) (h : Two W r x y) (hxy : x < y) : Calls Try.prog 76 #[.slice (some ⟨r, 0, none⟩) 2 c, .int .i64 0, .int .i64 2] W fun e W' => (∃ v, e = .returned v) ∧ ∃ u : Fut W, W' = u.val := by
  obtain ⟨c0, c1⟩ := h.cells
  have hl := World.block_lt_of_cell? _ _ c0
  have hd : decide (y < x) = false := by simp; omega
  clear h
  go_enter Try.func76, Try.ntmps76
  go_wp2_with (first | ((with_reducible refine wp_loop_rounds 2 ?_)) | ((with_reducible refine rounds_step ?_)) | ((go_step3)) | (go_at_call 82; ((with_reducible refine (less_int _ _ false hd _).mono ?_)); rintro _ _ ⟨rfl, u, rfl⟩; (try (rw [Fut.put_self u (by first | assumption | (simp [go_sem]; done) | (simp [go_sem]; omega))]))) | (((with_reducible refine wp_region_fut_lit (by kernel_rfl) (by kernel_rfl) ?_)); (repeat (go_big_quiet_step ((first | (go_at_call 82; with_reducible exact Calls.fut_of (less_int _ _ false hd _)))))); ((with_reducible refine wpQuiet_nil ?_)); rintro _ ⟨u, rfl⟩; (try (rw [Fut.put_self u (by first | assumption | (simp [go_sem]; done) | (simp [go_sem]; omega))]))))
  go_end0
  exact ⟨⟨_, rfl⟩, ⟨⟨_, (by repeat' (first | exact Below.refl _ _ | with_reducible assumption | omega | with_reducible refine below_put_fut ?_ ?_ _ | with_reducible refine below_to_put ?_ | with_reducible refine Below.alloc ?_ ?_ _ | with_reducible refine Below.fut ?_ ?_ _ | with_reducible refine Below.drew ?_ | with_reducible refine Below.setCell ?_ ?_ _ | with_reducible refine Below.atPut ?_ ?_ _ | (simp [go_sem]; done) | (simp [go_sem]; omega)))⟩, rfl⟩⟩
theorem Two.on {W W' : World} {r : Nat} {x y : Int} (h : Two W r x y) (hb : Below W.heap.size W W') : Two W' r x y := by
  obtain ⟨cs, h1, h2, h3⟩ := h
  exact ⟨cs, (hb.block r (lt_of_heap h1)).trans h1, h2, h3⟩
theorem two_swap {W W1 : World} {r : Nat} {x y : Int} (h : Two W r x y) (hb : Below W.heap.size W W1) : Two ((W1.setCell ⟨r, 1, none⟩ (.int .i64 x)).setCell ⟨r, 0, none⟩ (.int .i64 y)) r y x ∧ Chg (fun k => k = r) W ((W1.setCell ⟨r, 1, none⟩ (.int .i64 x)).setCell ⟨r, 0, none⟩ (.int .i64 y)) := by
  obtain ⟨cs, h1, h2, h3⟩ := h.on hb
  have hrl := lt_of_heap h1
  have l1 := (Array.getElem?_eq_some_iff.1 h3).1
  rw [setCell_row h1, setCell_row (heap_put_at _ _ _ hrl), put_put]
  refine ⟨⟨_, heap_put_at _ _ _ hrl, ?_, ?_⟩, ((Chg.of_below (S := fun k => k = r) hb).put (fun _ => rfl) _)⟩
  · rw [Array.getElem?_setIfInBounds, if_pos rfl, if_pos (by simp; omega)]
  · rw [Array.getElem?_setIfInBounds, if_neg (by omega), Array.getElem?_setIfInBounds, if_pos rfl, if_pos (by omega)]
set_option maxRecDepth 100000 in
set_option maxHeartbeats 4000000 in
theorem ins2_swap (W : World) (r c : Nat) (x y : Int) (h : Two W r x y) (hxy : y < x) : Calls Try.prog 76 #[.slice (some ⟨r, 0, none⟩) 2 c, .int .i64 0, .int .i64 2] W fun e W' => (∃ v, e = .returned v) ∧ Two W' r y x ∧ Chg (fun k => k = r) W W' := by
  obtain ⟨c0, c1⟩ := h.cells
  have hl := World.block_lt_of_cell? _ _ c0
  have H := hid h
  obtain ⟨cs, hcs, _, _⟩ := h
  have hfr := fun i => frozen_of hcs i
  have hd : decide (y < x) = true := by simp; omega
  clear hcs
  go_enter Try.func76, Try.ntmps76
  go_wp2_with (first | ((with_reducible refine wp_loop_rounds 2 ?_)) | ((with_reducible refine rounds_step ?_)) | ((go_step3)) | (go_at_call 82; ((with_reducible refine (less_int _ _ true hd _).mono ?_)); rintro _ _ ⟨rfl, u, rfl⟩; (try (rw [Fut.put_self u (by first | assumption | (simp [go_sem]; done) | (simp [go_sem]; omega))]))) | (((with_reducible refine wp_region_fut_lit (by kernel_rfl) (by kernel_rfl) ?_)); (repeat (go_big_quiet_step ((first | (go_at_call 82; with_reducible exact Calls.fut_of (less_int _ _ true hd _)))))); ((with_reducible refine wpQuiet_nil ?_)); rintro _ ⟨u, rfl⟩; (try (rw [Fut.put_self u (by first | assumption | (simp [go_sem]; done) | (simp [go_sem]; omega))]))))
  have hu1 := hid u.below
  go_region
  all_goals go_wp2_with (first | ((with_reducible refine wp_loop_rounds 2 ?_)) | ((with_reducible refine rounds_step ?_)) | ((go_step3)) | (go_at_call 82; ((with_reducible refine (less_int _ _ true hd _).mono ?_)); rintro _ _ ⟨rfl, u, rfl⟩; (try (rw [Fut.put_self u (by first | assumption | (simp [go_sem]; done) | (simp [go_sem]; omega))]))) | (((with_reducible refine wp_region_fut_lit (by kernel_rfl) (by kernel_rfl) ?_)); (repeat (go_big_quiet_step ((first | (go_at_call 82; with_reducible exact Calls.fut_of (less_int _ _ true hd _)))))); ((with_reducible refine wpQuiet_nil ?_)); rintro _ ⟨u, rfl⟩; (try (rw [Fut.put_self u (by first | assumption | (simp [go_sem]; done) | (simp [go_sem]; omega))]))))
  go_end0
  obtain ⟨s1, s2⟩ := two_swap H.out hu1.out
  exact ⟨⟨_, rfl⟩, s1.on ((Below.refl _ _).drew.trans u.below), s2.trans (T := fun k => k = r) (Chg.of_below ((Below.refl _ _).drew.trans u.below)) (fun _ _ h => h)⟩
set_option maxRecDepth 100000 in
set_option maxHeartbeats 4000000 in
theorem compact2 (W : World) (r c : Nat) (x y : Int) (h : Two W r x y) (hxy : x < y) : Calls Try.prog 65 #[.slice (some ⟨r, 0, none⟩) 2 c] W fun e W' => e = .returned (.slice (some ⟨r, 0, none⟩) 2 c) ∧ ∃ u : Fut W, W' = u.val := by
  obtain ⟨c0, c1⟩ := h.cells
  have hl := World.block_lt_of_cell? _ _ c0
  have hd : (y == x) = false := by simp; omega
  clear h
  go_enter Try.func65, Try.ntmps65
  go_wp2_with (first | ((with_reducible refine wp_loop_rounds 2 ?_)) | ((with_reducible refine rounds_step ?_)) | ((go_step3)) | (((with_reducible refine wp_region_fut_lit (by kernel_rfl) (by kernel_rfl) ?_)); (repeat (go_big_quiet_step ((first | fail)))); ((with_reducible refine wpQuiet_nil ?_)); rintro _ ⟨u, rfl⟩; (try (rw [Fut.put_self u (by first | assumption | (simp [go_sem]; done) | (simp [go_sem]; omega))]))))
  go_ret
  exact ⟨rfl, ⟨⟨_, (by repeat' (first | exact Below.refl _ _ | with_reducible assumption | omega | with_reducible refine below_put_fut ?_ ?_ _ | with_reducible refine below_to_put ?_ | with_reducible refine Below.alloc ?_ ?_ _ | with_reducible refine Below.fut ?_ ?_ _ | with_reducible refine Below.drew ?_ | with_reducible refine Below.setCell ?_ ?_ _ | with_reducible refine Below.atPut ?_ ?_ _ | (simp [go_sem]; done) | (simp [go_sem]; omega)))⟩, rfl⟩⟩
set_option maxRecDepth 100000 in
set_option maxHeartbeats 4000000 in
theorem pdq2 (W : World) (r c : Nat) (v : Int) {Q : Ending → World → Prop} (hc : ∀ W', (∃ u : Fut W, W' = u.val) → Calls Try.prog 76 #[.slice (some ⟨r, 0, none⟩) 2 c, .int .i64 0, .int .i64 2] W' fun e W2 => (∃ v, e = .returned v) ∧ ∀ v, Q (.returned v) W2) :
    Calls Try.prog 72 #[.slice (some ⟨r, 0, none⟩) 2 c, .int .i64 0, .int .i64 2, .int .i64 v] W Q := by
  have HC := hid hc
  clear hc
  go_enter Try.func72, Try.ntmps72
  go_wp2_with (first | ((with_reducible refine wp_loop_rounds 2 ?_)) | ((with_reducible refine rounds_step ?_)) | ((go_step3)) | (((with_reducible refine wp_region_fut_lit (by kernel_rfl) (by kernel_rfl) ?_)); (repeat (go_big_quiet_step ((first | fail)))); ((with_reducible refine wpQuiet_nil ?_)); rintro _ ⟨u, rfl⟩; (try (rw [Fut.put_self u (by first | assumption | (simp [go_sem]; done) | (simp [go_sem]; omega))]))))
  refine (HC.out _ ⟨⟨_, Below.refl _ _⟩, rfl⟩).mono ?_
  rintro _ W2 ⟨⟨v2, rfl⟩, hq⟩
  have HQ := hid hq
  clear hq
  go_wp2_with (first | ((with_reducible refine wp_loop_rounds 2 ?_)) | ((with_reducible refine rounds_step ?_)) | ((go_step3)) | (((with_reducible refine wp_region_fut_lit (by kernel_rfl) (by kernel_rfl) ?_)); (repeat (go_big_quiet_step ((first | fail)))); ((with_reducible refine wpQuiet_nil ?_)); rintro _ ⟨u, rfl⟩; (try (rw [Fut.put_self u (by first | assumption | (simp [go_sem]; done) | (simp [go_sem]; omega))]))))
  exact bodyPost_ret (results_none rfl _ _ _) rfl (HQ.out _)
set_option maxRecDepth 100000 in
set_option maxHeartbeats 1000000 in
/-- slices.Sort of two numbers that are not the same. -/
theorem sort2 (W : World) (r c : Nat) (x y a b : Int) (h : Two W r a b) (hab : (a = x ∧ b = y) ∨ (a = y ∧ b = x)) (hxy : x < y) :
    Calls Try.prog 64 #[.slice (some ⟨r, 0, none⟩) 2 c] W fun e W' => (∃ v, e = .returned v) ∧ Two W' r x y ∧ Chg (fun k => k = r) W W' := by
  have hins : ∀ W1, (∃ u : Fut W, W1 = u.val) → Calls Try.prog 76 #[.slice (some ⟨r, 0, none⟩) 2 c, .int .i64 0, .int .i64 2] W1 fun e W2 => (∃ v, e = .returned v) ∧ Two W2 r x y ∧ Chg (fun k => k = r) W W2 := by
    rintro _ ⟨u, rfl⟩
    have h1 := h.on u.below
    rcases hab with ⟨rfl, rfl⟩ | ⟨rfl, rfl⟩
    · refine (ins2_keep _ r c _ _ h1 hxy).mono ?_
      rintro _ _ ⟨⟨v, rfl⟩, u2, rfl⟩
      exact ⟨⟨v, rfl⟩, h1.on u2.below, Chg.of_below (u.below.trans (u2.below.mono u.below.size))⟩
    · refine (ins2_swap _ r c _ _ h1 hxy).mono ?_
      rintro _ W2 ⟨⟨v, rfl⟩, h2, h3⟩
      exact ⟨⟨v, rfl⟩, h2, (Chg.of_below (S := fun k => k = r) u.below).trans h3 (fun _ _ h => h)⟩
  have HINS := hid hins
  clear hins h hab hxy
  go_enter Try.func64, Try.ntmps64
  go_wp2_with fail
  refine (len_bits _).mono ?_
  rintro _ _ ⟨⟨v, rfl⟩, u, rfl⟩
  go_wp2_with fail
  have hz := u.below
  refine (pdq2 _ r c v (Q := fun e W' => (∃ v, e = .returned v) ∧ Two W' r x y ∧ Chg (fun k => k = r) W W') (fun W1 hu => ?_)).mono ?_
  · obtain ⟨u2, rfl⟩ := hu
    refine (HINS.out _ ⟨⟨_, u.below.trans (u2.below.mono u.below.size)⟩, rfl⟩).mono ?_
    rintro _ W2 ⟨⟨v, rfl⟩, h2, h3⟩
    exact ⟨⟨_, rfl⟩, fun v => ⟨⟨_, rfl⟩, h2, h3⟩⟩
  · rintro _ W2 ⟨⟨v2, rfl⟩, h2, h3⟩
    have H2 := hid h2
    have H3 := hid h3
    clear h2 h3
    go_wp2_with fail
    go_end0
    exact ⟨⟨_, rfl⟩, H2.out, H3.out⟩
end Go.Proofs.Ythgajbfgolcpkaa
