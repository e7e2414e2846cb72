/- The book of lists: the kinds of which it holds none. -/
import Derived.Test.YthknenhcnpgkcaaMb
namespace Go.Proofs.Ythknenhcnpgkcaa
open Go.RowKit
set_option linter.unusedVariables false
set_option linter.unusedSimpArgs false
theorem stillTexts_is (W : World) (bk : Nat) (h : W.cell? ⟨bk, 0, none⟩ = some (.slice none 0 0)) :
    Calls Try.prog 86 #[.pointer (some ⟨bk, 0, none⟩)] W (Makes (.bool true) W) := by
  have hl := World.block_lt_of_cell? _ _ h
  go_enter Try.func86, Try.ntmps86
  go_wp2_with (first | ((with_reducible refine wp_loop_rounds 1 ?_)) | ((with_reducible refine rounds_step ?_)) | ((go_step3)) | (((with_reducible refine wp_region_fut_lit (by kernel_rfl) (by kernel_rfl) ?_)); (repeat (go_big_quiet_step ((first | fail)))); ((with_reducible refine wpQuiet_nil ?_)); rintro _ ⟨u, rfl⟩; (try (rw [Fut.put_self u (by first | assumption | (simp [go_sem]; done) | (simp [go_sem]; omega))]))))
  go_ret; exact .mk (by first | rfl | (simp; done) | (simp; omega)) (by repeat' (first | exact Below.refl _ _ | with_reducible assumption | omega | with_reducible refine below_put_fut ?_ ?_ _ | with_reducible refine below_to_put ?_ | with_reducible refine Below.alloc ?_ ?_ _ | with_reducible refine Below.fut ?_ ?_ _ | with_reducible refine Below.drew ?_ | with_reducible refine Below.setCell ?_ ?_ _ | with_reducible refine Below.atPut ?_ ?_ _ | (simp [go_sem]; done) | (simp [go_sem]; omega)))
theorem putTexts_is (W : World) (bk : Nat) (h : W.cell? ⟨bk, 0, none⟩ = some (.slice none 0 0)) :
    Calls Try.prog 95 #[.pointer (some ⟨bk, 0, none⟩)] W (Makes (.tuple #[]) W) := by
  have hl := World.block_lt_of_cell? _ _ h
  go_enter Try.func95, Try.ntmps95
  go_wp2_with (first | ((with_reducible refine wp_loop_rounds 1 ?_)) | ((with_reducible refine rounds_step ?_)) | ((go_step3)) | (((with_reducible refine wp_region_fut_lit (by kernel_rfl) (by kernel_rfl) ?_)); (repeat (go_big_quiet_step ((first | fail)))); ((with_reducible refine wpQuiet_nil ?_)); rintro _ ⟨u, rfl⟩; (try (rw [Fut.put_self u (by first | assumption | (simp [go_sem]; done) | (simp [go_sem]; omega))]))))
  go_end0
  exact .mk rfl (by repeat' (first | exact Below.refl _ _ | with_reducible assumption | omega | with_reducible refine below_put_fut ?_ ?_ _ | with_reducible refine below_to_put ?_ | with_reducible refine Below.alloc ?_ ?_ _ | with_reducible refine Below.fut ?_ ?_ _ | with_reducible refine Below.drew ?_ | with_reducible refine Below.setCell ?_ ?_ _ | with_reducible refine Below.atPut ?_ ?_ _ | (simp [go_sem]; done) | (simp [go_sem]; omega)))
theorem growTexts_is (W : World) (bk : Nat) (h : W.cell? ⟨bk, 0, none⟩ = some (.slice none 0 0)) :
    Calls Try.prog 100 #[.pointer (some ⟨bk, 0, none⟩)] W (Makes (.slice none 0 0) W) := by
  have hl := World.block_lt_of_cell? _ _ h
  go_enter Try.func100, Try.ntmps100
  go_wp2_with (first | ((with_reducible refine wp_loop_rounds 1 ?_)) | ((with_reducible refine rounds_step ?_)) | ((go_step3)) | (((with_reducible refine wp_region_fut_lit (by kernel_rfl) (by kernel_rfl) ?_)); (repeat (go_big_quiet_step ((first | fail)))); ((with_reducible refine wpQuiet_nil ?_)); rintro _ ⟨u, rfl⟩; (try (rw [Fut.put_self u (by first | assumption | (simp [go_sem]; done) | (simp [go_sem]; omega))]))))
  go_ret; exact .mk (by first | rfl | (simp; done) | (simp; omega)) (by repeat' (first | exact Below.refl _ _ | with_reducible assumption | omega | with_reducible refine below_put_fut ?_ ?_ _ | with_reducible refine below_to_put ?_ | with_reducible refine Below.alloc ?_ ?_ _ | with_reducible refine Below.fut ?_ ?_ _ | with_reducible refine Below.drew ?_ | with_reducible refine Below.setCell ?_ ?_ _ | with_reducible refine Below.atPut ?_ ?_ _ | (simp [go_sem]; done) | (simp [go_sem]; omega)))
theorem markedTexts_is (W : World) :
    Calls Try.prog 107 #[.slice none 0 0] W (Makes (.bool true) W) := by
  go_enter Try.func107, Try.ntmps107
  go_wp2_with (first | ((with_reducible refine wp_loop_rounds 1 ?_)) | ((with_reducible refine rounds_step ?_)) | ((go_step3)) | (((with_reducible refine wp_region_fut_lit (by kernel_rfl) (by kernel_rfl) ?_)); (repeat (go_big_quiet_step ((first | fail)))); ((with_reducible refine wpQuiet_nil ?_)); rintro _ ⟨u, rfl⟩; (try (rw [Fut.put_self u (by first | assumption | (simp [go_sem]; done) | (simp [go_sem]; omega))]))))
  go_ret; exact .mk (by first | rfl | (simp; done) | (simp; omega)) (by repeat' (first | exact Below.refl _ _ | with_reducible assumption | omega | with_reducible refine below_put_fut ?_ ?_ _ | with_reducible refine below_to_put ?_ | with_reducible refine Below.alloc ?_ ?_ _ | with_reducible refine Below.fut ?_ ?_ _ | with_reducible refine Below.drew ?_ | with_reducible refine Below.setCell ?_ ?_ _ | with_reducible refine Below.atPut ?_ ?_ _ | (simp [go_sem]; done) | (simp [go_sem]; omega)))
theorem stillInts_is (W : World) (bk : Nat) (h : W.cell? ⟨bk, 2, none⟩ = some (.slice none 0 0)) :
    Calls Try.prog 87 #[.pointer (some ⟨bk, 0, none⟩)] W (Makes (.bool true) W) := by
  have hl := World.block_lt_of_cell? _ _ h
  go_enter Try.func87, Try.ntmps87
  go_wp2_with (first | ((with_reducible refine wp_loop_rounds 1 ?_)) | ((with_reducible refine rounds_step ?_)) | ((go_step3)) | (((with_reducible refine wp_region_fut_lit (by kernel_rfl) (by kernel_rfl) ?_)); (repeat (go_big_quiet_step ((first | fail)))); ((with_reducible refine wpQuiet_nil ?_)); rintro _ ⟨u, rfl⟩; (try (rw [Fut.put_self u (by first | assumption | (simp [go_sem]; done) | (simp [go_sem]; omega))]))))
  go_ret; exact .mk (by first | rfl | (simp; done) | (simp; omega)) (by repeat' (first | exact Below.refl _ _ | with_reducible assumption | omega | with_reducible refine below_put_fut ?_ ?_ _ | with_reducible refine below_to_put ?_ | with_reducible refine Below.alloc ?_ ?_ _ | with_reducible refine Below.fut ?_ ?_ _ | with_reducible refine Below.drew ?_ | with_reducible refine Below.setCell ?_ ?_ _ | with_reducible refine Below.atPut ?_ ?_ _ | (simp [go_sem]; done) | (simp [go_sem]; omega)))
theorem putInts_is (W : World) (bk : Nat) (h : W.cell? ⟨bk, 2, none⟩ = some (.slice none 0 0)) :
    Calls Try.prog 96 #[.pointer (some ⟨bk, 0, none⟩)] W (Makes (.tuple #[]) W) := by
  have hl := World.block_lt_of_cell? _ _ h
  go_enter Try.func96, Try.ntmps96
  go_wp2_with (first | ((with_reducible refine wp_loop_rounds 1 ?_)) | ((with_reducible refine rounds_step ?_)) | ((go_step3)) | (((with_reducible refine wp_region_fut_lit (by kernel_rfl) (by kernel_rfl) ?_)); (repeat (go_big_quiet_step ((first | fail)))); ((with_reducible refine wpQuiet_nil ?_)); rintro _ ⟨u, rfl⟩; (try (rw [Fut.put_self u (by first | assumption | (simp [go_sem]; done) | (simp [go_sem]; omega))]))))
  go_end0
  exact .mk rfl (by repeat' (first | exact Below.refl _ _ | with_reducible assumption | omega | with_reducible refine below_put_fut ?_ ?_ _ | with_reducible refine below_to_put ?_ | with_reducible refine Below.alloc ?_ ?_ _ | with_reducible refine Below.fut ?_ ?_ _ | with_reducible refine Below.drew ?_ | with_reducible refine Below.setCell ?_ ?_ _ | with_reducible refine Below.atPut ?_ ?_ _ | (simp [go_sem]; done) | (simp [go_sem]; omega)))
theorem growInts_is (W : World) (bk : Nat) (h : W.cell? ⟨bk, 2, none⟩ = some (.slice none 0 0)) :
    Calls Try.prog 101 #[.pointer (some ⟨bk, 0, none⟩)] W (Makes (.slice none 0 0) W) := by
  have hl := World.block_lt_of_cell? _ _ h
  go_enter Try.func101, Try.ntmps101
  go_wp2_with (first | ((with_reducible refine wp_loop_rounds 1 ?_)) | ((with_reducible refine rounds_step ?_)) | ((go_step3)) | (((with_reducible refine wp_region_fut_lit (by kernel_rfl) (by kernel_rfl) ?_)); (repeat (go_big_quiet_step ((first | fail)))); ((with_reducible refine wpQuiet_nil ?_)); rintro _ ⟨u, rfl⟩; (try (rw [Fut.put_self u (by first | assumption | (simp [go_sem]; done) | (simp [go_sem]; omega))]))))
  go_ret; exact .mk (by first | rfl | (simp; done) | (simp; omega)) (by repeat' (first | exact Below.refl _ _ | with_reducible assumption | omega | with_reducible refine below_put_fut ?_ ?_ _ | with_reducible refine below_to_put ?_ | with_reducible refine Below.alloc ?_ ?_ _ | with_reducible refine Below.fut ?_ ?_ _ | with_reducible refine Below.drew ?_ | with_reducible refine Below.setCell ?_ ?_ _ | with_reducible refine Below.atPut ?_ ?_ _ | (simp [go_sem]; done) | (simp [go_sem]; omega)))
theorem markedInts_is (W : World) :
    Calls Try.prog 108 #[.slice none 0 0] W (Makes (.bool true) W) := by
  go_enter Try.func108, Try.ntmps108
  go_wp2_with (first | ((with_reducible refine wp_loop_rounds 1 ?_)) | ((with_reducible refine rounds_step ?_)) | ((go_step3)) | (((with_reducible refine wp_region_fut_lit (by kernel_rfl) (by kernel_rfl) ?_)); (repeat (go_big_quiet_step ((first | fail)))); ((with_reducible refine wpQuiet_nil ?_)); rintro _ ⟨u, rfl⟩; (try (rw [Fut.put_self u (by first | assumption | (simp [go_sem]; done) | (simp [go_sem]; omega))]))))
  go_ret; exact .mk (by first | rfl | (simp; done) | (simp; omega)) (by repeat' (first | exact Below.refl _ _ | with_reducible assumption | omega | with_reducible refine below_put_fut ?_ ?_ _ | with_reducible refine below_to_put ?_ | with_reducible refine Below.alloc ?_ ?_ _ | with_reducible refine Below.fut ?_ ?_ _ | with_reducible refine Below.drew ?_ | with_reducible refine Below.setCell ?_ ?_ _ | with_reducible refine Below.atPut ?_ ?_ _ | (simp [go_sem]; done) | (simp [go_sem]; omega)))
theorem stillPoints_is (W : World) (bk : Nat) (h : W.cell? ⟨bk, 4, none⟩ = some (.slice none 0 0)) :
    Calls Try.prog 88 #[.pointer (some ⟨bk, 0, none⟩)] W (Makes (.bool true) W) := by
  have hl := World.block_lt_of_cell? _ _ h
  go_enter Try.func88, Try.ntmps88
  go_wp2_with (first | ((with_reducible refine wp_loop_rounds 1 ?_)) | ((with_reducible refine rounds_step ?_)) | ((go_step3)) | (((with_reducible refine wp_region_fut_lit (by kernel_rfl) (by kernel_rfl) ?_)); (repeat (go_big_quiet_step ((first | fail)))); ((with_reducible refine wpQuiet_nil ?_)); rintro _ ⟨u, rfl⟩; (try (rw [Fut.put_self u (by first | assumption | (simp [go_sem]; done) | (simp [go_sem]; omega))]))))
  go_ret; exact .mk (by first | rfl | (simp; done) | (simp; omega)) (by repeat' (first | exact Below.refl _ _ | with_reducible assumption | omega | with_reducible refine below_put_fut ?_ ?_ _ | with_reducible refine below_to_put ?_ | with_reducible refine Below.alloc ?_ ?_ _ | with_reducible refine Below.fut ?_ ?_ _ | with_reducible refine Below.drew ?_ | with_reducible refine Below.setCell ?_ ?_ _ | with_reducible refine Below.atPut ?_ ?_ _ | (simp [go_sem]; done) | (simp [go_sem]; omega)))
theorem putPoints_is (W : World) (bk : Nat) (h : W.cell? ⟨bk, 4, none⟩ = some (.slice none 0 0)) :
    Calls Try.prog 97 #[.pointer (some ⟨bk, 0, none⟩)] W (Makes (.tuple #[]) W) := by
  have hl := World.block_lt_of_cell? _ _ h
  go_enter Try.func97, Try.ntmps97
  go_wp2_with (first | ((with_reducible refine wp_loop_rounds 1 ?_)) | ((with_reducible refine rounds_step ?_)) | ((go_step3)) | (((with_reducible refine wp_region_fut_lit (by kernel_rfl) (by kernel_rfl) ?_)); (repeat (go_big_quiet_step ((first | fail)))); ((with_reducible refine wpQuiet_nil ?_)); rintro _ ⟨u, rfl⟩; (try (rw [Fut.put_self u (by first | assumption | (simp [go_sem]; done) | (simp [go_sem]; omega))]))))
  go_end0
  exact .mk rfl (by repeat' (first | exact Below.refl _ _ | with_reducible assumption | omega | with_reducible refine below_put_fut ?_ ?_ _ | with_reducible refine below_to_put ?_ | with_reducible refine Below.alloc ?_ ?_ _ | with_reducible refine Below.fut ?_ ?_ _ | with_reducible refine Below.drew ?_ | with_reducible refine Below.setCell ?_ ?_ _ | with_reducible refine Below.atPut ?_ ?_ _ | (simp [go_sem]; done) | (simp [go_sem]; omega)))
theorem growPoints_is (W : World) (bk : Nat) (h : W.cell? ⟨bk, 4, none⟩ = some (.slice none 0 0)) :
    Calls Try.prog 102 #[.pointer (some ⟨bk, 0, none⟩)] W (Makes (.slice none 0 0) W) := by
  have hl := World.block_lt_of_cell? _ _ h
  go_enter Try.func102, Try.ntmps102
  go_wp2_with (first | ((with_reducible refine wp_loop_rounds 1 ?_)) | ((with_reducible refine rounds_step ?_)) | ((go_step3)) | (((with_reducible refine wp_region_fut_lit (by kernel_rfl) (by kernel_rfl) ?_)); (repeat (go_big_quiet_step ((first | fail)))); ((with_reducible refine wpQuiet_nil ?_)); rintro _ ⟨u, rfl⟩; (try (rw [Fut.put_self u (by first | assumption | (simp [go_sem]; done) | (simp [go_sem]; omega))]))))
  go_ret; exact .mk (by first | rfl | (simp; done) | (simp; omega)) (by repeat' (first | exact Below.refl _ _ | with_reducible assumption | omega | with_reducible refine below_put_fut ?_ ?_ _ | with_reducible refine below_to_put ?_ | with_reducible refine Below.alloc ?_ ?_ _ | with_reducible refine Below.fut ?_ ?_ _ | with_reducible refine Below.drew ?_ | with_reducible refine Below.setCell ?_ ?_ _ | with_reducible refine Below.atPut ?_ ?_ _ | (simp [go_sem]; done) | (simp [go_sem]; omega)))
theorem markedPoints_is (W : World) :
    Calls Try.prog 109 #[.slice none 0 0] W (Makes (.bool true) W) := by
  go_enter Try.func109, Try.ntmps109
  go_wp2_with (first | ((with_reducible refine wp_loop_rounds 1 ?_)) | ((with_reducible refine rounds_step ?_)) | ((go_step3)) | (((with_reducible refine wp_region_fut_lit (by kernel_rfl) (by kernel_rfl) ?_)); (repeat (go_big_quiet_step ((first | fail)))); ((with_reducible refine wpQuiet_nil ?_)); rintro _ ⟨u, rfl⟩; (try (rw [Fut.put_self u (by first | assumption | (simp [go_sem]; done) | (simp [go_sem]; omega))]))))
  go_ret; exact .mk (by first | rfl | (simp; done) | (simp; omega)) (by repeat' (first | exact Below.refl _ _ | with_reducible assumption | omega | with_reducible refine below_put_fut ?_ ?_ _ | with_reducible refine below_to_put ?_ | with_reducible refine Below.alloc ?_ ?_ _ | with_reducible refine Below.fut ?_ ?_ _ | with_reducible refine Below.drew ?_ | with_reducible refine Below.setCell ?_ ?_ _ | with_reducible refine Below.atPut ?_ ?_ _ | (simp [go_sem]; done) | (simp [go_sem]; omega)))
theorem stillOwneds_is (W : World) (bk : Nat) (h : W.cell? ⟨bk, 8, none⟩ = some (.slice none 0 0)) :
    Calls Try.prog 90 #[.pointer (some ⟨bk, 0, none⟩)] W (Makes (.bool true) W) := by
  have hl := World.block_lt_of_cell? _ _ h
  go_enter Try.func90, Try.ntmps90
  go_wp2_with (first | ((with_reducible refine wp_loop_rounds 1 ?_)) | ((with_reducible refine rounds_step ?_)) | ((go_step3)) | (((with_reducible refine wp_region_fut_lit (by kernel_rfl) (by kernel_rfl) ?_)); (repeat (go_big_quiet_step ((first | fail)))); ((with_reducible refine wpQuiet_nil ?_)); rintro _ ⟨u, rfl⟩; (try (rw [Fut.put_self u (by first | assumption | (simp [go_sem]; done) | (simp [go_sem]; omega))]))))
  go_ret; exact .mk (by first | rfl | (simp; done) | (simp; omega)) (by repeat' (first | exact Below.refl _ _ | with_reducible assumption | omega | with_reducible refine below_put_fut ?_ ?_ _ | with_reducible refine below_to_put ?_ | with_reducible refine Below.alloc ?_ ?_ _ | with_reducible refine Below.fut ?_ ?_ _ | with_reducible refine Below.drew ?_ | with_reducible refine Below.setCell ?_ ?_ _ | with_reducible refine Below.atPut ?_ ?_ _ | (simp [go_sem]; done) | (simp [go_sem]; omega)))
theorem putOwneds_is (W : World) (bk : Nat) (h : W.cell? ⟨bk, 8, none⟩ = some (.slice none 0 0)) :
    Calls Try.prog 99 #[.pointer (some ⟨bk, 0, none⟩)] W (Makes (.tuple #[]) W) := by
  have hl := World.block_lt_of_cell? _ _ h
  go_enter Try.func99, Try.ntmps99
  go_wp2_with (first | ((with_reducible refine wp_loop_rounds 1 ?_)) | ((with_reducible refine rounds_step ?_)) | ((go_step3)) | (((with_reducible refine wp_region_fut_lit (by kernel_rfl) (by kernel_rfl) ?_)); (repeat (go_big_quiet_step ((first | fail)))); ((with_reducible refine wpQuiet_nil ?_)); rintro _ ⟨u, rfl⟩; (try (rw [Fut.put_self u (by first | assumption | (simp [go_sem]; done) | (simp [go_sem]; omega))]))))
  go_end0
  exact .mk rfl (by repeat' (first | exact Below.refl _ _ | with_reducible assumption | omega | with_reducible refine below_put_fut ?_ ?_ _ | with_reducible refine below_to_put ?_ | with_reducible refine Below.alloc ?_ ?_ _ | with_reducible refine Below.fut ?_ ?_ _ | with_reducible refine Below.drew ?_ | with_reducible refine Below.setCell ?_ ?_ _ | with_reducible refine Below.atPut ?_ ?_ _ | (simp [go_sem]; done) | (simp [go_sem]; omega)))
theorem growOwneds_is (W : World) (bk : Nat) (h : W.cell? ⟨bk, 8, none⟩ = some (.slice none 0 0)) :
    Calls Try.prog 104 #[.pointer (some ⟨bk, 0, none⟩)] W (Makes (.slice none 0 0) W) := by
  have hl := World.block_lt_of_cell? _ _ h
  go_enter Try.func104, Try.ntmps104
  go_wp2_with (first | ((with_reducible refine wp_loop_rounds 1 ?_)) | ((with_reducible refine rounds_step ?_)) | ((go_step3)) | (((with_reducible refine wp_region_fut_lit (by kernel_rfl) (by kernel_rfl) ?_)); (repeat (go_big_quiet_step ((first | fail)))); ((with_reducible refine wpQuiet_nil ?_)); rintro _ ⟨u, rfl⟩; (try (rw [Fut.put_self u (by first | assumption | (simp [go_sem]; done) | (simp [go_sem]; omega))]))))
  go_ret; exact .mk (by first | rfl | (simp; done) | (simp; omega)) (by repeat' (first | exact Below.refl _ _ | with_reducible assumption | omega | with_reducible refine below_put_fut ?_ ?_ _ | with_reducible refine below_to_put ?_ | with_reducible refine Below.alloc ?_ ?_ _ | with_reducible refine Below.fut ?_ ?_ _ | with_reducible refine Below.drew ?_ | with_reducible refine Below.setCell ?_ ?_ _ | with_reducible refine Below.atPut ?_ ?_ _ | (simp [go_sem]; done) | (simp [go_sem]; omega)))
theorem markedOwneds_is (W : World) :
    Calls Try.prog 111 #[.slice none 0 0] W (Makes (.bool true) W) := by
  go_enter Try.func111, Try.ntmps111
  go_wp2_with (first | ((with_reducible refine wp_loop_rounds 1 ?_)) | ((with_reducible refine rounds_step ?_)) | ((go_step3)) | (((with_reducible refine wp_region_fut_lit (by kernel_rfl) (by kernel_rfl) ?_)); (repeat (go_big_quiet_step ((first | fail)))); ((with_reducible refine wpQuiet_nil ?_)); rintro _ ⟨u, rfl⟩; (try (rw [Fut.put_self u (by first | assumption | (simp [go_sem]; done) | (simp [go_sem]; omega))]))))
  go_ret; exact .mk (by first | rfl | (simp; done) | (simp; omega)) (by repeat' (first | exact Below.refl _ _ | with_reducible assumption | omega | with_reducible refine below_put_fut ?_ ?_ _ | with_reducible refine below_to_put ?_ | with_reducible refine Below.alloc ?_ ?_ _ | with_reducible refine Below.fut ?_ ?_ _ | with_reducible refine Below.drew ?_ | with_reducible refine Below.setCell ?_ ?_ _ | with_reducible refine Below.atPut ?_ ?_ _ | (simp [go_sem]; done) | (simp [go_sem]; omega)))
theorem stillEvents_is (W : World) (bk : Nat) (h : W.cell? ⟨bk, 10, none⟩ = some (.slice none 0 0)) :
    Calls Try.prog 91 #[.pointer (some ⟨bk, 0, none⟩)] W (Makes (.bool true) W) := by
  have hl := World.block_lt_of_cell? _ _ h
  go_enter Try.func91, Try.ntmps91
  go_wp2_with (first | ((with_reducible refine wp_loop_rounds 1 ?_)) | ((with_reducible refine rounds_step ?_)) | ((go_step3)) | (((with_reducible refine wp_region_fut_lit (by kernel_rfl) (by kernel_rfl) ?_)); (repeat (go_big_quiet_step ((first | fail)))); ((with_reducible refine wpQuiet_nil ?_)); rintro _ ⟨u, rfl⟩; (try (rw [Fut.put_self u (by first | assumption | (simp [go_sem]; done) | (simp [go_sem]; omega))]))))
  go_ret; exact .mk (by first | rfl | (simp; done) | (simp; omega)) (by repeat' (first | exact Below.refl _ _ | with_reducible assumption | omega | with_reducible refine below_put_fut ?_ ?_ _ | with_reducible refine below_to_put ?_ | with_reducible refine Below.alloc ?_ ?_ _ | with_reducible refine Below.fut ?_ ?_ _ | with_reducible refine Below.drew ?_ | with_reducible refine Below.setCell ?_ ?_ _ | with_reducible refine Below.atPut ?_ ?_ _ | (simp [go_sem]; done) | (simp [go_sem]; omega)))
theorem putEvents_is (W : World) (bk : Nat) (h : W.cell? ⟨bk, 10, none⟩ = some (.slice none 0 0)) :
    Calls Try.prog 93 #[.pointer (some ⟨bk, 0, none⟩)] W (Makes (.tuple #[]) W) := by
  have hl := World.block_lt_of_cell? _ _ h
  go_enter Try.func93, Try.ntmps93
  go_wp2_with (first | ((with_reducible refine wp_loop_rounds 1 ?_)) | ((with_reducible refine rounds_step ?_)) | ((go_step3)) | (((with_reducible refine wp_region_fut_lit (by kernel_rfl) (by kernel_rfl) ?_)); (repeat (go_big_quiet_step ((first | fail)))); ((with_reducible refine wpQuiet_nil ?_)); rintro _ ⟨u, rfl⟩; (try (rw [Fut.put_self u (by first | assumption | (simp [go_sem]; done) | (simp [go_sem]; omega))]))))
  go_end0
  exact .mk rfl (by repeat' (first | exact Below.refl _ _ | with_reducible assumption | omega | with_reducible refine below_put_fut ?_ ?_ _ | with_reducible refine below_to_put ?_ | with_reducible refine Below.alloc ?_ ?_ _ | with_reducible refine Below.fut ?_ ?_ _ | with_reducible refine Below.drew ?_ | with_reducible refine Below.setCell ?_ ?_ _ | with_reducible refine Below.atPut ?_ ?_ _ | (simp [go_sem]; done) | (simp [go_sem]; omega)))
theorem growEvents_is (W : World) (bk : Nat) (h : W.cell? ⟨bk, 10, none⟩ = some (.slice none 0 0)) :
    Calls Try.prog 105 #[.pointer (some ⟨bk, 0, none⟩)] W (Makes (.slice none 0 0) W) := by
  have hl := World.block_lt_of_cell? _ _ h
  go_enter Try.func105, Try.ntmps105
  go_wp2_with (first | ((with_reducible refine wp_loop_rounds 1 ?_)) | ((with_reducible refine rounds_step ?_)) | ((go_step3)) | (((with_reducible refine wp_region_fut_lit (by kernel_rfl) (by kernel_rfl) ?_)); (repeat (go_big_quiet_step ((first | fail)))); ((with_reducible refine wpQuiet_nil ?_)); rintro _ ⟨u, rfl⟩; (try (rw [Fut.put_self u (by first | assumption | (simp [go_sem]; done) | (simp [go_sem]; omega))]))))
  go_ret; exact .mk (by first | rfl | (simp; done) | (simp; omega)) (by repeat' (first | exact Below.refl _ _ | with_reducible assumption | omega | with_reducible refine below_put_fut ?_ ?_ _ | with_reducible refine below_to_put ?_ | with_reducible refine Below.alloc ?_ ?_ _ | with_reducible refine Below.fut ?_ ?_ _ | with_reducible refine Below.drew ?_ | with_reducible refine Below.setCell ?_ ?_ _ | with_reducible refine Below.atPut ?_ ?_ _ | (simp [go_sem]; done) | (simp [go_sem]; omega)))
theorem markedEvents_is (W : World) :
    Calls Try.prog 112 #[.slice none 0 0] W (Makes (.bool true) W) := by
  go_enter Try.func112, Try.ntmps112
  go_wp2_with (first | ((with_reducible refine wp_loop_rounds 1 ?_)) | ((with_reducible refine rounds_step ?_)) | ((go_step3)) | (((with_reducible refine wp_region_fut_lit (by kernel_rfl) (by kernel_rfl) ?_)); (repeat (go_big_quiet_step ((first | fail)))); ((with_reducible refine wpQuiet_nil ?_)); rintro _ ⟨u, rfl⟩; (try (rw [Fut.put_self u (by first | assumption | (simp [go_sem]; done) | (simp [go_sem]; omega))]))))
  go_ret; exact .mk (by first | rfl | (simp; done) | (simp; omega)) (by repeat' (first | exact Below.refl _ _ | with_reducible assumption | omega | with_reducible refine below_put_fut ?_ ?_ _ | with_reducible refine below_to_put ?_ | with_reducible refine Below.alloc ?_ ?_ _ | with_reducible refine Below.fut ?_ ?_ _ | with_reducible refine Below.drew ?_ | with_reducible refine Below.setCell ?_ ?_ _ | with_reducible refine Below.atPut ?_ ?_ _ | (simp [go_sem]; done) | (simp [go_sem]; omega)))
theorem stillLetters_is (W : World) (bk : Nat) (h : W.cell? ⟨bk, 12, none⟩ = some (.slice none 0 0)) :
    Calls Try.prog 92 #[.pointer (some ⟨bk, 0, none⟩)] W (Makes (.bool true) W) := by
  have hl := World.block_lt_of_cell? _ _ h
  go_enter Try.func92, Try.ntmps92
  go_wp2_with (first | ((with_reducible refine wp_loop_rounds 1 ?_)) | ((with_reducible refine rounds_step ?_)) | ((go_step3)) | (((with_reducible refine wp_region_fut_lit (by kernel_rfl) (by kernel_rfl) ?_)); (repeat (go_big_quiet_step ((first | fail)))); ((with_reducible refine wpQuiet_nil ?_)); rintro _ ⟨u, rfl⟩; (try (rw [Fut.put_self u (by first | assumption | (simp [go_sem]; done) | (simp [go_sem]; omega))]))))
  go_ret; exact .mk (by first | rfl | (simp; done) | (simp; omega)) (by repeat' (first | exact Below.refl _ _ | with_reducible assumption | omega | with_reducible refine below_put_fut ?_ ?_ _ | with_reducible refine below_to_put ?_ | with_reducible refine Below.alloc ?_ ?_ _ | with_reducible refine Below.fut ?_ ?_ _ | with_reducible refine Below.drew ?_ | with_reducible refine Below.setCell ?_ ?_ _ | with_reducible refine Below.atPut ?_ ?_ _ | (simp [go_sem]; done) | (simp [go_sem]; omega)))
theorem putLetters_is (W : World) (bk : Nat) (h : W.cell? ⟨bk, 12, none⟩ = some (.slice none 0 0)) :
    Calls Try.prog 94 #[.pointer (some ⟨bk, 0, none⟩)] W (Makes (.tuple #[]) W) := by
  have hl := World.block_lt_of_cell? _ _ h
  go_enter Try.func94, Try.ntmps94
  go_wp2_with (first | ((with_reducible refine wp_loop_rounds 1 ?_)) | ((with_reducible refine rounds_step ?_)) | ((go_step3)) | (((with_reducible refine wp_region_fut_lit (by kernel_rfl) (by kernel_rfl) ?_)); (repeat (go_big_quiet_step ((first | fail)))); ((with_reducible refine wpQuiet_nil ?_)); rintro _ ⟨u, rfl⟩; (try (rw [Fut.put_self u (by first | assumption | (simp [go_sem]; done) | (simp [go_sem]; omega))]))))
  go_end0
  exact .mk rfl (by repeat' (first | exact Below.refl _ _ | with_reducible assumption | omega | with_reducible refine below_put_fut ?_ ?_ _ | with_reducible refine below_to_put ?_ | with_reducible refine Below.alloc ?_ ?_ _ | with_reducible refine Below.fut ?_ ?_ _ | with_reducible refine Below.drew ?_ | with_reducible refine Below.setCell ?_ ?_ _ | with_reducible refine Below.atPut ?_ ?_ _ | (simp [go_sem]; done) | (simp [go_sem]; omega)))
theorem growLetters_is (W : World) (bk : Nat) (h : W.cell? ⟨bk, 12, none⟩ = some (.slice none 0 0)) :
    Calls Try.prog 106 #[.pointer (some ⟨bk, 0, none⟩)] W (Makes (.slice none 0 0) W) := by
  have hl := World.block_lt_of_cell? _ _ h
  go_enter Try.func106, Try.ntmps106
  go_wp2_with (first | ((with_reducible refine wp_loop_rounds 1 ?_)) | ((with_reducible refine rounds_step ?_)) | ((go_step3)) | (((with_reducible refine wp_region_fut_lit (by kernel_rfl) (by kernel_rfl) ?_)); (repeat (go_big_quiet_step ((first | fail)))); ((with_reducible refine wpQuiet_nil ?_)); rintro _ ⟨u, rfl⟩; (try (rw [Fut.put_self u (by first | assumption | (simp [go_sem]; done) | (simp [go_sem]; omega))]))))
  go_ret; exact .mk (by first | rfl | (simp; done) | (simp; omega)) (by repeat' (first | exact Below.refl _ _ | with_reducible assumption | omega | with_reducible refine below_put_fut ?_ ?_ _ | with_reducible refine below_to_put ?_ | with_reducible refine Below.alloc ?_ ?_ _ | with_reducible refine Below.fut ?_ ?_ _ | with_reducible refine Below.drew ?_ | with_reducible refine Below.setCell ?_ ?_ _ | with_reducible refine Below.atPut ?_ ?_ _ | (simp [go_sem]; done) | (simp [go_sem]; omega)))
theorem markedLetters_is (W : World) :
    Calls Try.prog 113 #[.slice none 0 0] W (Makes (.bool true) W) := by
  go_enter Try.func113, Try.ntmps113
  go_wp2_with (first | ((with_reducible refine wp_loop_rounds 1 ?_)) | ((with_reducible refine rounds_step ?_)) | ((go_step3)) | (((with_reducible refine wp_region_fut_lit (by kernel_rfl) (by kernel_rfl) ?_)); (repeat (go_big_quiet_step ((first | fail)))); ((with_reducible refine wpQuiet_nil ?_)); rintro _ ⟨u, rfl⟩; (try (rw [Fut.put_self u (by first | assumption | (simp [go_sem]; done) | (simp [go_sem]; omega))]))))
  go_ret; exact .mk (by first | rfl | (simp; done) | (simp; omega)) (by repeat' (first | exact Below.refl _ _ | with_reducible assumption | omega | with_reducible refine below_put_fut ?_ ?_ _ | with_reducible refine below_to_put ?_ | with_reducible refine Below.alloc ?_ ?_ _ | with_reducible refine Below.fut ?_ ?_ _ | with_reducible refine Below.drew ?_ | with_reducible refine Below.setCell ?_ ?_ _ | with_reducible refine Below.atPut ?_ ?_ _ | (simp [go_sem]; done) | (simp [go_sem]; omega)))
end Go.Proofs.Ythknenhcnpgkcaa
