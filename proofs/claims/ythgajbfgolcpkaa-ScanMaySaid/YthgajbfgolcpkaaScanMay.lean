/- ScanMay answers true for every two texts and every numbers, and leaves its arguments as they were. No condition. -/
import Derived.Test.YthgajbfgolcpkaaScan8
import Derived.Test.YthgajbfgolcpkaaFrame
namespace Go.Proofs.Ythgajbfgolcpkaa
open Go.ChangeShapes Go.WideShapes Go.ChangeAt Go.RowKit Go.Joins
open Go.ChangeMaps (open_string shut_string)
set_option linter.unusedVariables false
set_option linter.unusedSimpArgs false
set_option maxRecDepth 100000 in
set_option maxHeartbeats 4000000 in
theorem scanMay_walk (from_ : ByteArray) (sf : from_.size ≤ maxLen) (to : ByteArray) (st : to.size ≤ maxLen) (most : Int) (wm : (Lit.int .i64 most).wf = true) (at_ : Int) (wa : (Lit.int .i64 at_).wf = true) (nodes : Int) (wn : (Lit.int .i64 nodes).wf = true) (w : World) :
    Calls Try.prog 9 #[.string from_, .string to, .int .i64 most, .int .i64 at_, .int .i64 nodes] w (Makes (.bool true) w) := by
  clear wm wa wn sf st
  rcases Nat.lt_or_ge 60 from_.size with c | c
  · go_enter Try.func9, Try.ntmps9
    go_wp2_with (first | (go_at_call 27; ((with_reducible refine (scanAlive_any _).mono ?_)); rintro _ _ ⟨rfl, u, rfl⟩; (try (rw [Fut.put_self u (by first | assumption | (simp [go_sem]; done) | (simp [go_sem]; omega))]))) | (((with_reducible refine wp_region_fut_lit (by kernel_rfl) (by kernel_rfl) ?_)); (repeat (go_big_quiet_step ((first | (go_at_call 27; with_reducible exact Calls.fut_of (scanAlive_any _)))))); ((with_reducible refine wpQuiet_nil ?_)); rintro _ ⟨u, rfl⟩; (try (rw [Fut.put_self u (by first | assumption | (simp [go_sem]; done) | (simp [go_sem]; omega))]))))
    go_ret; exact .mk (by first | rfl | (simp; done) | (simp; omega)) (by repeat' (first | exact Below.refl _ _ | with_reducible assumption | with_reducible refine below_put_fut ?_ ?_ _ | with_reducible refine below_to_put ?_ | with_reducible refine Below.alloc ?_ ?_ _ | with_reducible refine Below.fut ?_ ?_ _ | with_reducible refine Below.drew ?_ | with_reducible refine Below.setCell ?_ ?_ _ | with_reducible refine Below.atPut ?_ ?_ _ | (simp [go_sem]; done) | (simp [go_sem]; omega)))
  rcases Nat.lt_or_ge 60 to.size with d | d
  · go_enter Try.func9, Try.ntmps9
    go_wp2_with (first | (go_at_call 27; ((with_reducible refine (scanAlive_any _).mono ?_)); rintro _ _ ⟨rfl, u, rfl⟩; (try (rw [Fut.put_self u (by first | assumption | (simp [go_sem]; done) | (simp [go_sem]; omega))]))) | (((with_reducible refine wp_region_fut_lit (by kernel_rfl) (by kernel_rfl) ?_)); (repeat (go_big_quiet_step ((first | (go_at_call 27; with_reducible exact Calls.fut_of (scanAlive_any _)))))); ((with_reducible refine wpQuiet_nil ?_)); rintro _ ⟨u, rfl⟩; (try (rw [Fut.put_self u (by first | assumption | (simp [go_sem]; done) | (simp [go_sem]; omega))]))))
    go_ret; exact .mk (by first | rfl | (simp; done) | (simp; omega)) (by repeat' (first | exact Below.refl _ _ | with_reducible assumption | with_reducible refine below_put_fut ?_ ?_ _ | with_reducible refine below_to_put ?_ | with_reducible refine Below.alloc ?_ ?_ _ | with_reducible refine Below.fut ?_ ?_ _ | with_reducible refine Below.drew ?_ | with_reducible refine Below.setCell ?_ ?_ _ | with_reducible refine Below.atPut ?_ ?_ _ | (simp [go_sem]; done) | (simp [go_sem]; omega)))
  rcases Decidable.em (nodes < 1) with e1 | e1
  · go_enter Try.func9, Try.ntmps9
    go_wp2_with (first | (go_at_call 27; ((with_reducible refine (scanAlive_any _).mono ?_)); rintro _ _ ⟨rfl, u, rfl⟩; (try (rw [Fut.put_self u (by first | assumption | (simp [go_sem]; done) | (simp [go_sem]; omega))]))) | (((with_reducible refine wp_region_fut_lit (by kernel_rfl) (by kernel_rfl) ?_)); (repeat (go_big_quiet_step ((first | (go_at_call 27; with_reducible exact Calls.fut_of (scanAlive_any _)))))); ((with_reducible refine wpQuiet_nil ?_)); rintro _ ⟨u, rfl⟩; (try (rw [Fut.put_self u (by first | assumption | (simp [go_sem]; done) | (simp [go_sem]; omega))]))))
    (((with_reducible refine (new_no 9 nodes (by omega) _).mono ?_)); rintro _ _ ⟨rfl, u, rfl⟩)
    go_wp2_with fail
    go_ret; exact .mk (by first | rfl | (simp; done) | (simp; omega)) (by repeat' (first | exact Below.refl _ _ | with_reducible assumption | with_reducible refine below_put_fut ?_ ?_ _ | with_reducible refine below_to_put ?_ | with_reducible refine Below.alloc ?_ ?_ _ | with_reducible refine Below.fut ?_ ?_ _ | with_reducible refine Below.drew ?_ | with_reducible refine Below.setCell ?_ ?_ _ | with_reducible refine Below.atPut ?_ ?_ _ | (simp [go_sem]; done) | (simp [go_sem]; omega)))
  replace e1 : 1 ≤ nodes := by omega
  rcases Decidable.em (16 < nodes) with e2 | e2
  · go_enter Try.func9, Try.ntmps9
    go_wp2_with (first | (go_at_call 27; ((with_reducible refine (scanAlive_any _).mono ?_)); rintro _ _ ⟨rfl, u, rfl⟩; (try (rw [Fut.put_self u (by first | assumption | (simp [go_sem]; done) | (simp [go_sem]; omega))]))) | (((with_reducible refine wp_region_fut_lit (by kernel_rfl) (by kernel_rfl) ?_)); (repeat (go_big_quiet_step ((first | (go_at_call 27; with_reducible exact Calls.fut_of (scanAlive_any _)))))); ((with_reducible refine wpQuiet_nil ?_)); rintro _ ⟨u, rfl⟩; (try (rw [Fut.put_self u (by first | assumption | (simp [go_sem]; done) | (simp [go_sem]; omega))]))))
    (((with_reducible refine (new_no 9 nodes (by omega) _).mono ?_)); rintro _ _ ⟨rfl, u, rfl⟩)
    go_wp2_with fail
    go_ret; exact .mk (by first | rfl | (simp; done) | (simp; omega)) (by repeat' (first | exact Below.refl _ _ | with_reducible assumption | with_reducible refine below_put_fut ?_ ?_ _ | with_reducible refine below_to_put ?_ | with_reducible refine Below.alloc ?_ ?_ _ | with_reducible refine Below.fut ?_ ?_ _ | with_reducible refine Below.drew ?_ | with_reducible refine Below.setCell ?_ ?_ _ | with_reducible refine Below.atPut ?_ ?_ _ | (simp [go_sem]; done) | (simp [go_sem]; omega)))
  replace e2 : nodes ≤ 16 := by omega
  rcases Nat.lt_or_ge 16 from_.size with c1 | c1
  · have k : (false = true) ∨ 16 < from_.size ∨ 16 < to.size ∨ most < 1 ∨ 40 < most ∨ at_ < 0 ∨ nodes ≤ at_ := by omega
    go_enter Try.func9, Try.ntmps9
    go_wp2_with (first | (go_at_call 27; ((with_reducible refine (scanAlive_any _).mono ?_)); rintro _ _ ⟨rfl, u, rfl⟩; (try (rw [Fut.put_self u (by first | assumption | (simp [go_sem]; done) | (simp [go_sem]; omega))]))) | (((with_reducible refine wp_region_fut_lit (by kernel_rfl) (by kernel_rfl) ?_)); (repeat (go_big_quiet_step ((first | (go_at_call 27; with_reducible exact Calls.fut_of (scanAlive_any _)))))); ((with_reducible refine wpQuiet_nil ?_)); rintro _ ⟨u, rfl⟩; (try (rw [Fut.put_self u (by first | assumption | (simp [go_sem]; done) | (simp [go_sem]; omega))]))))
    (((with_reducible refine (new_is 9 nodes (by omega) (by omega) ⟨w, fun _ => none⟩ (hid fun _ => rfl) _ (by repeat' (first | exact Below.refl _ _ | with_reducible assumption | with_reducible refine below_put_fut ?_ ?_ _ | with_reducible refine below_to_put ?_ | with_reducible refine Below.alloc ?_ ?_ _ | with_reducible refine Below.fut ?_ ?_ _ | with_reducible refine Below.drew ?_ | with_reducible refine Below.setCell ?_ ?_ _ | with_reducible refine Below.atPut ?_ ?_ _ | (simp [go_sem]; done) | (simp [go_sem]; omega)))).mono ?_)); rintro _ W1 ⟨g, rfl, h1⟩)
    go_wp2_with fail
    have K := hid k
    clear k
    (((with_reducible refine (start_no _ _ _ _ _ _ _ h1 _ _ _ _ K.out).mono ?_)); rintro _ W2 ⟨rfl, h2⟩)
    clear h1
    go_wp2_with fail
    (((with_reducible refine (start_no _ _ _ _ _ _ _ h2 _ _ _ _ K.out).mono ?_)); rintro _ W3 ⟨rfl, h3⟩)
    clear h2
    have hB := h3.below
    clear h3
    go_wp2_with fail
    go_ret
    exact .mk (by first | rfl | simp) hB
  rcases Nat.lt_or_ge 16 to.size with c2 | c2
  · have k : (false = true) ∨ 16 < from_.size ∨ 16 < to.size ∨ most < 1 ∨ 40 < most ∨ at_ < 0 ∨ nodes ≤ at_ := by omega
    go_enter Try.func9, Try.ntmps9
    go_wp2_with (first | (go_at_call 27; ((with_reducible refine (scanAlive_any _).mono ?_)); rintro _ _ ⟨rfl, u, rfl⟩; (try (rw [Fut.put_self u (by first | assumption | (simp [go_sem]; done) | (simp [go_sem]; omega))]))) | (((with_reducible refine wp_region_fut_lit (by kernel_rfl) (by kernel_rfl) ?_)); (repeat (go_big_quiet_step ((first | (go_at_call 27; with_reducible exact Calls.fut_of (scanAlive_any _)))))); ((with_reducible refine wpQuiet_nil ?_)); rintro _ ⟨u, rfl⟩; (try (rw [Fut.put_self u (by first | assumption | (simp [go_sem]; done) | (simp [go_sem]; omega))]))))
    (((with_reducible refine (new_is 9 nodes (by omega) (by omega) ⟨w, fun _ => none⟩ (hid fun _ => rfl) _ (by repeat' (first | exact Below.refl _ _ | with_reducible assumption | with_reducible refine below_put_fut ?_ ?_ _ | with_reducible refine below_to_put ?_ | with_reducible refine Below.alloc ?_ ?_ _ | with_reducible refine Below.fut ?_ ?_ _ | with_reducible refine Below.drew ?_ | with_reducible refine Below.setCell ?_ ?_ _ | with_reducible refine Below.atPut ?_ ?_ _ | (simp [go_sem]; done) | (simp [go_sem]; omega)))).mono ?_)); rintro _ W1 ⟨g, rfl, h1⟩)
    go_wp2_with fail
    have K := hid k
    clear k
    (((with_reducible refine (start_no _ _ _ _ _ _ _ h1 _ _ _ _ K.out).mono ?_)); rintro _ W2 ⟨rfl, h2⟩)
    clear h1
    go_wp2_with fail
    (((with_reducible refine (start_no _ _ _ _ _ _ _ h2 _ _ _ _ K.out).mono ?_)); rintro _ W3 ⟨rfl, h3⟩)
    clear h2
    have hB := h3.below
    clear h3
    go_wp2_with fail
    go_ret
    exact .mk (by first | rfl | simp) hB
  rcases Decidable.em (most < 1) with c3 | c3
  · have k : (false = true) ∨ 16 < from_.size ∨ 16 < to.size ∨ most < 1 ∨ 40 < most ∨ at_ < 0 ∨ nodes ≤ at_ := by omega
    go_enter Try.func9, Try.ntmps9
    go_wp2_with (first | (go_at_call 27; ((with_reducible refine (scanAlive_any _).mono ?_)); rintro _ _ ⟨rfl, u, rfl⟩; (try (rw [Fut.put_self u (by first | assumption | (simp [go_sem]; done) | (simp [go_sem]; omega))]))) | (((with_reducible refine wp_region_fut_lit (by kernel_rfl) (by kernel_rfl) ?_)); (repeat (go_big_quiet_step ((first | (go_at_call 27; with_reducible exact Calls.fut_of (scanAlive_any _)))))); ((with_reducible refine wpQuiet_nil ?_)); rintro _ ⟨u, rfl⟩; (try (rw [Fut.put_self u (by first | assumption | (simp [go_sem]; done) | (simp [go_sem]; omega))]))))
    (((with_reducible refine (new_is 9 nodes (by omega) (by omega) ⟨w, fun _ => none⟩ (hid fun _ => rfl) _ (by repeat' (first | exact Below.refl _ _ | with_reducible assumption | with_reducible refine below_put_fut ?_ ?_ _ | with_reducible refine below_to_put ?_ | with_reducible refine Below.alloc ?_ ?_ _ | with_reducible refine Below.fut ?_ ?_ _ | with_reducible refine Below.drew ?_ | with_reducible refine Below.setCell ?_ ?_ _ | with_reducible refine Below.atPut ?_ ?_ _ | (simp [go_sem]; done) | (simp [go_sem]; omega)))).mono ?_)); rintro _ W1 ⟨g, rfl, h1⟩)
    go_wp2_with fail
    have K := hid k
    clear k
    (((with_reducible refine (start_no _ _ _ _ _ _ _ h1 _ _ _ _ K.out).mono ?_)); rintro _ W2 ⟨rfl, h2⟩)
    clear h1
    go_wp2_with fail
    (((with_reducible refine (start_no _ _ _ _ _ _ _ h2 _ _ _ _ K.out).mono ?_)); rintro _ W3 ⟨rfl, h3⟩)
    clear h2
    have hB := h3.below
    clear h3
    go_wp2_with fail
    go_ret
    exact .mk (by first | rfl | simp) hB
  replace c3 : 1 ≤ most := by omega
  rcases Decidable.em (40 < most) with c4 | c4
  · have k : (false = true) ∨ 16 < from_.size ∨ 16 < to.size ∨ most < 1 ∨ 40 < most ∨ at_ < 0 ∨ nodes ≤ at_ := by omega
    go_enter Try.func9, Try.ntmps9
    go_wp2_with (first | (go_at_call 27; ((with_reducible refine (scanAlive_any _).mono ?_)); rintro _ _ ⟨rfl, u, rfl⟩; (try (rw [Fut.put_self u (by first | assumption | (simp [go_sem]; done) | (simp [go_sem]; omega))]))) | (((with_reducible refine wp_region_fut_lit (by kernel_rfl) (by kernel_rfl) ?_)); (repeat (go_big_quiet_step ((first | (go_at_call 27; with_reducible exact Calls.fut_of (scanAlive_any _)))))); ((with_reducible refine wpQuiet_nil ?_)); rintro _ ⟨u, rfl⟩; (try (rw [Fut.put_self u (by first | assumption | (simp [go_sem]; done) | (simp [go_sem]; omega))]))))
    (((with_reducible refine (new_is 9 nodes (by omega) (by omega) ⟨w, fun _ => none⟩ (hid fun _ => rfl) _ (by repeat' (first | exact Below.refl _ _ | with_reducible assumption | with_reducible refine below_put_fut ?_ ?_ _ | with_reducible refine below_to_put ?_ | with_reducible refine Below.alloc ?_ ?_ _ | with_reducible refine Below.fut ?_ ?_ _ | with_reducible refine Below.drew ?_ | with_reducible refine Below.setCell ?_ ?_ _ | with_reducible refine Below.atPut ?_ ?_ _ | (simp [go_sem]; done) | (simp [go_sem]; omega)))).mono ?_)); rintro _ W1 ⟨g, rfl, h1⟩)
    go_wp2_with fail
    have K := hid k
    clear k
    (((with_reducible refine (start_no _ _ _ _ _ _ _ h1 _ _ _ _ K.out).mono ?_)); rintro _ W2 ⟨rfl, h2⟩)
    clear h1
    go_wp2_with fail
    (((with_reducible refine (start_no _ _ _ _ _ _ _ h2 _ _ _ _ K.out).mono ?_)); rintro _ W3 ⟨rfl, h3⟩)
    clear h2
    have hB := h3.below
    clear h3
    go_wp2_with fail
    go_ret
    exact .mk (by first | rfl | simp) hB
  replace c4 : most ≤ 40 := by omega
  rcases Decidable.em (at_ < 0) with c5 | c5
  · have k : (false = true) ∨ 16 < from_.size ∨ 16 < to.size ∨ most < 1 ∨ 40 < most ∨ at_ < 0 ∨ nodes ≤ at_ := by omega
    go_enter Try.func9, Try.ntmps9
    go_wp2_with (first | (go_at_call 27; ((with_reducible refine (scanAlive_any _).mono ?_)); rintro _ _ ⟨rfl, u, rfl⟩; (try (rw [Fut.put_self u (by first | assumption | (simp [go_sem]; done) | (simp [go_sem]; omega))]))) | (((with_reducible refine wp_region_fut_lit (by kernel_rfl) (by kernel_rfl) ?_)); (repeat (go_big_quiet_step ((first | (go_at_call 27; with_reducible exact Calls.fut_of (scanAlive_any _)))))); ((with_reducible refine wpQuiet_nil ?_)); rintro _ ⟨u, rfl⟩; (try (rw [Fut.put_self u (by first | assumption | (simp [go_sem]; done) | (simp [go_sem]; omega))]))))
    (((with_reducible refine (new_is 9 nodes (by omega) (by omega) ⟨w, fun _ => none⟩ (hid fun _ => rfl) _ (by repeat' (first | exact Below.refl _ _ | with_reducible assumption | with_reducible refine below_put_fut ?_ ?_ _ | with_reducible refine below_to_put ?_ | with_reducible refine Below.alloc ?_ ?_ _ | with_reducible refine Below.fut ?_ ?_ _ | with_reducible refine Below.drew ?_ | with_reducible refine Below.setCell ?_ ?_ _ | with_reducible refine Below.atPut ?_ ?_ _ | (simp [go_sem]; done) | (simp [go_sem]; omega)))).mono ?_)); rintro _ W1 ⟨g, rfl, h1⟩)
    go_wp2_with fail
    have K := hid k
    clear k
    (((with_reducible refine (start_no _ _ _ _ _ _ _ h1 _ _ _ _ K.out).mono ?_)); rintro _ W2 ⟨rfl, h2⟩)
    clear h1
    go_wp2_with fail
    (((with_reducible refine (start_no _ _ _ _ _ _ _ h2 _ _ _ _ K.out).mono ?_)); rintro _ W3 ⟨rfl, h3⟩)
    clear h2
    have hB := h3.below
    clear h3
    go_wp2_with fail
    go_ret
    exact .mk (by first | rfl | simp) hB
  replace c5 : 0 ≤ at_ := by omega
  rcases Decidable.em (nodes ≤ at_) with c6 | c6
  · have c7 : decide (at_ < nodes) = false := by simpa using c6
    have k : (false = true) ∨ 16 < from_.size ∨ 16 < to.size ∨ most < 1 ∨ 40 < most ∨ at_ < 0 ∨ nodes ≤ at_ := by omega
    go_enter Try.func9, Try.ntmps9
    go_wp2_with (first | (go_at_call 27; ((with_reducible refine (scanAlive_any _).mono ?_)); rintro _ _ ⟨rfl, u, rfl⟩; (try (rw [Fut.put_self u (by first | assumption | (simp [go_sem]; done) | (simp [go_sem]; omega))]))) | (((with_reducible refine wp_region_fut_lit (by kernel_rfl) (by kernel_rfl) ?_)); (repeat (go_big_quiet_step ((first | (go_at_call 27; with_reducible exact Calls.fut_of (scanAlive_any _)))))); ((with_reducible refine wpQuiet_nil ?_)); rintro _ ⟨u, rfl⟩; (try (rw [Fut.put_self u (by first | assumption | (simp [go_sem]; done) | (simp [go_sem]; omega))]))))
    (((with_reducible refine (new_is 9 nodes (by omega) (by omega) ⟨w, fun _ => none⟩ (hid fun _ => rfl) _ (by repeat' (first | exact Below.refl _ _ | with_reducible assumption | with_reducible refine below_put_fut ?_ ?_ _ | with_reducible refine below_to_put ?_ | with_reducible refine Below.alloc ?_ ?_ _ | with_reducible refine Below.fut ?_ ?_ _ | with_reducible refine Below.drew ?_ | with_reducible refine Below.setCell ?_ ?_ _ | with_reducible refine Below.atPut ?_ ?_ _ | (simp [go_sem]; done) | (simp [go_sem]; omega)))).mono ?_)); rintro _ W1 ⟨g, rfl, h1⟩)
    go_wp2_with fail
    have K := hid k
    clear k
    (((with_reducible refine (start_no _ _ _ _ _ _ _ h1 _ _ _ _ K.out).mono ?_)); rintro _ W2 ⟨rfl, h2⟩)
    clear h1
    go_wp2_with fail
    (((with_reducible refine (start_no _ _ _ _ _ _ _ h2 _ _ _ _ K.out).mono ?_)); rintro _ W3 ⟨rfl, h3⟩)
    clear h2
    have hB := h3.below
    clear h3
    go_wp2_with fail
    go_ret
    exact .mk (by first | rfl | simp) hB
  replace c6 : at_ < nodes := by omega
  go_enter Try.func9, Try.ntmps9
  go_wp2_with (first | (go_at_call 27; ((with_reducible refine (scanAlive_any _).mono ?_)); rintro _ _ ⟨rfl, u, rfl⟩; (try (rw [Fut.put_self u (by first | assumption | (simp [go_sem]; done) | (simp [go_sem]; omega))]))) | (((with_reducible refine wp_region_fut_lit (by kernel_rfl) (by kernel_rfl) ?_)); (repeat (go_big_quiet_step ((first | (go_at_call 27; with_reducible exact Calls.fut_of (scanAlive_any _)))))); ((with_reducible refine wpQuiet_nil ?_)); rintro _ ⟨u, rfl⟩; (try (rw [Fut.put_self u (by first | assumption | (simp [go_sem]; done) | (simp [go_sem]; omega))]))))
  (((with_reducible refine (new_is 9 nodes (by omega) (by omega) ⟨w, fun _ => none⟩ (hid fun _ => rfl) _ (by repeat' (first | exact Below.refl _ _ | with_reducible assumption | with_reducible refine below_put_fut ?_ ?_ _ | with_reducible refine below_to_put ?_ | with_reducible refine Below.alloc ?_ ?_ _ | with_reducible refine Below.fut ?_ ?_ _ | with_reducible refine Below.drew ?_ | with_reducible refine Below.setCell ?_ ?_ _ | with_reducible refine Below.atPut ?_ ?_ _ | (simp [go_sem]; done) | (simp [go_sem]; omega)))).mono ?_)); rintro _ W1 ⟨g, rfl, h1⟩)
  go_wp2_with fail
  (((with_reducible refine (start_is _ _ _ _ _ _ _ h1 rfl _ _ most at_ c1 c2 c3 c4 c5 c6 (show (0 : Int) ≤ 30000 by decide) (show (30000 : Int) < 1000000 by decide)).mono ?_)); rintro _ W2 ⟨L, rfl, hL, h2⟩)
  have h3 := h2.learn hL
  clear h1 h2
  go_wp2_with fail
  (((with_reducible refine (start_no _ _ _ _ _ _ _ h3 _ _ _ _ (.inl rfl)).mono ?_)); rintro _ W3 ⟨rfl, h4⟩)
  have c2 := (h4.keepLetter (Base.with_self _ _ _) hL.base).cell
  have hB := h4.below
  clear h4 h3 hL
  go_wp2_with fail
  go_ret
  exact .mk (by first | rfl | simp) hB
set_option maxRecDepth 100000 in
theorem scanMay_lifted (os : Os) (started : os.Started) (H : Type) (enc : TypeId × Value → H) :
    ReturnsInHanded {} Try.checked os 9 .any (Rows.scanMaySpec.pre6 enc Try.prog Try.f9 Rows.scanMayRow.domain false) (Rows.scanMaySpec.post enc Try.prog Try.f9 false true false false) := by
  refine returnsInHanded_of_change (C := Try.checked) own started (by kernel_rfl) Try.func9
    (ChangeSpec.witness6 (enc := enc) (C := Try.checked) false ⟨#[], #[.string ByteArray.empty, .string ByteArray.empty, .int .i64 0, .int .i64 0, .int .i64 0], []⟩ 8 (by kernel_rfl) (by kernel_rfl) (by kernel_rfl) (by kernel_rfl)) ?_
  intro W base args ds gs before hval0 hW hcnd _
  have hval : ∀ (j : Nat) t v, Try.f9.params[j]? = some t → args[j]? = some v → Value.okWide Try.prog W .any base t v := hval0
  have hW' := hW
  obtain ⟨p, q, hA0, hV, rfl, hfz, hnd⟩ := hW
  have hA : DataW.TrodAll enc Try.prog W 0 (fun _ => true) true Try.f9.params.toList args.toList ds p := hA0
  rw [Try.params9] at hA hval
  obtain ⟨v0, vs0, d0, ds0, p0, q0, hargs, rfl, rfl, h0, r0⟩ := trodAll_cons hA
  obtain ⟨v1, vs1, d1, ds1, p1, q1, rfl, rfl, rfl, h1, r1⟩ := trodAll_cons r0
  obtain ⟨v2, vs2, d2, ds2, p2, q2, rfl, rfl, rfl, h2, r2⟩ := trodAll_cons r1
  obtain ⟨v3, vs3, d3, ds3, p3, q3, rfl, rfl, rfl, h3, r3⟩ := trodAll_cons r2
  obtain ⟨v4, vs4, d4, ds4, p4, q4, rfl, rfl, rfl, h4, r4⟩ := trodAll_cons r3
  obtain ⟨rfl, rfl, rfl⟩ := trodAll_nil r4
  obtain rfl : args = #[v0, v1, v2, v3, v4] := by cases args; simp_all
  obtain ⟨rfl, rfl⟩ := trodVars_none hV
  have k0 := h0
  have lt0 : ∀ x ∈ p0, x.block < W.heap.size := by obtain ⟨m, hm⟩ := k0; exact DataW.trod_lt m _ _ _ hm
  obtain ⟨a0, rfl, -, -, w0⟩ := open_string Try.underlying9 (hval 0 9 v0 rfl rfl) h0
  have k1 := h1
  have lt1 : ∀ x ∈ p1, x.block < W.heap.size := by obtain ⟨m, hm⟩ := k1; exact DataW.trod_lt m _ _ _ hm
  obtain ⟨a1, rfl, -, -, w1⟩ := open_string Try.underlying9 (hval 1 9 v1 rfl rfl) h1
  have k2 := h2
  have lt2 : ∀ x ∈ p2, x.block < W.heap.size := by obtain ⟨m, hm⟩ := k2; exact DataW.trod_lt m _ _ _ hm
  obtain ⟨a2, rfl, -, -, w2⟩ := open_int Try.underlying3 (hval 2 3 v2 rfl rfl) h2
  have k3 := h3
  have lt3 : ∀ x ∈ p3, x.block < W.heap.size := by obtain ⟨m, hm⟩ := k3; exact DataW.trod_lt m _ _ _ hm
  obtain ⟨a3, rfl, -, -, w3⟩ := open_int Try.underlying3 (hval 3 3 v3 rfl rfl) h3
  have k4 := h4
  have lt4 : ∀ x ∈ p4, x.block < W.heap.size := by obtain ⟨m, hm⟩ := k4; exact DataW.trod_lt m _ _ _ hm
  obtain ⟨a4, rfl, -, -, w4⟩ := open_int Try.underlying3 (hval 4 3 v4 rfl rfl) h4
  clear hA0 hval0
  refine (scanMay_walk a0 w0 a1 w1 a2 w2 a3 w3 a4 w4 W).mono fun e W' ⟨he, u, hu⟩ => ?_
  subst he; subst hu
  have bel := u.below
  exact ⟨_, rfl, _, _, _, [], _, [], hW', trodAll_mk1 (shut_bool Try.underlying4 _), (trodAll_cons_mk (Below.trod laidOut (by kernel_rfl) (of_decide_eq_true (by kernel_rfl)) k0 bel lt0) (trodAll_cons_mk (Below.trod laidOut (by kernel_rfl) (of_decide_eq_true (by kernel_rfl)) k1 bel lt1) (trodAll_cons_mk (Below.trod laidOut (by kernel_rfl) (of_decide_eq_true (by kernel_rfl)) k2 bel lt2) (trodAll_cons_mk (Below.trod laidOut (by kernel_rfl) (of_decide_eq_true (by kernel_rfl)) k3 bel lt3) (trodAll_cons_mk (Below.trod laidOut (by kernel_rfl) (of_decide_eq_true (by kernel_rfl)) k4 bel lt4) trodAll_mk0))))), rfl, bel.frame _, fun h => by cases h⟩
/-- The statement. -/
theorem scanMay_holds : Rows.ScanMaySaid :=
  OpenClaim.holds_of_wide 9 Try.f9 rfl rfl rfl rfl rfl rfl rfl ⟨rfl, rfl, rfl, rfl, rfl⟩ rfl rfl rfl rfl rfl (by kernel_rfl) Try.func9 (by kernel_rfl)
    (of_decide_eq_true (by kernel_rfl)) (by unfold Func.isWrapper; first | (rw [if_pos (by decide +kernel)]; kernel_rfl) | (rw [if_neg (by decide +kernel)]; exact ⟨rfl, rfl⟩))
    (fun os started H enc _ => scanMay_lifted os started H enc)
#print axioms scanMay_holds
end Go.Proofs.Ythgajbfgolcpkaa
