/- ScanRedirects answers true for every text and every numbers, and leaves its arguments as they were. No condition. -/
import Derived.Test.YthgajbfgolcpkaaScan8
import Derived.Test.YthgajbfgolcpkaaFrame
namespace Go.Proofs.Ythgajbfgolcpkaa
open Go.ChangeShapes Go.WideShapes Go.ChangeAt Go.RowKit Go.Joins
open Go.ChangeMaps (open_string shut_string)
set_option linter.unusedVariables false
set_option linter.unusedSimpArgs false
set_option maxRecDepth 100000 in
set_option maxHeartbeats 4000000 in
theorem scanRedirects_zero (from_ : ByteArray) (c : from_.size ≤ 16) (most : Int) (m1 : 1 ≤ most) (m2 : most ≤ 40) (w : World) :
    Calls Try.prog 10 #[.string from_, .int .i64 most, .int .i64 0] w (Makes (.bool true) w) := by
  go_enter Try.func10, Try.ntmps10
  go_wp2_with (first | (go_at_call 27; ((with_reducible refine (scanAlive_any _).mono ?_)); rintro _ _ ⟨rfl, u, rfl⟩; (try (rw [Fut.put_self u (by first | assumption | (simp [go_sem]; done) | (simp [go_sem]; omega))]))) | (((with_reducible refine wp_region_fut_lit (by kernel_rfl) (by kernel_rfl) ?_)); (repeat (go_big_quiet_step ((first | (go_at_call 27; with_reducible exact Calls.fut_of (scanAlive_any _)))))); ((with_reducible refine wpQuiet_nil ?_)); rintro _ ⟨u, rfl⟩; (try (rw [Fut.put_self u (by first | assumption | (simp [go_sem]; done) | (simp [go_sem]; omega))]))))
  (((with_reducible refine (new_is 100 4 (by omega) (by omega) ⟨w, fun _ => none⟩ (hid fun _ => rfl) _ (by repeat' (first | exact Below.refl _ _ | with_reducible assumption | with_reducible refine below_put_fut ?_ ?_ _ | with_reducible refine below_to_put ?_ | with_reducible refine Below.alloc ?_ ?_ _ | with_reducible refine Below.fut ?_ ?_ _ | with_reducible refine Below.drew ?_ | with_reducible refine Below.setCell ?_ ?_ _ | with_reducible refine Below.atPut ?_ ?_ _ | (simp [go_sem]; done) | (simp [go_sem]; omega)))).mono ?_)); rintro _ W1 ⟨g, rfl, h1⟩)
  go_wp2_with fail
  (((with_reducible refine (start_is _ _ _ _ _ _ _ h1 rfl _ _ most 0 c (by decide) m1 m2 (by omega) (show (0 : Int) < 4 by decide) (show (0 : Int) ≤ 30000 by decide) (show (30000 : Int) < 1000000 by decide)).mono ?_)); rintro _ W2 ⟨L, rfl, hL, h2⟩)
  simp only [show (30000 : Int) + 1 = 30001 from rfl] at hL h2
  have h3 := h2.learn hL
  clear h1 h2
  go_wp2_with fail
  (((with_reducible refine (got_round _ _ _ _ _ _ _ (h3.on (by repeat' (first | exact Below.refl _ _ | with_reducible assumption | with_reducible refine below_put_fut ?_ ?_ _ | with_reducible refine below_to_put ?_ | with_reducible refine Below.alloc ?_ ?_ _ | with_reducible refine Below.fut ?_ ?_ _ | with_reducible refine Below.drew ?_ | with_reducible refine Below.setCell ?_ ?_ _ | with_reducible refine Below.atPut ?_ ?_ _ | (simp [go_sem]; done) | (simp [go_sem]; omega)))) rfl rfl ⟨100, 0, ⟨#[]⟩, ⟨#[]⟩, ⟨#[]⟩, 0, 8, ⟨#[]⟩, .slice none 0 0, false, ⟨#[]⟩, 0, 0, 0, 0, .slice none 0 0, 0, 0⟩ rfl (show (1 : Int) < 8 by decide) (show (0 : Int) ≤ 1 by decide) (.inr (.inr ⟨show (0 : Int) ≤ 0 by decide, show (0 : Int) < 4 by decide, rfl⟩)) (show (1 : Int) ≤ 4 by decide) (show (0 : Int) ≤ 0 by decide) (show (0 : Int) < 100 by decide) (show (0 : Int) ≤ 30001 by decide) (show (30001 : Int) < 1000000 by decide)).mono ?_)); rintro _ W3 ⟨L2, rfl, hL2, h4⟩)
  simp only [show (30001 : Int) + 1 = 30002 from rfl, show (1 : Int) + 1 = 2 from rfl, show ((0 : Int) + 1) % 4 = 1 from rfl] at hL2 h4
  have c2 := hL2.cell
  have l2 := lt_of_heap hL2.heap
  have c1 := (h4.keepLetter (Base.with_self _ _ _) hL.base).cell
  have l1 := lt_of_heap (h4.keepLetter (Base.with_self _ _ _) hL.base).heap
  go_wp2_with (first | (((with_reducible refine wp_region_fut_lit (by kernel_rfl) (by kernel_rfl) ?_)); (repeat (go_big_quiet_step (fail))); ((with_reducible refine wpQuiet_nil ?_)); rintro _ ⟨u3, rfl⟩))
  clear c1 c2 l1 l2
  (((with_reducible refine (got_last _ _ _ _ _ _ _ (h4.on (by exact u3.below)) rfl rfl ⟨100, 0, ⟨#[]⟩, ⟨#[]⟩, ⟨#[]⟩, 0, 0, ⟨#[]⟩, .slice none 0 0, false, ⟨#[]⟩, 0, 0, 0, 0, .slice none 0 0, 0, 0⟩ rfl rfl 0 [] (Src.nil _ _) (by omega) (by omega) (by simp only []; omega)).mono ?_)); rintro _ W4 ⟨v4, rfl, h6⟩)
  go_wp2_with fail
  (((with_reducible refine (result_is _ _ _ _ _ _ _ h6 rfl (by omega) (by simp)).mono ?_)); rintro _ W5 ⟨ao, cc, rfl, hO, h7⟩)
  have hB := h7.below
  clear h7 h6 h4 hL hL2 hO
  go_wp2_with fail
  go_ret
  exact .mk (by first | rfl | simp) hB
set_option maxRecDepth 100000 in
set_option maxHeartbeats 4000000 in
theorem scanRedirects_1 (from_ : ByteArray) (c : from_.size ≤ 16) (most : Int) (m1 : 1 ≤ most) (m2 : most ≤ 40) (w : World) :
    Calls Try.prog 10 #[.string from_, .int .i64 most, .int .i64 1] w (Makes (.bool true) w) := by
  go_enter Try.func10, Try.ntmps10
  go_wp2_with (first | (go_at_call 27; ((with_reducible refine (scanAlive_any _).mono ?_)); rintro _ _ ⟨rfl, u, rfl⟩; (try (rw [Fut.put_self u (by first | assumption | (simp [go_sem]; done) | (simp [go_sem]; omega))]))) | (((with_reducible refine wp_region_fut_lit (by kernel_rfl) (by kernel_rfl) ?_)); (repeat (go_big_quiet_step ((first | (go_at_call 27; with_reducible exact Calls.fut_of (scanAlive_any _)))))); ((with_reducible refine wpQuiet_nil ?_)); rintro _ ⟨u, rfl⟩; (try (rw [Fut.put_self u (by first | assumption | (simp [go_sem]; done) | (simp [go_sem]; omega))]))))
  (((with_reducible refine (new_is 100 4 (by omega) (by omega) ⟨w, fun _ => none⟩ (hid fun _ => rfl) _ (by repeat' (first | exact Below.refl _ _ | with_reducible assumption | with_reducible refine below_put_fut ?_ ?_ _ | with_reducible refine below_to_put ?_ | with_reducible refine Below.alloc ?_ ?_ _ | with_reducible refine Below.fut ?_ ?_ _ | with_reducible refine Below.drew ?_ | with_reducible refine Below.setCell ?_ ?_ _ | with_reducible refine Below.atPut ?_ ?_ _ | (simp [go_sem]; done) | (simp [go_sem]; omega)))).mono ?_)); rintro _ W1 ⟨g, rfl, h1⟩)
  go_wp2_with fail
  (((with_reducible refine (start_is _ _ _ _ _ _ _ h1 rfl _ _ most 0 c (by decide) m1 m2 (by omega) (show (0 : Int) < 4 by decide) (show (0 : Int) ≤ 30000 by decide) (show (30000 : Int) < 1000000 by decide)).mono ?_)); rintro _ W2 ⟨L, rfl, hL, h2⟩)
  simp only [show (30000 : Int) + 1 = 30001 from rfl] at hL h2
  have h3 := h2.learn hL
  clear h1 h2
  go_wp2_with fail
  (((with_reducible refine (got_else _ _ _ _ _ _ _ (h3.on (by repeat' (first | exact Below.refl _ _ | with_reducible assumption | with_reducible refine below_put_fut ?_ ?_ _ | with_reducible refine below_to_put ?_ | with_reducible refine Below.alloc ?_ ?_ _ | with_reducible refine Below.fut ?_ ?_ _ | with_reducible refine Below.drew ?_ | with_reducible refine Below.setCell ?_ ?_ _ | with_reducible refine Below.atPut ?_ ?_ _ | (simp [go_sem]; done) | (simp [go_sem]; omega)))) rfl rfl ⟨100, 0, ⟨#[]⟩, ⟨#[]⟩, ⟨#[]⟩, 0, 8, ⟨#[]⟩, .slice none 0 0, false, ⟨#[]⟩, 1, 0, 0, 0, .slice none 0 0, 0, 0⟩ rfl (show (1 : Int) < 8 by decide) (show (0 : Int) ≤ 1 by decide) (show (0 : Int) ≤ 1 by decide) (show (1 : Int) < 4 by decide) (show ((1 : Int) == 0) = false by decide) (show ((1 : Int) != 0) = true by decide) (show (0 : Int) ≤ 30001 by decide) (show (30001 : Int) < 1000000 by decide)).mono ?_)); rintro _ W3 ⟨L2, rfl, hL2, h4⟩)
  simp only [show (30001 : Int) + 1 = 30002 from rfl, show (1 : Int) + 1 = 2 from rfl, show ((0 : Int) + 1) % 4 = 1 from rfl] at hL2 h4
  have c2 := hL2.cell
  have l2 := lt_of_heap hL2.heap
  have c1 := (h4.keepLetter (Base.with_self _ _ _) hL.base).cell
  have l1 := lt_of_heap (h4.keepLetter (Base.with_self _ _ _) hL.base).heap
  go_wp2_with (first | (((with_reducible refine wp_region_fut_lit (by kernel_rfl) (by kernel_rfl) ?_)); (repeat (go_big_quiet_step (fail))); ((with_reducible refine wpQuiet_nil ?_)); rintro _ ⟨u3, rfl⟩))
  clear c1 c2 l1 l2
  (((with_reducible refine (got_last _ _ _ _ _ _ _ (h4.on (by exact u3.below)) rfl rfl ⟨100, 0, ⟨#[]⟩, ⟨#[]⟩, ⟨#[]⟩, 0, 0, ⟨#[]⟩, .slice none 0 0, false, ⟨#[]⟩, 0, 0, 0, 0, .slice none 0 0, 0, 0⟩ rfl rfl 0 [] (Src.nil _ _) (by omega) (by omega) (by simp only []; omega)).mono ?_)); rintro _ W4 ⟨v4, rfl, h6⟩)
  go_wp2_with fail
  (((with_reducible refine (result_is _ _ _ _ _ _ _ h6 rfl (by omega) (by simp)).mono ?_)); rintro _ W5 ⟨ao, cc, rfl, hO, h7⟩)
  have hB := h7.below
  clear h7 h6 h4 hL hL2 hO
  go_wp2_with fail
  go_ret
  exact .mk (by first | rfl | simp) hB
set_option maxRecDepth 100000 in
set_option maxHeartbeats 4000000 in
theorem scanRedirects_2 (from_ : ByteArray) (c : from_.size ≤ 16) (most : Int) (m1 : 1 ≤ most) (m2 : most ≤ 40) (w : World) :
    Calls Try.prog 10 #[.string from_, .int .i64 most, .int .i64 2] w (Makes (.bool true) w) := by
  go_enter Try.func10, Try.ntmps10
  go_wp2_with (first | (go_at_call 27; ((with_reducible refine (scanAlive_any _).mono ?_)); rintro _ _ ⟨rfl, u, rfl⟩; (try (rw [Fut.put_self u (by first | assumption | (simp [go_sem]; done) | (simp [go_sem]; omega))]))) | (((with_reducible refine wp_region_fut_lit (by kernel_rfl) (by kernel_rfl) ?_)); (repeat (go_big_quiet_step ((first | (go_at_call 27; with_reducible exact Calls.fut_of (scanAlive_any _)))))); ((with_reducible refine wpQuiet_nil ?_)); rintro _ ⟨u, rfl⟩; (try (rw [Fut.put_self u (by first | assumption | (simp [go_sem]; done) | (simp [go_sem]; omega))]))))
  (((with_reducible refine (new_is 100 4 (by omega) (by omega) ⟨w, fun _ => none⟩ (hid fun _ => rfl) _ (by repeat' (first | exact Below.refl _ _ | with_reducible assumption | with_reducible refine below_put_fut ?_ ?_ _ | with_reducible refine below_to_put ?_ | with_reducible refine Below.alloc ?_ ?_ _ | with_reducible refine Below.fut ?_ ?_ _ | with_reducible refine Below.drew ?_ | with_reducible refine Below.setCell ?_ ?_ _ | with_reducible refine Below.atPut ?_ ?_ _ | (simp [go_sem]; done) | (simp [go_sem]; omega)))).mono ?_)); rintro _ W1 ⟨g, rfl, h1⟩)
  go_wp2_with fail
  (((with_reducible refine (start_is _ _ _ _ _ _ _ h1 rfl _ _ most 0 c (by decide) m1 m2 (by omega) (show (0 : Int) < 4 by decide) (show (0 : Int) ≤ 30000 by decide) (show (30000 : Int) < 1000000 by decide)).mono ?_)); rintro _ W2 ⟨L, rfl, hL, h2⟩)
  simp only [show (30000 : Int) + 1 = 30001 from rfl] at hL h2
  have h3 := h2.learn hL
  clear h1 h2
  go_wp2_with fail
  (((with_reducible refine (got_else _ _ _ _ _ _ _ (h3.on (by repeat' (first | exact Below.refl _ _ | with_reducible assumption | with_reducible refine below_put_fut ?_ ?_ _ | with_reducible refine below_to_put ?_ | with_reducible refine Below.alloc ?_ ?_ _ | with_reducible refine Below.fut ?_ ?_ _ | with_reducible refine Below.drew ?_ | with_reducible refine Below.setCell ?_ ?_ _ | with_reducible refine Below.atPut ?_ ?_ _ | (simp [go_sem]; done) | (simp [go_sem]; omega)))) rfl rfl ⟨100, 0, ⟨#[]⟩, ⟨#[]⟩, ⟨#[]⟩, 0, 8, ⟨#[]⟩, .slice none 0 0, false, ⟨#[]⟩, 2, 0, 0, 0, .slice none 0 0, 0, 0⟩ rfl (show (1 : Int) < 8 by decide) (show (0 : Int) ≤ 1 by decide) (show (0 : Int) ≤ 2 by decide) (show (2 : Int) < 4 by decide) (show ((2 : Int) == 0) = false by decide) (show ((2 : Int) != 0) = true by decide) (show (0 : Int) ≤ 30001 by decide) (show (30001 : Int) < 1000000 by decide)).mono ?_)); rintro _ W3 ⟨L2, rfl, hL2, h4⟩)
  simp only [show (30001 : Int) + 1 = 30002 from rfl, show (1 : Int) + 1 = 2 from rfl, show ((0 : Int) + 1) % 4 = 1 from rfl] at hL2 h4
  have c2 := hL2.cell
  have l2 := lt_of_heap hL2.heap
  have c1 := (h4.keepLetter (Base.with_self _ _ _) hL.base).cell
  have l1 := lt_of_heap (h4.keepLetter (Base.with_self _ _ _) hL.base).heap
  go_wp2_with (first | (((with_reducible refine wp_region_fut_lit (by kernel_rfl) (by kernel_rfl) ?_)); (repeat (go_big_quiet_step (fail))); ((with_reducible refine wpQuiet_nil ?_)); rintro _ ⟨u3, rfl⟩))
  clear c1 c2 l1 l2
  (((with_reducible refine (got_last _ _ _ _ _ _ _ (h4.on (by exact u3.below)) rfl rfl ⟨100, 0, ⟨#[]⟩, ⟨#[]⟩, ⟨#[]⟩, 0, 0, ⟨#[]⟩, .slice none 0 0, false, ⟨#[]⟩, 0, 0, 0, 0, .slice none 0 0, 0, 0⟩ rfl rfl 0 [] (Src.nil _ _) (by omega) (by omega) (by simp only []; omega)).mono ?_)); rintro _ W4 ⟨v4, rfl, h6⟩)
  go_wp2_with fail
  (((with_reducible refine (result_is _ _ _ _ _ _ _ h6 rfl (by omega) (by simp)).mono ?_)); rintro _ W5 ⟨ao, cc, rfl, hO, h7⟩)
  have hB := h7.below
  clear h7 h6 h4 hL hL2 hO
  go_wp2_with fail
  go_ret
  exact .mk (by first | rfl | simp) hB
set_option maxRecDepth 100000 in
set_option maxHeartbeats 4000000 in
theorem scanRedirects_3 (from_ : ByteArray) (c : from_.size ≤ 16) (most : Int) (m1 : 1 ≤ most) (m2 : most ≤ 40) (w : World) :
    Calls Try.prog 10 #[.string from_, .int .i64 most, .int .i64 3] w (Makes (.bool true) w) := by
  go_enter Try.func10, Try.ntmps10
  go_wp2_with (first | (go_at_call 27; ((with_reducible refine (scanAlive_any _).mono ?_)); rintro _ _ ⟨rfl, u, rfl⟩; (try (rw [Fut.put_self u (by first | assumption | (simp [go_sem]; done) | (simp [go_sem]; omega))]))) | (((with_reducible refine wp_region_fut_lit (by kernel_rfl) (by kernel_rfl) ?_)); (repeat (go_big_quiet_step ((first | (go_at_call 27; with_reducible exact Calls.fut_of (scanAlive_any _)))))); ((with_reducible refine wpQuiet_nil ?_)); rintro _ ⟨u, rfl⟩; (try (rw [Fut.put_self u (by first | assumption | (simp [go_sem]; done) | (simp [go_sem]; omega))]))))
  (((with_reducible refine (new_is 100 4 (by omega) (by omega) ⟨w, fun _ => none⟩ (hid fun _ => rfl) _ (by repeat' (first | exact Below.refl _ _ | with_reducible assumption | with_reducible refine below_put_fut ?_ ?_ _ | with_reducible refine below_to_put ?_ | with_reducible refine Below.alloc ?_ ?_ _ | with_reducible refine Below.fut ?_ ?_ _ | with_reducible refine Below.drew ?_ | with_reducible refine Below.setCell ?_ ?_ _ | with_reducible refine Below.atPut ?_ ?_ _ | (simp [go_sem]; done) | (simp [go_sem]; omega)))).mono ?_)); rintro _ W1 ⟨g, rfl, h1⟩)
  go_wp2_with fail
  (((with_reducible refine (start_is _ _ _ _ _ _ _ h1 rfl _ _ most 0 c (by decide) m1 m2 (by omega) (show (0 : Int) < 4 by decide) (show (0 : Int) ≤ 30000 by decide) (show (30000 : Int) < 1000000 by decide)).mono ?_)); rintro _ W2 ⟨L, rfl, hL, h2⟩)
  simp only [show (30000 : Int) + 1 = 30001 from rfl] at hL h2
  have h3 := h2.learn hL
  clear h1 h2
  go_wp2_with fail
  (((with_reducible refine (got_else _ _ _ _ _ _ _ (h3.on (by repeat' (first | exact Below.refl _ _ | with_reducible assumption | with_reducible refine below_put_fut ?_ ?_ _ | with_reducible refine below_to_put ?_ | with_reducible refine Below.alloc ?_ ?_ _ | with_reducible refine Below.fut ?_ ?_ _ | with_reducible refine Below.drew ?_ | with_reducible refine Below.setCell ?_ ?_ _ | with_reducible refine Below.atPut ?_ ?_ _ | (simp [go_sem]; done) | (simp [go_sem]; omega)))) rfl rfl ⟨100, 0, ⟨#[]⟩, ⟨#[]⟩, ⟨#[]⟩, 0, 8, ⟨#[]⟩, .slice none 0 0, false, ⟨#[]⟩, 3, 0, 0, 0, .slice none 0 0, 0, 0⟩ rfl (show (1 : Int) < 8 by decide) (show (0 : Int) ≤ 1 by decide) (show (0 : Int) ≤ 3 by decide) (show (3 : Int) < 4 by decide) (show ((3 : Int) == 0) = false by decide) (show ((3 : Int) != 0) = true by decide) (show (0 : Int) ≤ 30001 by decide) (show (30001 : Int) < 1000000 by decide)).mono ?_)); rintro _ W3 ⟨L2, rfl, hL2, h4⟩)
  simp only [show (30001 : Int) + 1 = 30002 from rfl, show (1 : Int) + 1 = 2 from rfl, show ((0 : Int) + 1) % 4 = 1 from rfl] at hL2 h4
  have c2 := hL2.cell
  have l2 := lt_of_heap hL2.heap
  have c1 := (h4.keepLetter (Base.with_self _ _ _) hL.base).cell
  have l1 := lt_of_heap (h4.keepLetter (Base.with_self _ _ _) hL.base).heap
  go_wp2_with (first | (((with_reducible refine wp_region_fut_lit (by kernel_rfl) (by kernel_rfl) ?_)); (repeat (go_big_quiet_step (fail))); ((with_reducible refine wpQuiet_nil ?_)); rintro _ ⟨u3, rfl⟩))
  clear c1 c2 l1 l2
  (((with_reducible refine (got_last _ _ _ _ _ _ _ (h4.on (by exact u3.below)) rfl rfl ⟨100, 0, ⟨#[]⟩, ⟨#[]⟩, ⟨#[]⟩, 0, 0, ⟨#[]⟩, .slice none 0 0, false, ⟨#[]⟩, 0, 0, 0, 0, .slice none 0 0, 0, 0⟩ rfl rfl 0 [] (Src.nil _ _) (by omega) (by omega) (by simp only []; omega)).mono ?_)); rintro _ W4 ⟨v4, rfl, h6⟩)
  go_wp2_with fail
  (((with_reducible refine (result_is _ _ _ _ _ _ _ h6 rfl (by omega) (by simp)).mono ?_)); rintro _ W5 ⟨ao, cc, rfl, hO, h7⟩)
  have hB := h7.below
  clear h7 h6 h4 hL hL2 hO
  go_wp2_with fail
  go_ret
  exact .mk (by first | rfl | simp) hB
set_option maxRecDepth 100000 in
set_option maxHeartbeats 4000000 in
theorem scanRedirects_walk (from_ : ByteArray) (sf : from_.size ≤ maxLen) (most : Int) (wm : (Lit.int .i64 most).wf = true) (to : Int) (wt : (Lit.int .i64 to).wf = true) (w : World) :
    Calls Try.prog 10 #[.string from_, .int .i64 most, .int .i64 to] w (Makes (.bool true) w) := by
  clear wm wt sf
  rcases Nat.lt_or_ge 16 from_.size with c | c
  · go_enter Try.func10, Try.ntmps10
    go_wp2_with (first | (go_at_call 27; ((with_reducible refine (scanAlive_any _).mono ?_)); rintro _ _ ⟨rfl, u, rfl⟩; (try (rw [Fut.put_self u (by first | assumption | (simp [go_sem]; done) | (simp [go_sem]; omega))]))) | (((with_reducible refine wp_region_fut_lit (by kernel_rfl) (by kernel_rfl) ?_)); (repeat (go_big_quiet_step ((first | (go_at_call 27; with_reducible exact Calls.fut_of (scanAlive_any _)))))); ((with_reducible refine wpQuiet_nil ?_)); rintro _ ⟨u, rfl⟩; (try (rw [Fut.put_self u (by first | assumption | (simp [go_sem]; done) | (simp [go_sem]; omega))]))))
    go_ret; exact .mk (by first | rfl | (simp; done) | (simp; omega)) (by repeat' (first | exact Below.refl _ _ | with_reducible assumption | with_reducible refine below_put_fut ?_ ?_ _ | with_reducible refine below_to_put ?_ | with_reducible refine Below.alloc ?_ ?_ _ | with_reducible refine Below.fut ?_ ?_ _ | with_reducible refine Below.drew ?_ | with_reducible refine Below.setCell ?_ ?_ _ | with_reducible refine Below.atPut ?_ ?_ _ | (simp [go_sem]; done) | (simp [go_sem]; omega)))
  rcases Decidable.em (most < 1) with m1 | m1
  · go_enter Try.func10, Try.ntmps10
    go_wp2_with (first | (go_at_call 27; ((with_reducible refine (scanAlive_any _).mono ?_)); rintro _ _ ⟨rfl, u, rfl⟩; (try (rw [Fut.put_self u (by first | assumption | (simp [go_sem]; done) | (simp [go_sem]; omega))]))) | (((with_reducible refine wp_region_fut_lit (by kernel_rfl) (by kernel_rfl) ?_)); (repeat (go_big_quiet_step ((first | (go_at_call 27; with_reducible exact Calls.fut_of (scanAlive_any _)))))); ((with_reducible refine wpQuiet_nil ?_)); rintro _ ⟨u, rfl⟩; (try (rw [Fut.put_self u (by first | assumption | (simp [go_sem]; done) | (simp [go_sem]; omega))]))))
    go_ret; exact .mk (by first | rfl | (simp; done) | (simp; omega)) (by repeat' (first | exact Below.refl _ _ | with_reducible assumption | with_reducible refine below_put_fut ?_ ?_ _ | with_reducible refine below_to_put ?_ | with_reducible refine Below.alloc ?_ ?_ _ | with_reducible refine Below.fut ?_ ?_ _ | with_reducible refine Below.drew ?_ | with_reducible refine Below.setCell ?_ ?_ _ | with_reducible refine Below.atPut ?_ ?_ _ | (simp [go_sem]; done) | (simp [go_sem]; omega)))
  replace m1 : 1 ≤ most := by omega
  rcases Decidable.em (40 < most) with m2 | m2
  · go_enter Try.func10, Try.ntmps10
    go_wp2_with (first | (go_at_call 27; ((with_reducible refine (scanAlive_any _).mono ?_)); rintro _ _ ⟨rfl, u, rfl⟩; (try (rw [Fut.put_self u (by first | assumption | (simp [go_sem]; done) | (simp [go_sem]; omega))]))) | (((with_reducible refine wp_region_fut_lit (by kernel_rfl) (by kernel_rfl) ?_)); (repeat (go_big_quiet_step ((first | (go_at_call 27; with_reducible exact Calls.fut_of (scanAlive_any _)))))); ((with_reducible refine wpQuiet_nil ?_)); rintro _ ⟨u, rfl⟩; (try (rw [Fut.put_self u (by first | assumption | (simp [go_sem]; done) | (simp [go_sem]; omega))]))))
    go_ret; exact .mk (by first | rfl | (simp; done) | (simp; omega)) (by repeat' (first | exact Below.refl _ _ | with_reducible assumption | with_reducible refine below_put_fut ?_ ?_ _ | with_reducible refine below_to_put ?_ | with_reducible refine Below.alloc ?_ ?_ _ | with_reducible refine Below.fut ?_ ?_ _ | with_reducible refine Below.drew ?_ | with_reducible refine Below.setCell ?_ ?_ _ | with_reducible refine Below.atPut ?_ ?_ _ | (simp [go_sem]; done) | (simp [go_sem]; omega)))
  replace m2 : most ≤ 40 := by omega
  rcases Decidable.em (to < 0) with t1 | t1
  · go_enter Try.func10, Try.ntmps10
    go_wp2_with (first | (go_at_call 27; ((with_reducible refine (scanAlive_any _).mono ?_)); rintro _ _ ⟨rfl, u, rfl⟩; (try (rw [Fut.put_self u (by first | assumption | (simp [go_sem]; done) | (simp [go_sem]; omega))]))) | (((with_reducible refine wp_region_fut_lit (by kernel_rfl) (by kernel_rfl) ?_)); (repeat (go_big_quiet_step ((first | (go_at_call 27; with_reducible exact Calls.fut_of (scanAlive_any _)))))); ((with_reducible refine wpQuiet_nil ?_)); rintro _ ⟨u, rfl⟩; (try (rw [Fut.put_self u (by first | assumption | (simp [go_sem]; done) | (simp [go_sem]; omega))]))))
    go_ret; exact .mk (by first | rfl | (simp; done) | (simp; omega)) (by repeat' (first | exact Below.refl _ _ | with_reducible assumption | with_reducible refine below_put_fut ?_ ?_ _ | with_reducible refine below_to_put ?_ | with_reducible refine Below.alloc ?_ ?_ _ | with_reducible refine Below.fut ?_ ?_ _ | with_reducible refine Below.drew ?_ | with_reducible refine Below.setCell ?_ ?_ _ | with_reducible refine Below.atPut ?_ ?_ _ | (simp [go_sem]; done) | (simp [go_sem]; omega)))
  replace t1 : 0 ≤ to := by omega
  rcases Decidable.em (3 < to) with t2 | t2
  · go_enter Try.func10, Try.ntmps10
    go_wp2_with (first | (go_at_call 27; ((with_reducible refine (scanAlive_any _).mono ?_)); rintro _ _ ⟨rfl, u, rfl⟩; (try (rw [Fut.put_self u (by first | assumption | (simp [go_sem]; done) | (simp [go_sem]; omega))]))) | (((with_reducible refine wp_region_fut_lit (by kernel_rfl) (by kernel_rfl) ?_)); (repeat (go_big_quiet_step ((first | (go_at_call 27; with_reducible exact Calls.fut_of (scanAlive_any _)))))); ((with_reducible refine wpQuiet_nil ?_)); rintro _ ⟨u, rfl⟩; (try (rw [Fut.put_self u (by first | assumption | (simp [go_sem]; done) | (simp [go_sem]; omega))]))))
    go_ret; exact .mk (by first | rfl | (simp; done) | (simp; omega)) (by repeat' (first | exact Below.refl _ _ | with_reducible assumption | with_reducible refine below_put_fut ?_ ?_ _ | with_reducible refine below_to_put ?_ | with_reducible refine Below.alloc ?_ ?_ _ | with_reducible refine Below.fut ?_ ?_ _ | with_reducible refine Below.drew ?_ | with_reducible refine Below.setCell ?_ ?_ _ | with_reducible refine Below.atPut ?_ ?_ _ | (simp [go_sem]; done) | (simp [go_sem]; omega)))
  have : to = 0 ∨ to = 1 ∨ to = 2 ∨ to = 3 := by omega
  rcases this with rfl | rfl | rfl | rfl
  · exact scanRedirects_zero from_ c most m1 m2 w
  · exact scanRedirects_1 from_ c most m1 m2 w
  · exact scanRedirects_2 from_ c most m1 m2 w
  · exact scanRedirects_3 from_ c most m1 m2 w
set_option maxRecDepth 100000 in
theorem scanRedirects_lifted (os : Os) (started : os.Started) (H : Type) (enc : TypeId × Value → H) :
    ReturnsInHanded {} Try.checked os 10 .any (Rows.scanRedirectsSpec.pre6 enc Try.prog Try.f10 Rows.scanRedirectsRow.domain false) (Rows.scanRedirectsSpec.post enc Try.prog Try.f10 false true false false) := by
  refine returnsInHanded_of_change (C := Try.checked) own started (by kernel_rfl) Try.func10
    (ChangeSpec.witness6 (enc := enc) (C := Try.checked) false ⟨#[], #[.string ByteArray.empty, .int .i64 0, .int .i64 0], []⟩ 8 (by kernel_rfl) (by kernel_rfl) (by kernel_rfl) (by kernel_rfl)) ?_
  intro W base args ds gs before hval0 hW hcnd _
  have hval : ∀ (j : Nat) t v, Try.f10.params[j]? = some t → args[j]? = some v → Value.okWide Try.prog W .any base t v := hval0
  have hW' := hW
  obtain ⟨p, q, hA0, hV, rfl, hfz, hnd⟩ := hW
  have hA : DataW.TrodAll enc Try.prog W 0 (fun _ => true) true Try.f10.params.toList args.toList ds p := hA0
  rw [Try.params10] at hA hval
  obtain ⟨v0, vs0, d0, ds0, p0, q0, hargs, rfl, rfl, h0, r0⟩ := trodAll_cons hA
  obtain ⟨v1, vs1, d1, ds1, p1, q1, rfl, rfl, rfl, h1, r1⟩ := trodAll_cons r0
  obtain ⟨v2, vs2, d2, ds2, p2, q2, rfl, rfl, rfl, h2, r2⟩ := trodAll_cons r1
  obtain ⟨rfl, rfl, rfl⟩ := trodAll_nil r2
  obtain rfl : args = #[v0, v1, v2] := by cases args; simp_all
  obtain ⟨rfl, rfl⟩ := trodVars_none hV
  have k0 := h0
  have lt0 : ∀ x ∈ p0, x.block < W.heap.size := by obtain ⟨m, hm⟩ := k0; exact DataW.trod_lt m _ _ _ hm
  obtain ⟨a0, rfl, -, -, w0⟩ := open_string Try.underlying9 (hval 0 9 v0 rfl rfl) h0
  have k1 := h1
  have lt1 : ∀ x ∈ p1, x.block < W.heap.size := by obtain ⟨m, hm⟩ := k1; exact DataW.trod_lt m _ _ _ hm
  obtain ⟨a1, rfl, -, -, w1⟩ := open_int Try.underlying3 (hval 1 3 v1 rfl rfl) h1
  have k2 := h2
  have lt2 : ∀ x ∈ p2, x.block < W.heap.size := by obtain ⟨m, hm⟩ := k2; exact DataW.trod_lt m _ _ _ hm
  obtain ⟨a2, rfl, -, -, w2⟩ := open_int Try.underlying3 (hval 2 3 v2 rfl rfl) h2
  clear hA0 hval0
  refine (scanRedirects_walk a0 w0 a1 w1 a2 w2 W).mono fun e W' ⟨he, u, hu⟩ => ?_
  subst he; subst hu
  have bel := u.below
  exact ⟨_, rfl, _, _, _, [], _, [], hW', trodAll_mk1 (shut_bool Try.underlying4 _), (trodAll_cons_mk (Below.trod laidOut (by kernel_rfl) (of_decide_eq_true (by kernel_rfl)) k0 bel lt0) (trodAll_cons_mk (Below.trod laidOut (by kernel_rfl) (of_decide_eq_true (by kernel_rfl)) k1 bel lt1) (trodAll_cons_mk (Below.trod laidOut (by kernel_rfl) (of_decide_eq_true (by kernel_rfl)) k2 bel lt2) trodAll_mk0))), rfl, bel.frame _, fun h => by cases h⟩
/-- The statement. -/
theorem scanRedirects_holds : Rows.ScanRedirectsSaid :=
  OpenClaim.holds_of_wide 10 Try.f10 rfl rfl rfl rfl rfl rfl rfl ⟨rfl, rfl, rfl, rfl, rfl⟩ rfl rfl rfl rfl rfl (by kernel_rfl) Try.func10 (by kernel_rfl)
    (of_decide_eq_true (by kernel_rfl)) (by unfold Func.isWrapper; first | (rw [if_pos (by decide +kernel)]; kernel_rfl) | (rw [if_neg (by decide +kernel)]; exact ⟨rfl, rfl⟩))
    (fun os started H enc _ => scanRedirects_lifted os started H enc)
#print axioms scanRedirects_holds
end Go.Proofs.Ythgajbfgolcpkaa
