import Derived.Test.YtanodcpbochheaaArc2
/- Contracts of package arc: Join; the references; the statements' first call. -/
namespace Go.Proofs.Ytanodcpbochheaa
open Go.RowKit
set_option maxHeartbeats 1000000 in
theorem refwithin_any (a b c d : Int) (r : Bool) (hr : (a == b || (!(c == d) && inB a b c && decide (IntKind.u64.wrap (d - c) ≤ IntKind.u64.wrap (b - c)))) = r) (w : World) :
    Calls Try.prog 22 #[.agg #[.int .u64 a, .int .u64 b], .agg #[.int .u64 c, .int .u64 d]] w (Makes (.bool r) w) := by
  cases h1 : (a == b)
  · cases h2 : (c == d)
    · cases h3 : inB a b c
      all_goals
        simp only [h1, h2, h3, Bool.not_false, Bool.true_and, Bool.false_or, Bool.false_and] at hr
        have HR := hid hr; clear hr
        go_enter Try.func22, Try.ntmps22
        go_wp2_with (first | (go_at_call 13; ((with_reducible refine (refin_any _ _ _ _ (by assumption) _).mono ?_)); rintro _ _ ⟨rfl, u, rfl⟩) | (((with_reducible refine wp_region_fut_lit (by kernel_rfl) (by kernel_rfl) ?_)); (repeat (go_big_quiet_step ((first | (go_at_call 13; with_reducible exact Calls.fut_of (refin_any _ _ _ _ (by assumption) _)))))); ((with_reducible refine wpQuiet_nil ?_)); rintro _ ⟨u, rfl⟩))
        all_goals (go_ret; exact .mk (by rw [← HR.out]; rfl) (by repeat' (first | exact Below.refl _ _ | with_reducible refine Below.alloc ?_ ?_ _ | with_reducible refine Below.fut ?_ ?_ _ | with_reducible refine Below.drew ?_ | with_reducible refine Below.setCell ?_ ?_ _ | (simp [go_sem]; done) | (simp [go_sem]; omega))))
    · simp only [h1, h2, Bool.not_true, Bool.false_and, Bool.false_or] at hr
      subst hr
      go_enter Try.func22, Try.ntmps22
      go_wp2_with (first | (go_at_call 13; ((with_reducible refine (refin_any _ _ _ _ (by assumption) _).mono ?_)); rintro _ _ ⟨rfl, u, rfl⟩) | (((with_reducible refine wp_region_fut_lit (by kernel_rfl) (by kernel_rfl) ?_)); (repeat (go_big_quiet_step ((first | (go_at_call 13; with_reducible exact Calls.fut_of (refin_any _ _ _ _ (by assumption) _)))))); ((with_reducible refine wpQuiet_nil ?_)); rintro _ ⟨u, rfl⟩))
      go_ret; exact .mk rfl (by repeat' (first | exact Below.refl _ _ | with_reducible refine Below.alloc ?_ ?_ _ | with_reducible refine Below.fut ?_ ?_ _ | with_reducible refine Below.drew ?_ | with_reducible refine Below.setCell ?_ ?_ _ | (simp [go_sem]; done) | (simp [go_sem]; omega)))
  · simp only [h1, Bool.true_or] at hr
    subst hr
    go_enter Try.func22, Try.ntmps22
    go_wp2_with (first | (go_at_call 13; ((with_reducible refine (refin_any _ _ _ _ (by assumption) _).mono ?_)); rintro _ _ ⟨rfl, u, rfl⟩) | (((with_reducible refine wp_region_fut_lit (by kernel_rfl) (by kernel_rfl) ?_)); (repeat (go_big_quiet_step ((first | (go_at_call 13; with_reducible exact Calls.fut_of (refin_any _ _ _ _ (by assumption) _)))))); ((with_reducible refine wpQuiet_nil ?_)); rintro _ ⟨u, rfl⟩))
    go_ret; exact .mk rfl (by repeat' (first | exact Below.refl _ _ | with_reducible refine Below.alloc ?_ ?_ _ | with_reducible refine Below.fut ?_ ?_ _ | with_reducible refine Below.drew ?_ | with_reducible refine Below.setCell ?_ ?_ _ | (simp [go_sem]; done) | (simp [go_sem]; omega)))
def joinB (a b c d : Int) : Bool := !(b != c) && !(a == b) && !(c == d) && apartB a b c d
set_option maxHeartbeats 1000000 in
theorem join_no (a b c d : Int) (hr : joinB a b c d = false) (w : World) :
    Calls Try.prog 18 #[.agg #[.int .u64 a, .int .u64 b], .agg #[.int .u64 c, .int .u64 d]] w (Makes (.tuple #[.agg #[.int .u64 0, .int .u64 0], .bool false]) w) := by
  unfold joinB at hr
  cases h1 : (b != c)
  · cases h2 : (a == b)
    · cases h3 : (c == d)
      · cases h4 : apartB a b c d
        · clear hr
          go_enter Try.func18, Try.ntmps18
          go_wp2_with (first | (go_at_call 15; ((with_reducible refine (whole_any _ _ _ (by assumption) _).mono ?_)); rintro _ _ ⟨rfl, u, rfl⟩) | (go_at_call 16; ((with_reducible refine (apart_any _ _ _ _ _ (by assumption) _).mono ?_)); rintro _ _ ⟨rfl, u, rfl⟩) | (((with_reducible refine wp_region_fut_lit (by kernel_rfl) (by kernel_rfl) ?_)); (repeat (go_big_quiet_step ((first | (go_at_call 15; with_reducible exact Calls.fut_of (whole_any _ _ _ (by assumption) _)) | (go_at_call 16; with_reducible exact Calls.fut_of (apart_any _ _ _ _ _ (by assumption) _)))))); ((with_reducible refine wpQuiet_nil ?_)); rintro _ ⟨u, rfl⟩))
          (try rw [Exit.noGoto_ret])
          refine bodyPost_ret (v := .tuple #[.agg #[.int .u64 0, .int .u64 0], .bool false]) (by simp [results, Try.results18, go_sem]) rfl (.mk rfl (by repeat' (first | exact Below.refl _ _ | with_reducible refine Below.alloc ?_ ?_ _ | with_reducible refine Below.fut ?_ ?_ _ | with_reducible refine Below.drew ?_ | with_reducible refine Below.setCell ?_ ?_ _ | (simp [go_sem]; done) | (simp [go_sem]; omega))))
        · simp [h1, h2, h3, h4] at hr
      · clear hr
        go_enter Try.func18, Try.ntmps18
        go_wp2_with (first | (go_at_call 15; ((with_reducible refine (whole_any _ _ _ (by assumption) _).mono ?_)); rintro _ _ ⟨rfl, u, rfl⟩) | (go_at_call 16; ((with_reducible refine (apart_any _ _ _ _ _ (by assumption) _).mono ?_)); rintro _ _ ⟨rfl, u, rfl⟩) | (((with_reducible refine wp_region_fut_lit (by kernel_rfl) (by kernel_rfl) ?_)); (repeat (go_big_quiet_step ((first | (go_at_call 15; with_reducible exact Calls.fut_of (whole_any _ _ _ (by assumption) _)) | (go_at_call 16; with_reducible exact Calls.fut_of (apart_any _ _ _ _ _ (by assumption) _)))))); ((with_reducible refine wpQuiet_nil ?_)); rintro _ ⟨u, rfl⟩))
        (try rw [Exit.noGoto_ret])
        refine bodyPost_ret (v := .tuple #[.agg #[.int .u64 0, .int .u64 0], .bool false]) (by simp [results, Try.results18, go_sem]) rfl (.mk rfl (by repeat' (first | exact Below.refl _ _ | with_reducible refine Below.alloc ?_ ?_ _ | with_reducible refine Below.fut ?_ ?_ _ | with_reducible refine Below.drew ?_ | with_reducible refine Below.setCell ?_ ?_ _ | (simp [go_sem]; done) | (simp [go_sem]; omega))))
    · clear hr
      go_enter Try.func18, Try.ntmps18
      go_wp2_with (first | (go_at_call 15; ((with_reducible refine (whole_any _ _ _ (by assumption) _).mono ?_)); rintro _ _ ⟨rfl, u, rfl⟩) | (go_at_call 16; ((with_reducible refine (apart_any _ _ _ _ _ (by assumption) _).mono ?_)); rintro _ _ ⟨rfl, u, rfl⟩) | (((with_reducible refine wp_region_fut_lit (by kernel_rfl) (by kernel_rfl) ?_)); (repeat (go_big_quiet_step ((first | (go_at_call 15; with_reducible exact Calls.fut_of (whole_any _ _ _ (by assumption) _)) | (go_at_call 16; with_reducible exact Calls.fut_of (apart_any _ _ _ _ _ (by assumption) _)))))); ((with_reducible refine wpQuiet_nil ?_)); rintro _ ⟨u, rfl⟩))
      (try rw [Exit.noGoto_ret])
      refine bodyPost_ret (v := .tuple #[.agg #[.int .u64 0, .int .u64 0], .bool false]) (by simp [results, Try.results18, go_sem]) rfl (.mk rfl (by repeat' (first | exact Below.refl _ _ | with_reducible refine Below.alloc ?_ ?_ _ | with_reducible refine Below.fut ?_ ?_ _ | with_reducible refine Below.drew ?_ | with_reducible refine Below.setCell ?_ ?_ _ | (simp [go_sem]; done) | (simp [go_sem]; omega))))
  · clear hr
    go_enter Try.func18, Try.ntmps18
    go_wp2_with (first | (go_at_call 15; ((with_reducible refine (whole_any _ _ _ (by assumption) _).mono ?_)); rintro _ _ ⟨rfl, u, rfl⟩) | (go_at_call 16; ((with_reducible refine (apart_any _ _ _ _ _ (by assumption) _).mono ?_)); rintro _ _ ⟨rfl, u, rfl⟩) | (((with_reducible refine wp_region_fut_lit (by kernel_rfl) (by kernel_rfl) ?_)); (repeat (go_big_quiet_step ((first | (go_at_call 15; with_reducible exact Calls.fut_of (whole_any _ _ _ (by assumption) _)) | (go_at_call 16; with_reducible exact Calls.fut_of (apart_any _ _ _ _ _ (by assumption) _)))))); ((with_reducible refine wpQuiet_nil ?_)); rintro _ ⟨u, rfl⟩))
    (try rw [Exit.noGoto_ret])
    refine bodyPost_ret (v := .tuple #[.agg #[.int .u64 0, .int .u64 0], .bool false]) (by simp [results, Try.results18, go_sem]) rfl (.mk rfl (by repeat' (first | exact Below.refl _ _ | with_reducible refine Below.alloc ?_ ?_ _ | with_reducible refine Below.fut ?_ ?_ _ | with_reducible refine Below.drew ?_ | with_reducible refine Below.setCell ?_ ?_ _ | (simp [go_sem]; done) | (simp [go_sem]; omega))))
set_option maxHeartbeats 1000000 in
theorem join_yes (a b c d : Int) (hr : joinB a b c d = true) (w : World) :
    Calls Try.prog 18 #[.agg #[.int .u64 a, .int .u64 b], .agg #[.int .u64 c, .int .u64 d]] w (Makes (.tuple #[.agg #[.int .u64 a, .int .u64 d], .bool true]) w) := by
  unfold joinB at hr
  cases h1 : (b != c)
  · cases h2 : (a == b)
    · cases h3 : (c == d)
      · cases h4 : apartB a b c d
        · simp [h4] at hr
        · clear hr
          go_enter Try.func18, Try.ntmps18
          go_wp2_with (first | (go_at_call 15; ((with_reducible refine (whole_any _ _ _ (by assumption) _).mono ?_)); rintro _ _ ⟨rfl, u, rfl⟩) | (go_at_call 16; ((with_reducible refine (apart_any _ _ _ _ _ (by assumption) _).mono ?_)); rintro _ _ ⟨rfl, u, rfl⟩) | (((with_reducible refine wp_region_fut_lit (by kernel_rfl) (by kernel_rfl) ?_)); (repeat (go_big_quiet_step ((first | (go_at_call 15; with_reducible exact Calls.fut_of (whole_any _ _ _ (by assumption) _)) | (go_at_call 16; with_reducible exact Calls.fut_of (apart_any _ _ _ _ _ (by assumption) _)))))); ((with_reducible refine wpQuiet_nil ?_)); rintro _ ⟨u, rfl⟩))
          (try rw [Exit.noGoto_ret])
          refine bodyPost_ret (v := .tuple #[.agg #[.int .u64 a, .int .u64 d], .bool true]) (by simp [results, Try.results18, go_sem]) rfl (.mk rfl (by repeat' (first | exact Below.refl _ _ | with_reducible refine Below.alloc ?_ ?_ _ | with_reducible refine Below.fut ?_ ?_ _ | with_reducible refine Below.drew ?_ | with_reducible refine Below.setCell ?_ ?_ _ | (simp [go_sem]; done) | (simp [go_sem]; omega))))
      · simp [h3] at hr
    · simp [h2] at hr
  · simp [h1] at hr
set_option maxHeartbeats 1000000 in
theorem alive_any (w : World) : Calls Try.prog 11 #[] w (Makes (.bool true) w) := by
  have k1 : inB 9 3 1 = true := by decide
  have k2 : inB 9 3 3 = false := by decide
  have k3 : splitB 9 3 1 = true := by decide
  have k4 : ((0 : Int) == 0) = true := by decide
  go_enter Try.func11, Try.ntmps11
  go_wp2_with (first | (go_at_call 14; ((with_reducible refine (in_any _ _ _ _ (by assumption) _).mono ?_)); rintro _ _ ⟨rfl, u, rfl⟩) | (go_at_call 20; ((with_reducible refine (split_yes _ _ _ k3 _).mono ?_)); rintro _ _ ⟨rfl, u, rfl⟩) | (go_at_call 15; ((with_reducible refine (whole_any _ _ _ k4 _).mono ?_)); rintro _ _ ⟨rfl, u, rfl⟩) | (((with_reducible refine wp_region_fut_lit (by kernel_rfl) (by kernel_rfl) ?_)); (repeat (go_big_quiet_step ((first | (go_at_call 14; with_reducible exact Calls.fut_of (in_any _ _ _ _ (by assumption) _)) | (go_at_call 20; with_reducible exact Calls.fut_of (split_yes _ _ _ k3 _)) | (go_at_call 15; with_reducible exact Calls.fut_of (whole_any _ _ _ k4 _)))))); ((with_reducible refine wpQuiet_nil ?_)); rintro _ ⟨u, rfl⟩))
  go_ret; exact .mk rfl (by repeat' (first | exact Below.refl _ _ | with_reducible refine Below.alloc ?_ ?_ _ | with_reducible refine Below.fut ?_ ?_ _ | with_reducible refine Below.drew ?_ | with_reducible refine Below.setCell ?_ ?_ _ | (simp [go_sem]; done) | (simp [go_sem]; omega)))
end Go.Proofs.Ytanodcpbochheaa
