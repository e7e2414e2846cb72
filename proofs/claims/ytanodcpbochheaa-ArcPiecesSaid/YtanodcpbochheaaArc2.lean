import Derived.Test.YtanodcpbochheaaArc
/- Contracts of package arc: Within, Split, Join, Pieces. -/
namespace Go.Proofs.Ytanodcpbochheaa
open Go.RowKit
def withinB (a b c d : Int) : Bool := a == b || (!(c == d) && decide (IntKind.u64.wrap (c - a) < IntKind.u64.wrap (b - a)) && decide (IntKind.u64.wrap (d - c) ≤ IntKind.u64.wrap (IntKind.u64.wrap (b - a) - IntKind.u64.wrap (c - a))))
set_option maxHeartbeats 1000000 in
theorem within_any (a b c d : Int) (r : Bool) (hr : withinB a b c d = r) (w : World) :
    Calls Try.prog 19 #[.agg #[.int .u64 a, .int .u64 b], .agg #[.int .u64 c, .int .u64 d]] w (Makes (.bool r) w) := by
  unfold withinB at hr
  cases h1 : (a == b)
  · cases h2 : (c == d)
    · cases h3 : decide (IntKind.u64.wrap (c - a) < IntKind.u64.wrap (b - a))
      all_goals
        simp only [h1, h2, h3, Bool.not_false, Bool.true_and, Bool.false_or, Bool.false_and] at hr
        have HR := hid hr; clear hr
        go_enter Try.func19, Try.ntmps19
        go_wp2_with (first | (go_at_call 15; ((with_reducible refine (whole_any _ _ _ (by assumption) _).mono ?_)); rintro _ _ ⟨rfl, u, rfl⟩) | (go_at_call 17; ((with_reducible refine (size_any _ _ _ rfl _).mono ?_)); rintro _ _ ⟨rfl, u, rfl⟩) | (((with_reducible refine wp_region_fut_lit (by kernel_rfl) (by kernel_rfl) ?_)); (repeat (go_big_quiet_step ((first | (go_at_call 15; with_reducible exact Calls.fut_of (whole_any _ _ _ (by assumption) _)) | (go_at_call 17; with_reducible exact Calls.fut_of (size_any _ _ _ rfl _)))))); ((with_reducible refine wpQuiet_nil ?_)); rintro _ ⟨u, rfl⟩))
        go_ret
        exact .mk (by rw [← HR.out]; rfl) (by repeat' (first | exact Below.refl _ _ | with_reducible refine Below.alloc ?_ ?_ _ | with_reducible refine Below.fut ?_ ?_ _ | with_reducible refine Below.drew ?_ | with_reducible refine Below.setCell ?_ ?_ _ | (simp [go_sem]; done) | (simp [go_sem]; omega)))
    · simp only [h1, h2, Bool.not_true, Bool.false_and, Bool.false_or] at hr
      subst hr
      go_enter Try.func19, Try.ntmps19
      go_wp2_with (first | (go_at_call 15; ((with_reducible refine (whole_any _ _ _ (by assumption) _).mono ?_)); rintro _ _ ⟨rfl, u, rfl⟩) | (go_at_call 17; ((with_reducible refine (size_any _ _ _ rfl _).mono ?_)); rintro _ _ ⟨rfl, u, rfl⟩) | (((with_reducible refine wp_region_fut_lit (by kernel_rfl) (by kernel_rfl) ?_)); (repeat (go_big_quiet_step ((first | (go_at_call 15; with_reducible exact Calls.fut_of (whole_any _ _ _ (by assumption) _)) | (go_at_call 17; with_reducible exact Calls.fut_of (size_any _ _ _ rfl _)))))); ((with_reducible refine wpQuiet_nil ?_)); rintro _ ⟨u, rfl⟩))
      go_ret; exact .mk rfl (by repeat' (first | exact Below.refl _ _ | with_reducible refine Below.alloc ?_ ?_ _ | with_reducible refine Below.fut ?_ ?_ _ | with_reducible refine Below.drew ?_ | with_reducible refine Below.setCell ?_ ?_ _ | (simp [go_sem]; done) | (simp [go_sem]; omega)))
  · simp only [h1, Bool.true_or] at hr
    subst hr
    go_enter Try.func19, Try.ntmps19
    go_wp2_with (first | (go_at_call 15; ((with_reducible refine (whole_any _ _ _ (by assumption) _).mono ?_)); rintro _ _ ⟨rfl, u, rfl⟩) | (go_at_call 17; ((with_reducible refine (size_any _ _ _ rfl _).mono ?_)); rintro _ _ ⟨rfl, u, rfl⟩) | (((with_reducible refine wp_region_fut_lit (by kernel_rfl) (by kernel_rfl) ?_)); (repeat (go_big_quiet_step ((first | (go_at_call 15; with_reducible exact Calls.fut_of (whole_any _ _ _ (by assumption) _)) | (go_at_call 17; with_reducible exact Calls.fut_of (size_any _ _ _ rfl _)))))); ((with_reducible refine wpQuiet_nil ?_)); rintro _ ⟨u, rfl⟩))
    go_ret; exact .mk rfl (by repeat' (first | exact Below.refl _ _ | with_reducible refine Below.alloc ?_ ?_ _ | with_reducible refine Below.fut ?_ ?_ _ | with_reducible refine Below.drew ?_ | with_reducible refine Below.setCell ?_ ?_ _ | (simp [go_sem]; done) | (simp [go_sem]; omega)))
def splitB (a b x : Int) : Bool := !(x == a) && inB a b x
set_option maxHeartbeats 1000000 in
theorem split_no (a b x : Int) (hr : splitB a b x = false) (w : World) :
    Calls Try.prog 20 #[.agg #[.int .u64 a, .int .u64 b], .int .u64 x] w (Makes (.tuple #[.agg #[.int .u64 0, .int .u64 0], .agg #[.int .u64 0, .int .u64 0], .bool false]) w) := by
  unfold splitB at hr
  cases h1 : (x == a)
  · cases h2 : inB a b x
    · clear hr
      go_enter Try.func20, Try.ntmps20
      go_wp2_with (first | (go_at_call 14; ((with_reducible refine (in_any _ _ _ _ (by assumption) _).mono ?_)); rintro _ _ ⟨rfl, u, rfl⟩) | (((with_reducible refine wp_region_fut_lit (by kernel_rfl) (by kernel_rfl) ?_)); (repeat (go_big_quiet_step ((first | (go_at_call 14; with_reducible exact Calls.fut_of (in_any _ _ _ _ (by assumption) _)))))); ((with_reducible refine wpQuiet_nil ?_)); rintro _ ⟨u, rfl⟩))
      (try rw [Exit.noGoto_ret])
      refine bodyPost_ret (v := .tuple #[.agg #[.int .u64 0, .int .u64 0], .agg #[.int .u64 0, .int .u64 0], .bool false]) (by simp [results, Try.results20, go_sem]) rfl (.mk rfl (by repeat' (first | exact Below.refl _ _ | with_reducible refine Below.alloc ?_ ?_ _ | with_reducible refine Below.fut ?_ ?_ _ | with_reducible refine Below.drew ?_ | with_reducible refine Below.setCell ?_ ?_ _ | (simp [go_sem]; done) | (simp [go_sem]; omega))))
    · simp [h1, h2] at hr
  · clear hr
    go_enter Try.func20, Try.ntmps20
    go_wp2_with (first | (go_at_call 14; ((with_reducible refine (in_any _ _ _ _ (by assumption) _).mono ?_)); rintro _ _ ⟨rfl, u, rfl⟩) | (((with_reducible refine wp_region_fut_lit (by kernel_rfl) (by kernel_rfl) ?_)); (repeat (go_big_quiet_step ((first | (go_at_call 14; with_reducible exact Calls.fut_of (in_any _ _ _ _ (by assumption) _)))))); ((with_reducible refine wpQuiet_nil ?_)); rintro _ ⟨u, rfl⟩))
    (try rw [Exit.noGoto_ret])
    refine bodyPost_ret (v := .tuple #[.agg #[.int .u64 0, .int .u64 0], .agg #[.int .u64 0, .int .u64 0], .bool false]) (by simp [results, Try.results20, go_sem]) rfl (.mk rfl (by repeat' (first | exact Below.refl _ _ | with_reducible refine Below.alloc ?_ ?_ _ | with_reducible refine Below.fut ?_ ?_ _ | with_reducible refine Below.drew ?_ | with_reducible refine Below.setCell ?_ ?_ _ | (simp [go_sem]; done) | (simp [go_sem]; omega))))
set_option maxHeartbeats 1000000 in
theorem split_yes (a b x : Int) (hr : splitB a b x = true) (w : World) :
    Calls Try.prog 20 #[.agg #[.int .u64 a, .int .u64 b], .int .u64 x] w (Makes (.tuple #[.agg #[.int .u64 a, .int .u64 x], .agg #[.int .u64 x, .int .u64 b], .bool true]) w) := by
  unfold splitB at hr
  cases h1 : (x == a)
  · cases h2 : inB a b x
    · simp [h1, h2] at hr
    · clear hr
      go_enter Try.func20, Try.ntmps20
      go_wp2_with (first | (go_at_call 14; ((with_reducible refine (in_any _ _ _ _ (by assumption) _).mono ?_)); rintro _ _ ⟨rfl, u, rfl⟩))
      go_region
      go_wp2
      (try rw [Exit.noGoto_ret])
      refine bodyPost_ret (v := .tuple #[.agg #[.int .u64 a, .int .u64 x], .agg #[.int .u64 x, .int .u64 b], .bool true]) (by simp [results, Try.results20, go_sem]) rfl (.mk rfl (by repeat' (first | exact Below.refl _ _ | with_reducible refine Below.alloc ?_ ?_ _ | with_reducible refine Below.fut ?_ ?_ _ | with_reducible refine Below.drew ?_ | with_reducible refine Below.setCell ?_ ?_ _ | (simp [go_sem]; done) | (simp [go_sem]; omega))))
  · simp [h1] at hr
end Go.Proofs.Ytanodcpbochheaa
