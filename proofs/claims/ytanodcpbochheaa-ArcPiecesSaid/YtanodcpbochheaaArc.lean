import Derived.Test.YtanodcpbochheaaL
/- Contracts of package arc and of the references for arcs. -/
namespace Go.Proofs.Ytanodcpbochheaa
open Go.RowKit
set_option maxHeartbeats 400000 in
theorem whole_any (a b : Int) (r : Bool) (hr : (a == b) = r) (w : World) :
    Calls Try.prog 15 #[.agg #[.int .u64 a, .int .u64 b]] w (Makes (.bool r) w) := by
  subst hr
  go_enter Try.func15, Try.ntmps15
  go_wp2
  go_ret; exact .mk rfl (by repeat' (first | exact Below.refl _ _ | with_reducible refine Below.alloc ?_ ?_ _ | with_reducible refine Below.fut ?_ ?_ _ | with_reducible refine Below.drew ?_ | with_reducible refine Below.setCell ?_ ?_ _ | (simp [go_sem]; done) | (simp [go_sem]; omega)))
set_option maxHeartbeats 400000 in
theorem size_any (a b : Int) (r : Int) (hr : IntKind.u64.wrap (b - a) = r) (w : World) :
    Calls Try.prog 17 #[.agg #[.int .u64 a, .int .u64 b]] w (Makes (.int .u64 r) w) := by
  subst hr
  go_enter Try.func17, Try.ntmps17
  go_wp2
  go_ret; exact .mk rfl (by repeat' (first | exact Below.refl _ _ | with_reducible refine Below.alloc ?_ ?_ _ | with_reducible refine Below.fut ?_ ?_ _ | with_reducible refine Below.drew ?_ | with_reducible refine Below.setCell ?_ ?_ _ | (simp [go_sem]; done) | (simp [go_sem]; omega)))
def inB (a b x : Int) : Bool := a == b || decide (IntKind.u64.wrap (x - a) < IntKind.u64.wrap (b - a))
set_option maxHeartbeats 400000 in
theorem in_any (a b x : Int) (r : Bool) (hr : inB a b x = r) (w : World) :
    Calls Try.prog 14 #[.agg #[.int .u64 a, .int .u64 b], .int .u64 x] w (Makes (.bool r) w) := by
  subst hr
  cases h : (a == b)
  · have HR := hid (show inB a b x = decide (IntKind.u64.wrap (x - a) < IntKind.u64.wrap (b - a)) by simp [inB, h])
    go_enter Try.func14, Try.ntmps14
    go_wp2_with (first | (go_at_call 15; ((with_reducible refine (whole_any _ _ _ h _).mono ?_)); rintro _ _ ⟨rfl, u, rfl⟩) | (go_at_call 17; ((with_reducible refine (size_any _ _ _ rfl _).mono ?_)); rintro _ _ ⟨rfl, u, rfl⟩) | (((with_reducible refine wp_region_fut_lit (by kernel_rfl) (by kernel_rfl) ?_)); (repeat (go_big_quiet_step ((first | (go_at_call 15; with_reducible exact Calls.fut_of (whole_any _ _ _ h _)) | (go_at_call 17; with_reducible exact Calls.fut_of (size_any _ _ _ rfl _)))))); ((with_reducible refine wpQuiet_nil ?_)); rintro _ ⟨u, rfl⟩))
    go_ret
    exact .mk (by rw [HR.out]; rfl) (by repeat' (first | exact Below.refl _ _ | with_reducible refine Below.alloc ?_ ?_ _ | with_reducible refine Below.fut ?_ ?_ _ | with_reducible refine Below.drew ?_ | with_reducible refine Below.setCell ?_ ?_ _ | (simp [go_sem]; done) | (simp [go_sem]; omega)))
  · have HR := hid (show inB a b x = true by simp [inB, h])
    go_enter Try.func14, Try.ntmps14
    go_wp2_with (first | (go_at_call 15; ((with_reducible refine (whole_any _ _ _ h _).mono ?_)); rintro _ _ ⟨rfl, u, rfl⟩) | (go_at_call 17; ((with_reducible refine (size_any _ _ _ rfl _).mono ?_)); rintro _ _ ⟨rfl, u, rfl⟩) | (((with_reducible refine wp_region_fut_lit (by kernel_rfl) (by kernel_rfl) ?_)); (repeat (go_big_quiet_step ((first | (go_at_call 15; with_reducible exact Calls.fut_of (whole_any _ _ _ h _)) | (go_at_call 17; with_reducible exact Calls.fut_of (size_any _ _ _ rfl _)))))); ((with_reducible refine wpQuiet_nil ?_)); rintro _ ⟨u, rfl⟩))
    go_ret
    exact .mk (by rw [HR.out]; rfl) (by repeat' (first | exact Below.refl _ _ | with_reducible refine Below.alloc ?_ ?_ _ | with_reducible refine Below.fut ?_ ?_ _ | with_reducible refine Below.drew ?_ | with_reducible refine Below.setCell ?_ ?_ _ | (simp [go_sem]; done) | (simp [go_sem]; omega)))
set_option maxHeartbeats 400000 in
theorem refin_any (a b x : Int) (r : Bool) (hr : inB a b x = r) (w : World) :
    Calls Try.prog 13 #[.agg #[.int .u64 a, .int .u64 b], .int .u64 x] w (Makes (.bool r) w) := by
  subst hr
  cases h : (a == b)
  · have HR := hid (show inB a b x = decide (IntKind.u64.wrap (x - a) < IntKind.u64.wrap (b - a)) by simp [inB, h])
    go_enter Try.func13, Try.ntmps13
    go_wp2_with (first | (((with_reducible refine wp_region_fut_lit (by kernel_rfl) (by kernel_rfl) ?_)); (repeat (go_big_quiet_step ((first | fail)))); ((with_reducible refine wpQuiet_nil ?_)); rintro _ ⟨u, rfl⟩))
    all_goals (go_ret; exact .mk (by rw [HR.out]; rfl) (by repeat' (first | exact Below.refl _ _ | with_reducible refine Below.alloc ?_ ?_ _ | with_reducible refine Below.fut ?_ ?_ _ | with_reducible refine Below.drew ?_ | with_reducible refine Below.setCell ?_ ?_ _ | (simp [go_sem]; done) | (simp [go_sem]; omega))))
  · have HR := hid (show inB a b x = true by simp [inB, h])
    go_enter Try.func13, Try.ntmps13
    go_wp2_with (first | (((with_reducible refine wp_region_fut_lit (by kernel_rfl) (by kernel_rfl) ?_)); (repeat (go_big_quiet_step ((first | fail)))); ((with_reducible refine wpQuiet_nil ?_)); rintro _ ⟨u, rfl⟩))
    all_goals (go_ret; exact .mk (by rw [HR.out]; rfl) (by repeat' (first | exact Below.refl _ _ | with_reducible refine Below.alloc ?_ ?_ _ | with_reducible refine Below.fut ?_ ?_ _ | with_reducible refine Below.drew ?_ | with_reducible refine Below.setCell ?_ ?_ _ | (simp [go_sem]; done) | (simp [go_sem]; omega))))
def apartB (a b c d : Int) : Bool := !inB a b c && !inB c d a
set_option maxHeartbeats 1000000 in
theorem apart_any (a b c d : Int) (r : Bool) (hr : apartB a b c d = r) (w : World) :
    Calls Try.prog 16 #[.agg #[.int .u64 a, .int .u64 b], .agg #[.int .u64 c, .int .u64 d]] w (Makes (.bool r) w) := by
  unfold apartB at hr
  cases h1 : inB a b c
  · cases h2 : inB c d a
    · obtain rfl : true = r := by simpa [h1, h2] using hr
      clear hr
      go_enter Try.func16, Try.ntmps16
      go_wp2
      go_step3
      go_wp2
      go_step3
      go_wp2
      refine wp_loop_rounds 3 ?_
      rw [rounds_succ]
      go_wp2_with (first | (go_at_call 14; ((with_reducible refine (in_any _ _ _ _ (by assumption) _).mono ?_)); rintro _ _ ⟨rfl, u, rfl⟩) | (((with_reducible refine wp_region_fut_lit (by kernel_rfl) (by kernel_rfl) ?_)); (repeat (go_big_quiet_step ((first | (go_at_call 14; with_reducible exact Calls.fut_of (in_any _ _ _ _ (by assumption) _)))))); ((with_reducible refine wpQuiet_nil ?_)); rintro _ ⟨u, rfl⟩))
      rw [rounds_succ]
      go_wp2_with (first | (go_at_call 14; ((with_reducible refine (in_any _ _ _ _ (by assumption) _).mono ?_)); rintro _ _ ⟨rfl, u, rfl⟩) | (((with_reducible refine wp_region_fut_lit (by kernel_rfl) (by kernel_rfl) ?_)); (repeat (go_big_quiet_step ((first | (go_at_call 14; with_reducible exact Calls.fut_of (in_any _ _ _ _ (by assumption) _)))))); ((with_reducible refine wpQuiet_nil ?_)); rintro _ ⟨u, rfl⟩))
      rw [rounds_succ]
      go_wp2_with (first | (go_at_call 14; ((with_reducible refine (in_any _ _ _ _ (by assumption) _).mono ?_)); rintro _ _ ⟨rfl, u, rfl⟩) | (((with_reducible refine wp_region_fut_lit (by kernel_rfl) (by kernel_rfl) ?_)); (repeat (go_big_quiet_step ((first | (go_at_call 14; with_reducible exact Calls.fut_of (in_any _ _ _ _ (by assumption) _)))))); ((with_reducible refine wpQuiet_nil ?_)); rintro _ ⟨u, rfl⟩))
      rw [Exit.noGoto_ret]
      go_ret; exact .mk rfl (by repeat' (first | exact Below.refl _ _ | with_reducible refine Below.alloc ?_ ?_ _ | with_reducible refine Below.fut ?_ ?_ _ | with_reducible refine Below.drew ?_ | with_reducible refine Below.setCell ?_ ?_ _ | (simp [go_sem]; done) | (simp [go_sem]; omega)))
    · obtain rfl : false = r := by simpa [h1, h2] using hr
      clear hr
      go_enter Try.func16, Try.ntmps16
      go_wp2
      go_step3
      go_wp2
      go_step3
      go_wp2
      refine wp_loop_rounds 3 ?_
      rw [rounds_succ]
      go_wp2_with (first | (go_at_call 14; ((with_reducible refine (in_any _ _ _ _ (by assumption) _).mono ?_)); rintro _ _ ⟨rfl, u, rfl⟩) | (((with_reducible refine wp_region_fut_lit (by kernel_rfl) (by kernel_rfl) ?_)); (repeat (go_big_quiet_step ((first | (go_at_call 14; with_reducible exact Calls.fut_of (in_any _ _ _ _ (by assumption) _)))))); ((with_reducible refine wpQuiet_nil ?_)); rintro _ ⟨u, rfl⟩))
      rw [rounds_succ]
      go_wp2_with (first | (go_at_call 14; ((with_reducible refine (in_any _ _ _ _ (by assumption) _).mono ?_)); rintro _ _ ⟨rfl, u, rfl⟩) | (((with_reducible refine wp_region_fut_lit (by kernel_rfl) (by kernel_rfl) ?_)); (repeat (go_big_quiet_step ((first | (go_at_call 14; with_reducible exact Calls.fut_of (in_any _ _ _ _ (by assumption) _)))))); ((with_reducible refine wpQuiet_nil ?_)); rintro _ ⟨u, rfl⟩))
      rw [Exit.noGoto_ret]
      go_ret; exact .mk rfl (by repeat' (first | exact Below.refl _ _ | with_reducible refine Below.alloc ?_ ?_ _ | with_reducible refine Below.fut ?_ ?_ _ | with_reducible refine Below.drew ?_ | with_reducible refine Below.setCell ?_ ?_ _ | (simp [go_sem]; done) | (simp [go_sem]; omega)))
  · obtain rfl : false = r := by simpa [h1] using hr
    clear hr
    go_enter Try.func16, Try.ntmps16
    go_wp2
    go_step3
    go_wp2
    go_step3
    go_wp2
    refine wp_loop_rounds 3 ?_
    rw [rounds_succ]
    go_wp2_with (first | (go_at_call 14; ((with_reducible refine (in_any _ _ _ _ (by assumption) _).mono ?_)); rintro _ _ ⟨rfl, u, rfl⟩) | (((with_reducible refine wp_region_fut_lit (by kernel_rfl) (by kernel_rfl) ?_)); (repeat (go_big_quiet_step ((first | (go_at_call 14; with_reducible exact Calls.fut_of (in_any _ _ _ _ (by assumption) _)))))); ((with_reducible refine wpQuiet_nil ?_)); rintro _ ⟨u, rfl⟩))
    rw [Exit.noGoto_ret]
    go_ret; exact .mk rfl (by repeat' (first | exact Below.refl _ _ | with_reducible refine Below.alloc ?_ ?_ _ | with_reducible refine Below.fut ?_ ?_ _ | with_reducible refine Below.drew ?_ | with_reducible refine Below.setCell ?_ ?_ _ | (simp [go_sem]; done) | (simp [go_sem]; omega)))
set_option maxHeartbeats 1000000 in
theorem refapart_any (a b c d : Int) (r : Bool) (hr : apartB a b c d = r) (w : World) :
    Calls Try.prog 21 #[.agg #[.int .u64 a, .int .u64 b], .agg #[.int .u64 c, .int .u64 d]] w (Makes (.bool r) w) := by
  unfold apartB at hr
  cases h1 : inB a b c
  · cases h2 : inB c d a
    all_goals
      simp only [h1, h2, Bool.not_true, Bool.not_false, Bool.and_true, Bool.and_false, Bool.true_and] at hr
      subst hr
      go_enter Try.func21, Try.ntmps21
      go_wp2_with (first | (go_at_call 13; ((with_reducible refine (refin_any _ _ _ _ (by assumption) _).mono ?_)); rintro _ _ ⟨rfl, u, rfl⟩) | (((with_reducible refine wp_region_fut_lit (by kernel_rfl) (by kernel_rfl) ?_)); (repeat (go_big_quiet_step ((first | (go_at_call 13; with_reducible exact Calls.fut_of (refin_any _ _ _ _ (by assumption) _)))))); ((with_reducible refine wpQuiet_nil ?_)); rintro _ ⟨u, rfl⟩))
      go_ret; exact .mk rfl (by repeat' (first | exact Below.refl _ _ | with_reducible refine Below.alloc ?_ ?_ _ | with_reducible refine Below.fut ?_ ?_ _ | with_reducible refine Below.drew ?_ | with_reducible refine Below.setCell ?_ ?_ _ | (simp [go_sem]; done) | (simp [go_sem]; omega)))
  · simp only [h1, Bool.not_true, Bool.false_and] at hr
    subst hr
    go_enter Try.func21, Try.ntmps21
    go_wp2_with (first | (go_at_call 13; ((with_reducible refine (refin_any _ _ _ _ (by assumption) _).mono ?_)); rintro _ _ ⟨rfl, u, rfl⟩) | (((with_reducible refine wp_region_fut_lit (by kernel_rfl) (by kernel_rfl) ?_)); (repeat (go_big_quiet_step ((first | (go_at_call 13; with_reducible exact Calls.fut_of (refin_any _ _ _ _ (by assumption) _)))))); ((with_reducible refine wpQuiet_nil ?_)); rintro _ ⟨u, rfl⟩))
    go_ret; exact .mk rfl (by repeat' (first | exact Below.refl _ _ | with_reducible refine Below.alloc ?_ ?_ _ | with_reducible refine Below.fut ?_ ?_ _ | with_reducible refine Below.drew ?_ | with_reducible refine Below.setCell ?_ ?_ _ | (simp [go_sem]; done) | (simp [go_sem]; omega)))
end Go.Proofs.Ytanodcpbochheaa
