/- ArcPoints answers true for every arc and every point, and leaves its arguments as they were. No condition. -/
import Derived.Test.YtanodcpbochheaaArcMore
namespace Go.Proofs.Ytanodcpbochheaa
open Go.ChangeShapes Go.WideShapes Go.ChangeAt Go.RowKit Go.Joins
open Go.ChangeMaps (open_string shut_string)
set_option linter.unusedVariables false
set_option maxHeartbeats 4000000 in
theorem arcPoints_walk (a : Int) (ha : U64 a) (b : Int) (hb : U64 b) (x : Int) (hx : U64 x) (w : World) :
    Calls Try.prog 4 #[.agg #[.int .u64 a, .int .u64 b], .int .u64 x] w (Makes (.bool true) w) := by
  have p1 := in_first a b ha hb
  cases h0 : (a == b)
  · have p2 := in_end ha hb h0
    have p3 := in_last ha hb h0
    have p4 := in_rest ha hb hx h0
    have p5 := apart_rest ha hb h0
    have p6 := size_rest ha hb
    obtain ⟨l, q0⟩ : ∃ s, IntKind.u64.wrap (b - 1) = s := ⟨_, rfl⟩
    rw [q0] at p3
    obtain ⟨s1, q1⟩ : ∃ s, IntKind.u64.wrap (b - a) = s := ⟨_, rfl⟩
    obtain ⟨s2, q2⟩ : ∃ s, IntKind.u64.wrap (a - b) = s := ⟨_, rfl⟩
    rw [q1, q2] at p6
    cases h1 : inB a b x
    all_goals
      rw [h1] at p4
      simp only [Bool.not_true, Bool.not_false] at p4
      go_enter Try.func4, Try.ntmps4
      go_wp2_with (first | (go_at_call 11; ((with_reducible refine (alive_any _).mono ?_)); rintro _ _ ⟨rfl, u, rfl⟩) | (go_at_call 14; ((with_reducible refine (in_any _ _ _ _ (by assumption) _).mono ?_)); rintro _ _ ⟨rfl, u, rfl⟩) | (go_at_call 19; ((with_reducible refine (within_any _ _ _ _ _ (by assumption) _).mono ?_)); rintro _ _ ⟨rfl, u, rfl⟩) | (go_at_call 16; ((with_reducible refine (apart_any _ _ _ _ _ (by assumption) _).mono ?_)); rintro _ _ ⟨rfl, u, rfl⟩) | (go_at_call 15; ((with_reducible refine (whole_any _ _ _ (by assumption) _).mono ?_)); rintro _ _ ⟨rfl, u, rfl⟩) | (go_at_call 17; ((with_reducible refine (size_any _ _ _ (by assumption) _).mono ?_)); rintro _ _ ⟨rfl, u, rfl⟩) | (((with_reducible refine wp_region_fut_lit (by kernel_rfl) (by kernel_rfl) ?_)); (repeat (go_big_quiet_step ((first | (go_at_call 11; with_reducible exact Calls.fut_of (alive_any _)) | (go_at_call 14; with_reducible exact Calls.fut_of (in_any _ _ _ _ (by assumption) _)) | (go_at_call 19; with_reducible exact Calls.fut_of (within_any _ _ _ _ _ (by assumption) _)) | (go_at_call 16; with_reducible exact Calls.fut_of (apart_any _ _ _ _ _ (by assumption) _)) | (go_at_call 15; with_reducible exact Calls.fut_of (whole_any _ _ _ (by assumption) _)) | (go_at_call 17; with_reducible exact Calls.fut_of (size_any _ _ _ (by assumption) _)))))); ((with_reducible refine wpQuiet_nil ?_)); rintro _ ⟨u, rfl⟩))
      go_ret; exact .mk rfl (by repeat' (first | exact Below.refl _ _ | with_reducible refine Below.alloc ?_ ?_ _ | with_reducible refine Below.fut ?_ ?_ _ | with_reducible refine Below.drew ?_ | with_reducible refine Below.setCell ?_ ?_ _ | (simp [go_sem]; done) | (simp [go_sem]; omega)))
  · have p2 := in_whole (a := a) (b := b) x h0
    have p3 := in_whole (a := a) (b := b) b h0
    go_enter Try.func4, Try.ntmps4
    go_wp2_with (first | (go_at_call 11; ((with_reducible refine (alive_any _).mono ?_)); rintro _ _ ⟨rfl, u, rfl⟩) | (go_at_call 14; ((with_reducible refine (in_any _ _ _ _ (by assumption) _).mono ?_)); rintro _ _ ⟨rfl, u, rfl⟩) | (go_at_call 19; ((with_reducible refine (within_any _ _ _ _ _ (by assumption) _).mono ?_)); rintro _ _ ⟨rfl, u, rfl⟩) | (go_at_call 16; ((with_reducible refine (apart_any _ _ _ _ _ (by assumption) _).mono ?_)); rintro _ _ ⟨rfl, u, rfl⟩) | (go_at_call 15; ((with_reducible refine (whole_any _ _ _ (by assumption) _).mono ?_)); rintro _ _ ⟨rfl, u, rfl⟩) | (go_at_call 17; ((with_reducible refine (size_any _ _ _ (by assumption) _).mono ?_)); rintro _ _ ⟨rfl, u, rfl⟩) | (((with_reducible refine wp_region_fut_lit (by kernel_rfl) (by kernel_rfl) ?_)); (repeat (go_big_quiet_step ((first | (go_at_call 11; with_reducible exact Calls.fut_of (alive_any _)) | (go_at_call 14; with_reducible exact Calls.fut_of (in_any _ _ _ _ (by assumption) _)) | (go_at_call 19; with_reducible exact Calls.fut_of (within_any _ _ _ _ _ (by assumption) _)) | (go_at_call 16; with_reducible exact Calls.fut_of (apart_any _ _ _ _ _ (by assumption) _)) | (go_at_call 15; with_reducible exact Calls.fut_of (whole_any _ _ _ (by assumption) _)) | (go_at_call 17; with_reducible exact Calls.fut_of (size_any _ _ _ (by assumption) _)))))); ((with_reducible refine wpQuiet_nil ?_)); rintro _ ⟨u, rfl⟩))
    go_ret; exact .mk rfl (by repeat' (first | exact Below.refl _ _ | with_reducible refine Below.alloc ?_ ?_ _ | with_reducible refine Below.fut ?_ ?_ _ | with_reducible refine Below.drew ?_ | with_reducible refine Below.setCell ?_ ?_ _ | (simp [go_sem]; done) | (simp [go_sem]; omega)))
set_option maxRecDepth 100000 in
theorem arcPoints_lifted (os : Os) (started : os.Started) (H : Type) (enc : TypeId × Value → H) :
    ReturnsInHanded {} Try.checked os 4 .any (Rows.arcPointsSpec.pre6 enc Try.prog Try.f4 Rows.arcPointsRow.domain false) (Rows.arcPointsSpec.post enc Try.prog Try.f4 false true false false) := by
  refine returnsInHanded_of_change (C := Try.checked) own started (by kernel_rfl) Try.func4
    (ChangeSpec.witness6 (enc := enc) (C := Try.checked) false ⟨#[], #[.agg #[.int .u64 0, .int .u64 0], .int .u64 0], []⟩ 8 (by kernel_rfl) (by kernel_rfl) (by kernel_rfl) (by kernel_rfl)) ?_
  intro W base args ds gs before hval0 hW hcnd _
  have hval : ∀ (j : Nat) t v, Try.f4.params[j]? = some t → args[j]? = some v → Value.okWide Try.prog W .any base t v := hval0
  have hW' := hW
  obtain ⟨p, q, hA0, hV, rfl, hfz, hnd⟩ := hW
  have hA : DataW.TrodAll enc Try.prog W 0 (fun _ => true) true Try.f4.params.toList args.toList ds p := hA0
  rw [Try.params4] at hA hval
  obtain ⟨v0, vs0, d0, ds0, p0, q0, hargs, rfl, rfl, h0, r0⟩ := trodAll_cons hA
  obtain ⟨v1, vs1, d1, ds1, p1, q1, rfl, rfl, rfl, h1, r1⟩ := trodAll_cons r0
  obtain ⟨rfl, rfl, rfl⟩ := trodAll_nil r1
  obtain rfl : args = #[v0, v1] := by cases args; simp_all
  obtain ⟨rfl, rfl⟩ := trodVars_none hV
  have k0 := h0
  have lt0 : ∀ x ∈ p0, x.block < W.heap.size := by obtain ⟨m, hm⟩ := k0; exact DataW.trod_lt m _ _ _ hm
  obtain ⟨c0, c1, y0, y1, m, rfl, -, -, hy0, hy1⟩ := open_agg2 Try.underlying24 (by kernel_rfl) (by kernel_rfl) (hval 0 24 v0 rfl rfl) h0
  obtain ⟨a0, e0, -, w0⟩ := DataW.trod_int Try.underlying22 hy0
  obtain ⟨b0, e1, -, z0⟩ := DataW.trod_int Try.underlying22 hy1
  simp at e0 e1
  subst e0 e1
  have k1 := h1
  have lt1 : ∀ x ∈ p1, x.block < W.heap.size := by obtain ⟨m, hm⟩ := k1; exact DataW.trod_lt m _ _ _ hm
  obtain ⟨a1, rfl, -, -, w1⟩ := open_int Try.underlying22 (hval 1 22 v1 rfl rfl) h1
  clear hA0 hval0
  refine (arcPoints_walk a0 w0 b0 z0 a1 w1 W).mono fun e W' ⟨he, u, hu⟩ => ?_
  subst he; subst hu
  have bel := u.below
  exact ⟨_, rfl, _, _, _, [], _, [], hW', trodAll_mk1 (shut_bool Try.underlying4 _), (trodAll_cons_mk (Below.trod laidOut (by kernel_rfl) (of_decide_eq_true (by kernel_rfl)) k0 bel lt0) (trodAll_cons_mk (Below.trod laidOut (by kernel_rfl) (of_decide_eq_true (by kernel_rfl)) k1 bel lt1) trodAll_mk0)), rfl, bel.frame _, fun h => by cases h⟩
/-- The statement. -/
theorem arcPoints_holds : Rows.ArcPointsSaid :=
  OpenClaim.holds_of_wide 4 Try.f4 rfl rfl rfl rfl rfl rfl rfl ⟨rfl, rfl, rfl, rfl, rfl⟩ rfl rfl rfl rfl rfl (by kernel_rfl) Try.func4 (by kernel_rfl)
    (of_decide_eq_true (by kernel_rfl)) (by unfold Func.isWrapper; first | (rw [if_pos (by decide +kernel)]; kernel_rfl) | (rw [if_neg (by decide +kernel)]; exact ⟨rfl, rfl⟩))
    (fun os started H enc _ => arcPoints_lifted os started H enc)
#print axioms arcPoints_holds
end Go.Proofs.Ytanodcpbochheaa
