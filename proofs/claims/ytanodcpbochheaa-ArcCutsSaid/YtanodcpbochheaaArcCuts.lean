/- ArcCuts answers true for every arc and every two points, and leaves its arguments as they were. No condition. -/
import Derived.Test.YtanodcpbochheaaArcMore
namespace Go.Proofs.Ytanodcpbochheaa
open Go.ChangeShapes Go.WideShapes Go.ChangeAt Go.RowKit Go.Joins
open Go.ChangeMaps (open_string shut_string)
set_option linter.unusedVariables false
set_option maxHeartbeats 4000000 in
theorem arcCuts_walk (a : Int) (ha : U64 a) (b : Int) (hb : U64 b) (x : Int) (hx : U64 x) (y : Int) (hy : U64 y) (w : World) :
    Calls Try.prog 10 #[.agg #[.int .u64 a, .int .u64 b], .int .u64 x, .int .u64 y] w (Makes (.bool true) w) := by
  cases hj : splitB a b x
  · go_enter Try.func10, Try.ntmps10
    go_wp2_with (first | (go_at_call 11; ((with_reducible refine (alive_any _).mono ?_)); rintro _ _ ⟨rfl, u, rfl⟩) | (go_at_call 20; ((with_reducible refine (split_no _ _ _ hj _).mono ?_)); rintro _ _ ⟨rfl, u, rfl⟩) | (((with_reducible refine wp_region_fut_lit (by kernel_rfl) (by kernel_rfl) ?_)); (repeat (go_big_quiet_step ((first | (go_at_call 11; with_reducible exact Calls.fut_of (alive_any _)) | (go_at_call 20; with_reducible exact Calls.fut_of (split_no _ _ _ hj _)))))); ((with_reducible refine wpQuiet_nil ?_)); rintro _ ⟨u, rfl⟩))
    go_ret; exact .mk rfl (by repeat' (first | exact Below.refl _ _ | with_reducible refine Below.alloc ?_ ?_ _ | with_reducible refine Below.fut ?_ ?_ _ | with_reducible refine Below.drew ?_ | with_reducible refine Below.setCell ?_ ?_ _ | (simp [go_sem]; done) | (simp [go_sem]; omega)))
  · obtain ⟨p1, p2, p3, p4⟩ := split_part ha hb hx hj
    obtain ⟨p5, p6⟩ := split_in ha hb hx hy hj
    have p7 := split_size ha hb hx
    obtain ⟨s1, q1⟩ : ∃ s, IntKind.u64.wrap (b - a) = s := ⟨_, rfl⟩
    obtain ⟨s2, q2⟩ : ∃ s, IntKind.u64.wrap (b - x) = s := ⟨_, rfl⟩
    obtain ⟨s3, q3⟩ : ∃ s, IntKind.u64.wrap (x - a) = s := ⟨_, rfl⟩
    rw [q1, q2, q3] at p7
    cases h0 : (a == b)
    all_goals
      cases h1 : inB a x y <;> cases h2 : inB x b y
      all_goals first
        | (exfalso; simp [h1, h2] at p6; done)
        | skip
      all_goals
        rw [h1, h2] at p5
        clear p6
        have p5' := p5.symm
        clear p5
        simp only [Bool.or_true, Bool.or_false, Bool.true_or] at p5'
        go_enter Try.func10, Try.ntmps10
        go_wp2_with (first | (go_at_call 11; ((with_reducible refine (alive_any _).mono ?_)); rintro _ _ ⟨rfl, u, rfl⟩) | (go_at_call 14; ((with_reducible refine (in_any _ _ _ _ (by assumption) _).mono ?_)); rintro _ _ ⟨rfl, u, rfl⟩) | (go_at_call 15; ((with_reducible refine (whole_any _ _ _ (by assumption) _).mono ?_)); rintro _ _ ⟨rfl, u, rfl⟩) | (go_at_call 17; ((with_reducible refine (size_any _ _ _ (by assumption) _).mono ?_)); rintro _ _ ⟨rfl, u, rfl⟩) | (go_at_call 16; ((with_reducible refine (apart_any _ _ _ _ _ (by assumption) _).mono ?_)); rintro _ _ ⟨rfl, u, rfl⟩) | (go_at_call 19; ((with_reducible refine (within_any _ _ _ _ _ (by assumption) _).mono ?_)); rintro _ _ ⟨rfl, u, rfl⟩) | (go_at_call 20; ((with_reducible refine (split_yes _ _ _ hj _).mono ?_)); rintro _ _ ⟨rfl, u, rfl⟩) | (go_at_call 18; ((with_reducible refine (join_yes _ _ _ _ p4 _).mono ?_)); rintro _ _ ⟨rfl, u, rfl⟩) | (((with_reducible refine wp_region_fut_lit (by kernel_rfl) (by kernel_rfl) ?_)); (repeat (go_big_quiet_step ((first | (go_at_call 11; with_reducible exact Calls.fut_of (alive_any _)) | (go_at_call 14; with_reducible exact Calls.fut_of (in_any _ _ _ _ (by assumption) _)) | (go_at_call 15; with_reducible exact Calls.fut_of (whole_any _ _ _ (by assumption) _)) | (go_at_call 17; with_reducible exact Calls.fut_of (size_any _ _ _ (by assumption) _)) | (go_at_call 16; with_reducible exact Calls.fut_of (apart_any _ _ _ _ _ (by assumption) _)) | (go_at_call 19; with_reducible exact Calls.fut_of (within_any _ _ _ _ _ (by assumption) _)) | (go_at_call 20; with_reducible exact Calls.fut_of (split_yes _ _ _ hj _)) | (go_at_call 18; with_reducible exact Calls.fut_of (join_yes _ _ _ _ p4 _)))))); ((with_reducible refine wpQuiet_nil ?_)); rintro _ ⟨u, rfl⟩))
        go_ret; exact .mk rfl (by repeat' (first | exact Below.refl _ _ | with_reducible refine Below.alloc ?_ ?_ _ | with_reducible refine Below.fut ?_ ?_ _ | with_reducible refine Below.drew ?_ | with_reducible refine Below.setCell ?_ ?_ _ | (simp [go_sem]; done) | (simp [go_sem]; omega)))
set_option maxRecDepth 100000 in
theorem arcCuts_lifted (os : Os) (started : os.Started) (H : Type) (enc : TypeId × Value → H) :
    ReturnsInHanded {} Try.checked os 10 .any (Rows.arcCutsSpec.pre6 enc Try.prog Try.f10 Rows.arcCutsRow.domain false) (Rows.arcCutsSpec.post enc Try.prog Try.f10 false true false false) := by
  refine returnsInHanded_of_change (C := Try.checked) own started (by kernel_rfl) Try.func10
    (ChangeSpec.witness6 (enc := enc) (C := Try.checked) false ⟨#[], #[.agg #[.int .u64 0, .int .u64 0], .int .u64 0, .int .u64 0], []⟩ 8 (by kernel_rfl) (by kernel_rfl) (by kernel_rfl) (by kernel_rfl)) ?_
  intro W base args ds gs before hval0 hW hcnd _
  have hval : ∀ (j : Nat) t v, Try.f10.params[j]? = some t → args[j]? = some v → Value.okWide Try.prog W .any base t v := hval0
  have hW' := hW
  obtain ⟨p, q, hA0, hV, rfl, hfz, hnd⟩ := hW
  have hA : DataW.TrodAll enc Try.prog W 0 (fun _ => true) true Try.f10.params.toList args.toList ds p := hA0
  rw [Try.params10] at hA hval
  obtain ⟨v0, vs0, d0, ds0, p0, q0, hargs, rfl, rfl, h0, r0⟩ := trodAll_cons hA
  obtain ⟨v1, vs1, d1, ds1, p1, q1, rfl, rfl, rfl, h1, r1⟩ := trodAll_cons r0
  obtain ⟨v2, vs2, d2, ds2, p2, q2, rfl, rfl, rfl, h2, r2⟩ := trodAll_cons r1
  obtain ⟨rfl, rfl, rfl⟩ := trodAll_nil r2
  obtain rfl : args = #[v0, v1, v2] := by cases args; simp_all
  obtain ⟨rfl, rfl⟩ := trodVars_none hV
  have k0 := h0
  have lt0 : ∀ x ∈ p0, x.block < W.heap.size := by obtain ⟨m, hm⟩ := k0; exact DataW.trod_lt m _ _ _ hm
  obtain ⟨c0, c1, y0, y1, m, rfl, -, -, hy0, hy1⟩ := open_agg2 Try.underlying24 (by kernel_rfl) (by kernel_rfl) (hval 0 24 v0 rfl rfl) h0
  obtain ⟨a0, e0, -, w0⟩ := DataW.trod_int Try.underlying22 hy0
  obtain ⟨b0, e1, -, z0⟩ := DataW.trod_int Try.underlying22 hy1
  simp at e0 e1
  subst e0 e1
  have k1 := h1
  have lt1 : ∀ x ∈ p1, x.block < W.heap.size := by obtain ⟨m, hm⟩ := k1; exact DataW.trod_lt m _ _ _ hm
  obtain ⟨a1, rfl, -, -, w1⟩ := open_int Try.underlying22 (hval 1 22 v1 rfl rfl) h1
  have k2 := h2
  have lt2 : ∀ x ∈ p2, x.block < W.heap.size := by obtain ⟨m, hm⟩ := k2; exact DataW.trod_lt m _ _ _ hm
  obtain ⟨a2, rfl, -, -, w2⟩ := open_int Try.underlying22 (hval 2 22 v2 rfl rfl) h2
  clear hA0 hval0
  refine (arcCuts_walk a0 w0 b0 z0 a1 w1 a2 w2 W).mono fun e W' ⟨he, u, hu⟩ => ?_
  subst he; subst hu
  have bel := u.below
  exact ⟨_, rfl, _, _, _, [], _, [], hW', trodAll_mk1 (shut_bool Try.underlying4 _), (trodAll_cons_mk (Below.trod laidOut (by kernel_rfl) (of_decide_eq_true (by kernel_rfl)) k0 bel lt0) (trodAll_cons_mk (Below.trod laidOut (by kernel_rfl) (of_decide_eq_true (by kernel_rfl)) k1 bel lt1) (trodAll_cons_mk (Below.trod laidOut (by kernel_rfl) (of_decide_eq_true (by kernel_rfl)) k2 bel lt2) trodAll_mk0))), rfl, bel.frame _, fun h => by cases h⟩
/-- The statement. -/
theorem arcCuts_holds : Rows.ArcCutsSaid :=
  OpenClaim.holds_of_wide 10 Try.f10 rfl rfl rfl rfl rfl rfl rfl ⟨rfl, rfl, rfl, rfl, rfl⟩ rfl rfl rfl rfl rfl (by kernel_rfl) Try.func10 (by kernel_rfl)
    (of_decide_eq_true (by kernel_rfl)) (by unfold Func.isWrapper; first | (rw [if_pos (by decide +kernel)]; kernel_rfl) | (rw [if_neg (by decide +kernel)]; exact ⟨rfl, rfl⟩))
    (fun os started H enc _ => arcCuts_lifted os started H enc)
#print axioms arcCuts_holds
end Go.Proofs.Ytanodcpbochheaa
