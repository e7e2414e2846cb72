/- ScanFails answers true for every list of items and every number, and leaves its arguments as they were. No condition. -/
import Derived.Test.YthgajbfgolcpkaaScan8
import Derived.Test.YthgajbfgolcpkaaItems
import Derived.Test.YthgajbfgolcpkaaFrame
namespace Go.Proofs.Ythgajbfgolcpkaa
open Go.ChangeShapes Go.WideShapes Go.ChangeAt Go.RowKit Go.Joins
open Go.ChangeMaps (open_string shut_string)
set_option linter.unusedVariables false
set_option linter.unusedSimpArgs false
theorem ItemsAt.slice {W : World} {v : Value} {its : List It} (h : ItemsAt W v its) : ∃ ao cap, v = .slice ao its.length cap := by
  rcases h.form with ⟨rfl, rfl⟩ | ⟨a, cap, rfl, _⟩
  · exact ⟨_, _, rfl⟩
  · exact ⟨_, _, rfl⟩
set_option maxRecDepth 100000 in
set_option maxHeartbeats 4000000 in
theorem scanFails_walk (w : World) (v : Value) (its : List It) (hi : ItemsAt w v its) (e : Int) (we : (Lit.int .i64 e).wf = true) :
    Calls Try.prog 11 #[v, .int .i64 e] w (Makes (.bool true) w) := by
  clear we
  have hs := hi.src
  obtain ⟨ao, cap, rfl⟩ := hi.slice
  clear hi
  generalize hn : its.length = n at hs ⊢
  generalize flat its = news at hs
  clear hn
  rcases Nat.lt_or_ge 20 n with c | c
  · clear hs
    go_enter Try.func11, Try.ntmps11
    go_wp2_with (first | (go_at_call 27; ((with_reducible refine (scanAlive_any _).mono ?_)); rintro _ _ ⟨rfl, u, rfl⟩; (try (rw [Fut.put_self u (by first | assumption | (simp [go_sem]; done) | (simp [go_sem]; omega))]))) | (((with_reducible refine wp_region_fut_lit (by kernel_rfl) (by kernel_rfl) ?_)); (repeat (go_big_quiet_step ((first | (go_at_call 27; with_reducible exact Calls.fut_of (scanAlive_any _)))))); ((with_reducible refine wpQuiet_nil ?_)); rintro _ ⟨u, rfl⟩; (try (rw [Fut.put_self u (by first | assumption | (simp [go_sem]; done) | (simp [go_sem]; omega))]))))
    go_ret; exact .mk (by first | rfl | (simp; done) | (simp; omega)) (by repeat' (first | exact Below.refl _ _ | with_reducible assumption | omega | with_reducible refine below_put_fut ?_ ?_ _ | with_reducible refine below_to_put ?_ | with_reducible refine Below.alloc ?_ ?_ _ | with_reducible refine Below.fut ?_ ?_ _ | with_reducible refine Below.drew ?_ | with_reducible refine Below.setCell ?_ ?_ _ | with_reducible refine Below.atPut ?_ ?_ _ | (simp [go_sem]; done) | (simp [go_sem]; omega)))
  rcases Decidable.em (e = 0) with rfl | e0
  · clear hs
    go_enter Try.func11, Try.ntmps11
    go_wp2_with (first | (go_at_call 27; ((with_reducible refine (scanAlive_any _).mono ?_)); rintro _ _ ⟨rfl, u, rfl⟩; (try (rw [Fut.put_self u (by first | assumption | (simp [go_sem]; done) | (simp [go_sem]; omega))]))) | (((with_reducible refine wp_region_fut_lit (by kernel_rfl) (by kernel_rfl) ?_)); (repeat (go_big_quiet_step ((first | (go_at_call 27; with_reducible exact Calls.fut_of (scanAlive_any _)))))); ((with_reducible refine wpQuiet_nil ?_)); rintro _ ⟨u, rfl⟩; (try (rw [Fut.put_self u (by first | assumption | (simp [go_sem]; done) | (simp [go_sem]; omega))]))))
    go_ret; exact .mk (by first | rfl | (simp; done) | (simp; omega)) (by repeat' (first | exact Below.refl _ _ | with_reducible assumption | omega | with_reducible refine below_put_fut ?_ ?_ _ | with_reducible refine below_to_put ?_ | with_reducible refine Below.alloc ?_ ?_ _ | with_reducible refine Below.fut ?_ ?_ _ | with_reducible refine Below.drew ?_ | with_reducible refine Below.setCell ?_ ?_ _ | with_reducible refine Below.atPut ?_ ?_ _ | (simp [go_sem]; done) | (simp [go_sem]; omega)))
  rcases Decidable.em (e = 7) with rfl | e7
  · clear hs
    go_enter Try.func11, Try.ntmps11
    go_wp2_with (first | (go_at_call 27; ((with_reducible refine (scanAlive_any _).mono ?_)); rintro _ _ ⟨rfl, u, rfl⟩; (try (rw [Fut.put_self u (by first | assumption | (simp [go_sem]; done) | (simp [go_sem]; omega))]))) | (((with_reducible refine wp_region_fut_lit (by kernel_rfl) (by kernel_rfl) ?_)); (repeat (go_big_quiet_step ((first | (go_at_call 27; with_reducible exact Calls.fut_of (scanAlive_any _)))))); ((with_reducible refine wpQuiet_nil ?_)); rintro _ ⟨u, rfl⟩; (try (rw [Fut.put_self u (by first | assumption | (simp [go_sem]; done) | (simp [go_sem]; omega))]))))
    go_ret; exact .mk (by first | rfl | (simp; done) | (simp; omega)) (by repeat' (first | exact Below.refl _ _ | with_reducible assumption | omega | with_reducible refine below_put_fut ?_ ?_ _ | with_reducible refine below_to_put ?_ | with_reducible refine Below.alloc ?_ ?_ _ | with_reducible refine Below.fut ?_ ?_ _ | with_reducible refine Below.drew ?_ | with_reducible refine Below.setCell ?_ ?_ _ | with_reducible refine Below.atPut ?_ ?_ _ | (simp [go_sem]; done) | (simp [go_sem]; omega)))
  rcases Decidable.em (e = 8) with rfl | e8
  · clear hs
    go_enter Try.func11, Try.ntmps11
    go_wp2_with (first | (go_at_call 27; ((with_reducible refine (scanAlive_any _).mono ?_)); rintro _ _ ⟨rfl, u, rfl⟩; (try (rw [Fut.put_self u (by first | assumption | (simp [go_sem]; done) | (simp [go_sem]; omega))]))) | (((with_reducible refine wp_region_fut_lit (by kernel_rfl) (by kernel_rfl) ?_)); (repeat (go_big_quiet_step ((first | (go_at_call 27; with_reducible exact Calls.fut_of (scanAlive_any _)))))); ((with_reducible refine wpQuiet_nil ?_)); rintro _ ⟨u, rfl⟩; (try (rw [Fut.put_self u (by first | assumption | (simp [go_sem]; done) | (simp [go_sem]; omega))]))))
    go_ret; exact .mk (by first | rfl | (simp; done) | (simp; omega)) (by repeat' (first | exact Below.refl _ _ | with_reducible assumption | omega | with_reducible refine below_put_fut ?_ ?_ _ | with_reducible refine below_to_put ?_ | with_reducible refine Below.alloc ?_ ?_ _ | with_reducible refine Below.fut ?_ ?_ _ | with_reducible refine Below.drew ?_ | with_reducible refine Below.setCell ?_ ?_ _ | with_reducible refine Below.atPut ?_ ?_ _ | (simp [go_sem]; done) | (simp [go_sem]; omega)))
  have b0 : (e == 0) = false := by simpa using e0
  have b0' : (e != 0) = true := by simpa using e0
  have b7 : (e == 7) = false := by simpa using e7
  have b7' : (e != 7) = true := by simpa using e7
  have b8 : (e == 8) = false := by simpa using e8
  have b8' : (e != 8) = true := by simpa using e8
  have bs : (e == e) = true := by simp
  clear e0 e7 e8
  have HS := hid hs
  clear hs
  go_enter Try.func11, Try.ntmps11
  go_wp2_with (first | (go_at_call 27; ((with_reducible refine (scanAlive_any _).mono ?_)); rintro _ _ ⟨rfl, u, rfl⟩; (try (rw [Fut.put_self u (by first | assumption | (simp [go_sem]; done) | (simp [go_sem]; omega))]))) | (((with_reducible refine wp_region_fut_lit (by kernel_rfl) (by kernel_rfl) ?_)); (repeat (go_big_quiet_step ((first | (go_at_call 27; with_reducible exact Calls.fut_of (scanAlive_any _)))))); ((with_reducible refine wpQuiet_nil ?_)); rintro _ ⟨u, rfl⟩; (try (rw [Fut.put_self u (by first | assumption | (simp [go_sem]; done) | (simp [go_sem]; omega))]))))
  rename_i u _
  (((with_reducible refine (new_is 100 3 (by omega) (by omega) ⟨w, fun _ => none⟩ (hid fun _ => rfl) _ (by repeat' (first | exact Below.refl _ _ | with_reducible assumption | omega | with_reducible refine below_put_fut ?_ ?_ _ | with_reducible refine below_to_put ?_ | with_reducible refine Below.alloc ?_ ?_ _ | with_reducible refine Below.fut ?_ ?_ _ | with_reducible refine Below.drew ?_ | with_reducible refine Below.setCell ?_ ?_ _ | with_reducible refine Below.atPut ?_ ?_ _ | (simp [go_sem]; done) | (simp [go_sem]; omega)))).mono ?_)); rintro _ W1 ⟨g, rfl, h1⟩)
  go_wp2_with fail
  (((with_reducible refine (start_is _ _ _ _ _ _ _ h1 rfl _ _ 40 0 (by decide) (by decide) (by omega) (by omega) (by omega) (show (0 : Int) < 3 by decide) (show (0 : Int) ≤ 30000 by decide) (show (30000 : Int) < 1000000 by decide)).mono ?_)); rintro _ W2 ⟨L, rfl, hL, h2⟩)
  simp only [show (30000 : Int) + 1 = 30001 from rfl] at hL h2
  have HS2 := hid (HS.out.heap h2.below)
  clear h1 HS
  go_wp2_with fail
  (((with_reducible refine (got_more _ _ _ _ _ _ _ h2 rfl rfl ⟨100, 0, ⟨#[]⟩, ⟨#[]⟩, ⟨#[]⟩, 0, 0, ⟨#[]⟩, .slice ao n cap, true, ⟨#[107]⟩, 0, 0, 0, 0, .slice none 0 0, 0, 0⟩ rfl rfl n news HS2.out (by omega) (by omega) (show ((0 : Nat) : Int) + (n : Int) < 40 by omega) (show (40 : Int) ≤ 100 by decide) (show Op.bytesLess [] [107] = true by decide) (by decide) (show (⟨#[107]⟩ : ByteArray).size ≤ maxLen by decide) (show (0 : Int) ≤ 30001 by decide) (show (30001 : Int) < 1000000 by decide)).mono ?_)); rintro _ W3 ⟨v3, L3, rfl, hL3, h4⟩)
  simp only [show (30001 : Int) + 1 = 30002 from rfl] at hL3 h4
  clear h2 hL hL3
  go_wp2_with fail
  (((with_reducible refine (got_bad _ _ _ _ _ _ _ h4 rfl rfl ⟨100, 0, ⟨#[]⟩, ⟨#[]⟩, ⟨#[]⟩, 0, e, ⟨#[]⟩, .slice none 0 0, false, ⟨#[]⟩, 0, 0, 0, 0, .slice none 0 0, 0, 0⟩ e rfl b0 b0' b7 b7' b8 b8').mono ?_)); rintro _ W4 ⟨rfl, h6⟩)
  clear h4
  go_wp2_with fail
  (((with_reducible refine (result_is _ _ _ _ _ _ _ h6 rfl (by omega) (by simp)).mono ?_)); rintro _ W5 ⟨ao5, cc5, rfl, hO, h7⟩)
  have hB := h7.below
  clear h7 h6 hO
  go_wp2_with fail
  go_ret
  exact .mk (by first | rfl | simp) hB
set_option maxRecDepth 100000 in
theorem scanFails_lifted (os : Os) (started : os.Started) (H : Type) (enc : TypeId × Value → H) :
    ReturnsInHanded {} Try.checked os 11 .any (Rows.scanFailsSpec.pre6 enc Try.prog Try.f11 Rows.scanFailsRow.domain false) (Rows.scanFailsSpec.post enc Try.prog Try.f11 false true false false) := by
  refine returnsInHanded_of_change (C := Try.checked) own started (by kernel_rfl) Try.func11
    (ChangeSpec.witness6 (enc := enc) (C := Try.checked) false ⟨#[], #[.slice none 0 0, .int .i64 0], []⟩ 8 (by kernel_rfl) (by kernel_rfl) (by kernel_rfl) (by kernel_rfl)) ?_
  intro W base args ds gs before hval0 hW hcnd _
  have hval : ∀ (j : Nat) t v, Try.f11.params[j]? = some t → args[j]? = some v → Value.okWide Try.prog W .any base t v := hval0
  have hW' := hW
  obtain ⟨p, q, hA0, hV, rfl, hfz, hnd⟩ := hW
  have hA : DataW.TrodAll enc Try.prog W 0 (fun _ => true) true Try.f11.params.toList args.toList ds p := hA0
  rw [Try.params11] at hA hval
  obtain ⟨v0, vs0, d0, ds0, p0, q0, hargs, rfl, rfl, h0, r0⟩ := trodAll_cons hA
  obtain ⟨v1, vs1, d1, ds1, p1, q1, rfl, rfl, rfl, h1, r1⟩ := trodAll_cons r0
  obtain ⟨rfl, rfl, rfl⟩ := trodAll_nil r1
  obtain rfl : args = #[v0, v1] := by cases args; simp_all
  obtain ⟨rfl, rfl⟩ := trodVars_none hV
  have k0 := h0
  have lt0 : ∀ x ∈ p0, x.block < W.heap.size := by obtain ⟨m, hm⟩ := k0; exact DataW.trod_lt m _ _ _ hm
  obtain ⟨l0, w0⟩ := open_items (hval 0 29 v0 rfl rfl) h0
  have k1 := h1
  have lt1 : ∀ x ∈ p1, x.block < W.heap.size := by obtain ⟨m, hm⟩ := k1; exact DataW.trod_lt m _ _ _ hm
  obtain ⟨a1, rfl, -, -, w1⟩ := open_int Try.underlying3 (hval 1 3 v1 rfl rfl) h1
  clear hA0 hval0
  refine (scanFails_walk W _ l0 w0 a1 w1).mono fun e W' ⟨he, u, hu⟩ => ?_
  subst he; subst hu
  have bel := u.below
  exact ⟨_, rfl, _, _, _, [], _, [], hW', trodAll_mk1 (shut_bool Try.underlying4 _), (trodAll_cons_mk (Below.trod laidOut (by kernel_rfl) (of_decide_eq_true (by kernel_rfl)) k0 bel lt0) (trodAll_cons_mk (Below.trod laidOut (by kernel_rfl) (of_decide_eq_true (by kernel_rfl)) k1 bel lt1) trodAll_mk0)), rfl, bel.frame _, fun h => by cases h⟩
/-- The statement. -/
theorem scanFails_holds : Rows.ScanFailsSaid :=
  OpenClaim.holds_of_wide 11 Try.f11 rfl rfl rfl rfl rfl rfl rfl ⟨rfl, rfl, rfl, rfl, rfl⟩ rfl rfl rfl rfl rfl (by kernel_rfl) Try.func11 (by kernel_rfl)
    (of_decide_eq_true (by kernel_rfl)) (by unfold Func.isWrapper; first | (rw [if_pos (by decide +kernel)]; kernel_rfl) | (rw [if_neg (by decide +kernel)]; exact ⟨rfl, rfl⟩))
    (fun os started H enc _ => scanFails_lifted os started H enc)
#print axioms scanFails_holds
end Go.Proofs.Ythgajbfgolcpkaa
