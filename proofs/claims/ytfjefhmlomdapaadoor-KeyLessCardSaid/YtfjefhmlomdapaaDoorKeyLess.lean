/- KeyLess answers true for every three texts, and leaves its arguments as they were. No condition. (A card: what the listed variables hold is tied to the program's text.) -/
import Derived.Test.YtfjefhmlomdapaaDoorKeyAlive
import Derived.Test.YtfjefhmlomdapaaDoorCFrame
namespace Go.Proofs.YtfjefhmlomdapaaDoor
open Go.ChangeShapes Go.WideShapes Go.ChangeAt Go.RowKit Go.Joins
open Go.ChangeMaps (open_string shut_string)
set_option linter.unusedVariables false
set_option maxRecDepth 100000 in
set_option maxHeartbeats 4000000 in
theorem keyLess_walk (a : ByteArray) (sa : a.size ≤ maxLen) (b : ByteArray) (sb : b.size ≤ maxLen) (c : ByteArray) (sc : c.size ≤ maxLen) (w : World) :
    Calls Tryd.prog 4 #[.string a, .string b, .string c] w (Makes (.bool true) w) := by
  rcases Nat.lt_or_ge 60 a.size with ga | ga
  · go_enter Tryd.func4, Tryd.ntmps4
    go_wp2_with (first | (go_at_call 10; ((with_reducible refine (alive_any _).mono ?_)); rintro _ _ ⟨rfl, u, rfl⟩) | (go_at_call 11; ((with_reducible refine (less_is _ _ (by assumption) (by assumption) _ (by assumption) _).mono ?_)); rintro _ _ ⟨rfl, u, rfl⟩) | (((with_reducible refine wp_region_fut_lit (by kernel_rfl) (by kernel_rfl) ?_)); (repeat (go_big_quiet_step ((first | (go_at_call 10; with_reducible exact Calls.fut_of (alive_any _)) | (go_at_call 11; with_reducible exact Calls.fut_of (less_is _ _ (by assumption) (by assumption) _ (by assumption) _)))))); ((with_reducible refine wpQuiet_nil ?_)); rintro _ ⟨u, rfl⟩))
    go_ret; exact .mk rfl (by repeat' (first | exact Below.refl _ _ | with_reducible refine Below.alloc ?_ ?_ _ | with_reducible refine Below.fut ?_ ?_ _ | with_reducible refine Below.drew ?_ | with_reducible refine Below.setCell ?_ ?_ _ | (simp [go_sem]; done) | (simp [go_sem]; omega)))
  rcases Nat.lt_or_ge 60 b.size with gb | gb
  · go_enter Tryd.func4, Tryd.ntmps4
    go_wp2_with (first | (go_at_call 10; ((with_reducible refine (alive_any _).mono ?_)); rintro _ _ ⟨rfl, u, rfl⟩) | (go_at_call 11; ((with_reducible refine (less_is _ _ (by assumption) (by assumption) _ (by assumption) _).mono ?_)); rintro _ _ ⟨rfl, u, rfl⟩) | (((with_reducible refine wp_region_fut_lit (by kernel_rfl) (by kernel_rfl) ?_)); (repeat (go_big_quiet_step ((first | (go_at_call 10; with_reducible exact Calls.fut_of (alive_any _)) | (go_at_call 11; with_reducible exact Calls.fut_of (less_is _ _ (by assumption) (by assumption) _ (by assumption) _)))))); ((with_reducible refine wpQuiet_nil ?_)); rintro _ ⟨u, rfl⟩))
    go_ret; exact .mk rfl (by repeat' (first | exact Below.refl _ _ | with_reducible refine Below.alloc ?_ ?_ _ | with_reducible refine Below.fut ?_ ?_ _ | with_reducible refine Below.drew ?_ | with_reducible refine Below.setCell ?_ ?_ _ | (simp [go_sem]; done) | (simp [go_sem]; omega)))
  rcases Nat.lt_or_ge 60 c.size with gc | gc
  · go_enter Tryd.func4, Tryd.ntmps4
    go_wp2_with (first | (go_at_call 10; ((with_reducible refine (alive_any _).mono ?_)); rintro _ _ ⟨rfl, u, rfl⟩) | (go_at_call 11; ((with_reducible refine (less_is _ _ (by assumption) (by assumption) _ (by assumption) _).mono ?_)); rintro _ _ ⟨rfl, u, rfl⟩) | (((with_reducible refine wp_region_fut_lit (by kernel_rfl) (by kernel_rfl) ?_)); (repeat (go_big_quiet_step ((first | (go_at_call 10; with_reducible exact Calls.fut_of (alive_any _)) | (go_at_call 11; with_reducible exact Calls.fut_of (less_is _ _ (by assumption) (by assumption) _ (by assumption) _)))))); ((with_reducible refine wpQuiet_nil ?_)); rintro _ ⟨u, rfl⟩))
    go_ret; exact .mk rfl (by repeat' (first | exact Below.refl _ _ | with_reducible refine Below.alloc ?_ ?_ _ | with_reducible refine Below.fut ?_ ?_ _ | with_reducible refine Below.drew ?_ | with_reducible refine Below.setCell ?_ ?_ _ | (simp [go_sem]; done) | (simp [go_sem]; omega)))
  have sab : (a ++ b).size ≤ maxLen := by unfold maxLen; rw [ByteArray.size_append]; omega
  have hi := less_irrefl a.data.toList
  have hp : b.toList.isEmpty = false → Op.bytesLess a.data.toList (a ++ b).data.toList = true := by
    intro h
    rw [show (a ++ b).data.toList = a.data.toList ++ b.data.toList by simp]
    refine less_append _ _ (fun e => ?_)
    rw [ByteArray.toList_eq, e] at h; cases h
  have ht := less_trans a.data.toList b.data.toList c.data.toList
  have hq : (a.toList == b.toList) = false → Op.bytesLess b.data.toList a.data.toList = !Op.bytesLess a.data.toList b.data.toList := by
    intro h
    refine less_total _ _ (fun e => ?_)
    rw [ByteArray.toList_eq, ByteArray.toList_eq, e] at h; simp at h
  cases h1 : Op.bytesLess a.data.toList b.data.toList <;> cases h2 : Op.bytesLess b.data.toList c.data.toList <;> cases h3 : b.toList.isEmpty <;> cases h4 : (a.toList == b.toList)
  all_goals
    rw [h1, h2] at ht
    rw [h3] at hp
    rw [h1, h4] at hq
    simp only [Bool.not_true, Bool.not_false, forall_const, true_implies, false_implies, reduceCtorEq] at ht hp hq
    go_enter Tryd.func4, Tryd.ntmps4
    go_wp2_with (first | (go_at_call 10; ((with_reducible refine (alive_any _).mono ?_)); rintro _ _ ⟨rfl, u, rfl⟩) | (go_at_call 11; ((with_reducible refine (less_is _ _ (by assumption) (by assumption) _ (by assumption) _).mono ?_)); rintro _ _ ⟨rfl, u, rfl⟩) | (((with_reducible refine wp_region_fut_lit (by kernel_rfl) (by kernel_rfl) ?_)); (repeat (go_big_quiet_step ((first | (go_at_call 10; with_reducible exact Calls.fut_of (alive_any _)) | (go_at_call 11; with_reducible exact Calls.fut_of (less_is _ _ (by assumption) (by assumption) _ (by assumption) _)))))); ((with_reducible refine wpQuiet_nil ?_)); rintro _ ⟨u, rfl⟩))
    go_ret; exact .mk rfl (by repeat' (first | exact Below.refl _ _ | with_reducible refine Below.alloc ?_ ?_ _ | with_reducible refine Below.fut ?_ ?_ _ | with_reducible refine Below.drew ?_ | with_reducible refine Below.setCell ?_ ?_ _ | (simp [go_sem]; done) | (simp [go_sem]; omega)))
theorem keyLess_contract (H : Type) (enc : TypeId × Value → H) (W : World) (base : Nat) (args : Array Value) (ds gs : List (DataW H)) (before : List MemPlace)
    (hval0 : ∀ (j : Nat) t v, Tryd.f4.params[j]? = some t → args[j]? = some v → Value.okWide Tryd.prog W .any base t v)
    (hW : DataW.Whole enc Tryd.prog Tryd.f4.params.toList Rows.keyLessSpec.vars false W args.toList ds gs before) (hL : laidMetH Tryd.prog Rows.keyLessRow.laid W) :
    Calls Tryd.prog 4 args W fun e W' => ∃ v, e = .returned v ∧ Rows.keyLessSpec.post enc Tryd.prog Tryd.f4 false true false false W args v W' := by
  have hval := hval0
  have hW' := hW
  obtain ⟨p, q, hA0, hV, rfl, hfz, hnd⟩ := hW
  have hA : DataW.TrodAll enc Tryd.prog W 0 (fun _ => true) true Tryd.f4.params.toList args.toList ds p := hA0
  rw [Tryd.params4] at hA hval
  obtain ⟨v0, vs0, d0, ds0, p0, q0, hargs, rfl, rfl, h0, r0⟩ := trodAll_cons hA
  obtain ⟨v1, vs1, d1, ds1, p1, q1, rfl, rfl, rfl, h1, r1⟩ := trodAll_cons r0
  obtain ⟨v2, vs2, d2, ds2, p2, q2, rfl, rfl, rfl, h2, r2⟩ := trodAll_cons r1
  obtain ⟨rfl, rfl, rfl⟩ := trodAll_nil r2
  obtain rfl : args = #[v0, v1, v2] := by cases args; simp_all
  obtain ⟨rfl, rfl⟩ := trodVars_none hV
  have k0 := h0
  have lt0 : ∀ x ∈ p0, x.block < W.heap.size := by obtain ⟨m, hm⟩ := k0; exact DataW.trod_lt m _ _ _ hm
  obtain ⟨a0, rfl, -, -, w0⟩ := open_string Tryd.underlying9 (hval 0 9 v0 rfl rfl) h0
  have k1 := h1
  have lt1 : ∀ x ∈ p1, x.block < W.heap.size := by obtain ⟨m, hm⟩ := k1; exact DataW.trod_lt m _ _ _ hm
  obtain ⟨a1, rfl, -, -, w1⟩ := open_string Tryd.underlying9 (hval 1 9 v1 rfl rfl) h1
  have k2 := h2
  have lt2 : ∀ x ∈ p2, x.block < W.heap.size := by obtain ⟨m, hm⟩ := k2; exact DataW.trod_lt m _ _ _ hm
  obtain ⟨a2, rfl, -, -, w2⟩ := open_string Tryd.underlying9 (hval 2 9 v2 rfl rfl) h2
  clear hA0 hval0
  refine (keyLess_walk a0 w0 a1 w1 a2 w2 W).mono fun e W' ⟨he, u, hu⟩ => ?_
  subst he; subst hu
  have bel := u.below
  exact ⟨_, rfl, _, _, _, [], _, [], hW', trodAll_mk1 (shut_bool Tryd.underlying4 _), (trodAll_cons_mk (Below.trod laidOut (by kernel_rfl) (of_decide_eq_true (by kernel_rfl)) k0 bel lt0) (trodAll_cons_mk (Below.trod laidOut (by kernel_rfl) (of_decide_eq_true (by kernel_rfl)) k1 bel lt1) (trodAll_cons_mk (Below.trod laidOut (by kernel_rfl) (of_decide_eq_true (by kernel_rfl)) k2 bel lt2) trodAll_mk0))), rfl, bel.frame _, fun h => by cases h⟩
theorem keyLess_laid (os : Os) : laidMet Tryd.prog Rows.keyLessRow.laid ((laidWorld os).forCall (fun _ _ => 0) ⟨#[], #[.string ByteArray.empty, .string ByteArray.empty, .string ByteArray.empty], []⟩).memory :=
  laidMet_of_run' 8 (by kernel_rfl) (by kernel_rfl)
theorem keyLess_reads (os : Os) {H : Type} (enc : TypeId × Value → H) : ∃ places, DataW.whole enc Tryd.prog ((laidWorld os).forCall (fun _ _ => 0) ⟨#[], #[.string ByteArray.empty, .string ByteArray.empty, .string ByteArray.empty], []⟩).memory Tryd.f4.params.toList Rows.keyLessSpec.vars false (#[.string ByteArray.empty, .string ByteArray.empty, .string ByteArray.empty] : Array Value).toList 8 = some ([.lit (.string []), .lit (.string []), .lit (.string [])], [], places) :=
  ⟨[], by kernel_rfl⟩
set_option maxRecDepth 100000 in
theorem keyLess_lifted (os : Os) (started : os.Started) (H : Type) (enc : TypeId × Value → H) (F : Stop.Interp) :
    ReturnsInHanded {} Tryd.checked os 4 .any ((OpenSpec.ofChange Rows.keyLessSpec).preRow enc Tryd.prog Tryd.f4 Rows.keyLessRow.domain false Rows.keyLessRow.laid) (((OpenSpec.ofChange Rows.keyLessSpec).at F).post enc Tryd.prog Tryd.f4 false true false false) := by
  obtain ⟨places, hx⟩ := keyLess_reads os enc
  refine returnsInHanded_of_row (C := Tryd.checked) (s := OpenSpec.ofChange Rows.keyLessSpec) own started (by kernel_rfl) Tryd.func4
    (witness_row_at (enc := enc) (C := Tryd.checked) false (laidWorld os) #[.string ByteArray.empty, .string ByteArray.empty, .string ByteArray.empty] rfl (by kernel_rfl) (by kernel_rfl) (by kernel_rfl)
      (OpenSpec.preRow_of_cond 8 hx (by kernel_rfl) (fun k hk => by cases hk) (by kernel_rfl) (keyLess_laid os))) ?_
  intro W base args ds gs before hval hW _ _ _ hL _ _
  exact keyLess_contract H enc W base args ds gs before hval hW hL
theorem keyLess_said : Rows.KeyLessSaid :=
  OpenClaim.holds_of_cond 4 Tryd.f4 rfl rfl rfl rfl rfl rfl rfl ⟨rfl, rfl, rfl, rfl, rfl⟩ rfl rfl rfl rfl rfl (by kernel_rfl) Tryd.func4 (by kernel_rfl)
    (of_decide_eq_true (by kernel_rfl)) (by unfold Func.isWrapper; first | (rw [if_pos (by decide +kernel)]; kernel_rfl) | (rw [if_neg (by decide +kernel)]; exact ⟨rfl, rfl⟩))
    (fun os started H enc _ F => by rw [OpenClaim.pre_eq_preRow]; exact keyLess_lifted os started H enc F)
theorem keyLess_plain (f : FuncId) (fn : Func) (hf : Tryd.pinned.checked.prog.funcNamed "rosary/rosarylaw1.KeyLess" = some f) (hfn : Tryd.pinned.checked.prog.funcs[f]? = some fn) :
    false = Tryd.pinned.checked.prog.looks [] ∧ ∀ (j : Nat) t, fn.params[j]? = some t → Tryd.pinned.checked.prog.wantsStandIn t = false := by
  obtain rfl : f = 4 := Option.some.inj ((show Tryd.prog.funcNamed "rosary/rosarylaw1.KeyLess" = some 4 by kernel_rfl).symm.trans hf) |>.symm
  obtain rfl : fn = Tryd.f4 := (Option.some.inj (Tryd.func4.symm.trans hfn)).symm
  refine ⟨by kernel_rfl, fun j t ht => ?_⟩
  rw [Tryd.params4] at ht
  have hm := Array.mem_of_getElem? ht
  simp at hm
  subst hm
  all_goals first | exact (show Tryd.prog.wantsStandIn 9 = false by kernel_rfl)
/-- The statement. -/
theorem keyLess_holds : Rows.KeyLessCardSaid :=
  Claim7.holds_tied_plain_at .later [] _ _ _ _ keyLess_said (fun _ h => by cases h) (by kernel_rfl) (fun _ h => by cases h) keyLess_row_tie rfl ⟨rfl, rfl⟩ (by kernel_rfl) rfl keyLess_plain (by kernel_rfl)
#print axioms keyLess_holds
end Go.Proofs.YtfjefhmlomdapaaDoor
