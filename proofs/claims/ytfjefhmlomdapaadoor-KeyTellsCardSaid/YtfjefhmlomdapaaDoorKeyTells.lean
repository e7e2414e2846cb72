/- KeyTells answers true for every two texts and every number, and leaves its arguments as they were. No condition. (A card.) -/
import Derived.Test.YtfjefhmlomdapaaDoorKeyAlive
import Derived.Test.YtfjefhmlomdapaaDoorCFrame
import Derived.Laws.BytesArg
namespace Go.Proofs.YtfjefhmlomdapaaDoor
open Go.ChangeShapes Go.WideShapes Go.ChangeAt Go.RowKit Go.Joins
open Go.ChangeMaps (open_string shut_string)
set_option linter.unusedVariables false
set_option linter.unusedSimpArgs false
set_option maxRecDepth 100000 in
set_option maxHeartbeats 4000000 in
theorem keyTells_walk (a : ByteArray) (sa : a.size ≤ maxLen) (b : ByteArray) (sb : b.size ≤ maxLen) (xi : Int) (hxi : U64 xi) (w : World) :
    Calls Tryd.prog 8 #[.string a, .string b, .int .u64 xi] w (Makes (.bool true) w) := by
  rcases Nat.lt_or_ge 100 a.size with ga | ga
  · go_enter Tryd.func8, Tryd.ntmps8
    go_wp2_with (first | (go_at_call 10; ((with_reducible refine (alive_any _).mono ?_)); rintro _ _ ⟨rfl, u, rfl⟩) | (((with_reducible refine wp_region_fut_lit (by kernel_rfl) (by kernel_rfl) ?_)); (repeat (go_big_quiet_step ((first | (go_at_call 10; with_reducible exact Calls.fut_of (alive_any _)))))); ((with_reducible refine wpQuiet_nil ?_)); rintro _ ⟨u, rfl⟩))
    go_ret; exact .mk (by first | rfl | (simp; done) | (simp; omega)) (by repeat' (first | exact Below.refl _ _ | with_reducible refine Below.alloc ?_ ?_ _ | with_reducible refine Below.fut ?_ ?_ _ | with_reducible refine Below.drew ?_ | with_reducible refine Below.setCell ?_ ?_ _ | (simp [go_sem]; done) | (simp [go_sem]; omega)))
  rcases Nat.lt_or_ge 100 b.size with gb | gb
  · go_enter Tryd.func8, Tryd.ntmps8
    go_wp2_with (first | (go_at_call 10; ((with_reducible refine (alive_any _).mono ?_)); rintro _ _ ⟨rfl, u, rfl⟩) | (((with_reducible refine wp_region_fut_lit (by kernel_rfl) (by kernel_rfl) ?_)); (repeat (go_big_quiet_step ((first | (go_at_call 10; with_reducible exact Calls.fut_of (alive_any _)))))); ((with_reducible refine wpQuiet_nil ?_)); rintro _ ⟨u, rfl⟩))
    go_ret; exact .mk (by first | rfl | (simp; done) | (simp; omega)) (by repeat' (first | exact Below.refl _ _ | with_reducible refine Below.alloc ?_ ?_ _ | with_reducible refine Below.fut ?_ ?_ _ | with_reducible refine Below.drew ?_ | with_reducible refine Below.setCell ?_ ?_ _ | (simp [go_sem]; done) | (simp [go_sem]; omega)))
  obtain ⟨x, rfl⟩ : ∃ x : Nat, xi = x := ⟨xi.toNat, by have := hxi.bd; omega⟩
  have hx : x < 18446744073709551616 := by have := hxi.bd; omega
  clear hxi
  have sa1 : a.size + 1 ≤ maxLen := by unfold maxLen; omega
  have hp : bytesOf (a.data.toList ++ [0]) = a ++ (⟨#[0]⟩ : ByteArray) := (bytesOf_eq (by simp)).symm
  obtain ⟨f, hf⟩ : ∃ f, bytesOf (firstL x) = f := ⟨_, rfl⟩
  have hF := reffirst_any x hx
  rw [hf] at hF
  have HF := hid hF
  clear hF
  obtain ⟨A, hA⟩ : ∃ x, addrN a.data.toList = x := ⟨_, rfl⟩
  obtain ⟨r1, hr1⟩ : ∃ x, rightN a.size = x := ⟨_, rfl⟩
  obtain ⟨r2, hr2⟩ : ∃ x, valueN a.size = x := ⟨_, rfl⟩
  have HA1 := hid (refaddr_any a sa A hA)
  have HK := hid (refkey_any a sa)
  rw [hr1] at HK
  have HV := hid (refvalue_any a)
  rw [hr2] at HV
  have HW := hid (value_any a)
  rw [hr2] at HW
  have ea : a.toList = a.data.toList := ByteArray.toList_eq a
  have eb : b.toList = b.data.toList := ByteArray.toList_eq b
  cases hl : Op.bytesLess a.data.toList b.data.toList
  all_goals
    go_enter Tryd.func8, Tryd.ntmps8
    go_wp2_with (first | (go_at_call 10; ((with_reducible refine (alive_any _).mono ?_)); rintro _ _ ⟨rfl, u, rfl⟩) | (go_at_call 11; ((with_reducible refine (less_is _ _ sa sb _ hl _).mono ?_)); rintro _ _ ⟨rfl, u, rfl⟩) | (go_at_call 12; ((with_reducible refine (addr_is _ sa _ _ rfl hA _).mono ?_)); rintro _ _ ⟨rfl, u, rfl⟩) | (go_at_call 14; ((with_reducible refine (past_is _ sa1 _ hp _).mono ?_)); rintro _ _ ⟨rfl, u, rfl⟩) | (go_at_call 13; ((with_reducible refine (first_is _ x rfl hx _ hf _).mono ?_)); rintro _ _ ⟨rfl, u, rfl⟩) | (go_at_call 15; ((with_reducible refine (right_is _ _ hr1 _).mono ?_)); rintro _ _ ⟨rfl, u, rfl⟩) | (go_at_call 16; ((with_reducible refine (HK.out _).mono ?_)); rintro _ _ ⟨rfl, u, rfl⟩) | (go_at_call 18; ((with_reducible refine (HV.out _).mono ?_)); rintro _ _ ⟨rfl, u, rfl⟩) | (go_at_call 17; ((with_reducible refine (HW.out _).mono ?_)); rintro _ _ ⟨rfl, u, rfl⟩) | (go_at_call 19; ((with_reducible refine (HA1.out _).mono ?_)); rintro _ _ ⟨rfl, u, rfl⟩) | (go_at_call 20; ((with_reducible refine (HF.out _).mono ?_)); rintro _ _ ⟨rfl, u, rfl⟩) | (((with_reducible refine wp_region_fut_lit (by kernel_rfl) (by kernel_rfl) ?_)); (repeat (go_big_quiet_step ((first | (go_at_call 10; with_reducible exact Calls.fut_of (alive_any _)) | (go_at_call 11; with_reducible exact Calls.fut_of (less_is _ _ sa sb _ hl _)) | (go_at_call 12; with_reducible exact Calls.fut_of (addr_is _ sa _ _ rfl hA _)) | (go_at_call 14; with_reducible exact Calls.fut_of (past_is _ sa1 _ hp _)) | (go_at_call 13; with_reducible exact Calls.fut_of (first_is _ x rfl hx _ hf _)) | (go_at_call 15; with_reducible exact Calls.fut_of (right_is _ _ hr1 _)) | (go_at_call 16; with_reducible exact Calls.fut_of (HK.out _)) | (go_at_call 18; with_reducible exact Calls.fut_of (HV.out _)) | (go_at_call 17; with_reducible exact Calls.fut_of (HW.out _)) | (go_at_call 19; with_reducible exact Calls.fut_of (HA1.out _)) | (go_at_call 20; with_reducible exact Calls.fut_of (HF.out _)))))); ((with_reducible refine wpQuiet_nil ?_)); rintro _ ⟨u, rfl⟩))
    go_ret; exact .mk (by first | rfl | (simp; done) | (simp; omega)) (by repeat' (first | exact Below.refl _ _ | with_reducible refine Below.alloc ?_ ?_ _ | with_reducible refine Below.fut ?_ ?_ _ | with_reducible refine Below.drew ?_ | with_reducible refine Below.setCell ?_ ?_ _ | (simp [go_sem]; done) | (simp [go_sem]; omega)))
theorem keyTells_contract (H : Type) (enc : TypeId × Value → H) (W : World) (base : Nat) (args : Array Value) (ds gs : List (DataW H)) (before : List MemPlace)
    (hval0 : ∀ (j : Nat) t v, Tryd.f8.params[j]? = some t → args[j]? = some v → Value.okWide Tryd.prog W .any base t v)
    (hW : DataW.Whole enc Tryd.prog Tryd.f8.params.toList Rows.keyTellsSpec.vars false W args.toList ds gs before) (hL : laidMetH Tryd.prog Rows.keyTellsRow.laid W) :
    Calls Tryd.prog 8 args W fun e W' => ∃ v, e = .returned v ∧ Rows.keyTellsSpec.post enc Tryd.prog Tryd.f8 false true false false W args v W' := by
  have hval := hval0
  have hW' := hW
  obtain ⟨p, q, hA0, hV, rfl, hfz, hnd⟩ := hW
  have hA : DataW.TrodAll enc Tryd.prog W 0 (fun _ => true) true Tryd.f8.params.toList args.toList ds p := hA0
  rw [Tryd.params8] at hA hval
  obtain ⟨v0, vs0, d0, ds0, p0, q0, hargs, rfl, rfl, h0, r0⟩ := trodAll_cons hA
  obtain ⟨v1, vs1, d1, ds1, p1, q1, rfl, rfl, rfl, h1, r1⟩ := trodAll_cons r0
  obtain ⟨v2, vs2, d2, ds2, p2, q2, rfl, rfl, rfl, h2, r2⟩ := trodAll_cons r1
  obtain ⟨rfl, rfl, rfl⟩ := trodAll_nil r2
  obtain rfl : args = #[v0, v1, v2] := by cases args; simp_all
  obtain ⟨rfl, rfl⟩ := trodVars_none hV
  have k0 := h0
  have lt0 : ∀ x ∈ p0, x.block < W.heap.size := by obtain ⟨m, hm⟩ := k0; exact DataW.trod_lt m _ _ _ hm
  obtain ⟨a0, rfl, -, -, w0⟩ := open_string Tryd.underlying9 (hval 0 9 v0 rfl rfl) h0
  have k1 := h1
  have lt1 : ∀ x ∈ p1, x.block < W.heap.size := by obtain ⟨m, hm⟩ := k1; exact DataW.trod_lt m _ _ _ hm
  obtain ⟨a1, rfl, -, -, w1⟩ := open_string Tryd.underlying9 (hval 1 9 v1 rfl rfl) h1
  have k2 := h2
  have lt2 : ∀ x ∈ p2, x.block < W.heap.size := by obtain ⟨m, hm⟩ := k2; exact DataW.trod_lt m _ _ _ hm
  obtain ⟨a2, rfl, -, -, w2⟩ := open_int Tryd.underlying22 (hval 2 22 v2 rfl rfl) h2
  clear hA0 hval0
  refine (keyTells_walk a0 w0 a1 w1 a2 w2 W).mono fun e W' ⟨he, u, hu⟩ => ?_
  subst he; subst hu
  have bel := u.below
  exact ⟨_, rfl, _, _, _, [], _, [], hW', trodAll_mk1 (shut_bool Tryd.underlying4 _), (trodAll_cons_mk (Below.trod laidOut (by kernel_rfl) (of_decide_eq_true (by kernel_rfl)) k0 bel lt0) (trodAll_cons_mk (Below.trod laidOut (by kernel_rfl) (of_decide_eq_true (by kernel_rfl)) k1 bel lt1) (trodAll_cons_mk (Below.trod laidOut (by kernel_rfl) (of_decide_eq_true (by kernel_rfl)) k2 bel lt2) trodAll_mk0))), rfl, bel.frame _, fun h => by cases h⟩
theorem keyTells_laid (os : Os) : laidMet Tryd.prog Rows.keyTellsRow.laid ((laidWorld os).forCall (fun _ _ => 0) ⟨#[], #[.string ByteArray.empty, .string ByteArray.empty, .int .u64 0], []⟩).memory :=
  laidMet_of_run' 8 (by kernel_rfl) (by kernel_rfl)
theorem keyTells_reads (os : Os) {H : Type} (enc : TypeId × Value → H) : ∃ places, DataW.whole enc Tryd.prog ((laidWorld os).forCall (fun _ _ => 0) ⟨#[], #[.string ByteArray.empty, .string ByteArray.empty, .int .u64 0], []⟩).memory Tryd.f8.params.toList Rows.keyTellsSpec.vars false (#[.string ByteArray.empty, .string ByteArray.empty, .int .u64 0] : Array Value).toList 8 = some ([.lit (.string []), .lit (.string []), .lit (.int .u64 0)], [], places) :=
  ⟨[], by kernel_rfl⟩
set_option maxRecDepth 100000 in
theorem keyTells_lifted (os : Os) (started : os.Started) (H : Type) (enc : TypeId × Value → H) (F : Stop.Interp) :
    ReturnsInHanded {} Tryd.checked os 8 .any ((OpenSpec.ofChange Rows.keyTellsSpec).preRow enc Tryd.prog Tryd.f8 Rows.keyTellsRow.domain false Rows.keyTellsRow.laid) (((OpenSpec.ofChange Rows.keyTellsSpec).at F).post enc Tryd.prog Tryd.f8 false true false false) := by
  obtain ⟨places, hx⟩ := keyTells_reads os enc
  refine returnsInHanded_of_row (C := Tryd.checked) (s := OpenSpec.ofChange Rows.keyTellsSpec) own started (by kernel_rfl) Tryd.func8
    (witness_row_at (enc := enc) (C := Tryd.checked) false (laidWorld os) #[.string ByteArray.empty, .string ByteArray.empty, .int .u64 0] rfl (by kernel_rfl) (by kernel_rfl) (by kernel_rfl)
      (OpenSpec.preRow_of_cond 8 hx (by kernel_rfl) (fun k hk => by cases hk) (by kernel_rfl) (keyTells_laid os))) ?_
  intro W base args ds gs before hval hW _ _ _ hL _ _
  exact keyTells_contract H enc W base args ds gs before hval hW hL
theorem keyTells_said : Rows.KeyTellsSaid :=
  OpenClaim.holds_of_cond 8 Tryd.f8 rfl rfl rfl rfl rfl rfl rfl ⟨rfl, rfl, rfl, rfl, rfl⟩ rfl rfl rfl rfl rfl (by kernel_rfl) Tryd.func8 (by kernel_rfl)
    (of_decide_eq_true (by kernel_rfl)) (by unfold Func.isWrapper; first | (rw [if_pos (by decide +kernel)]; kernel_rfl) | (rw [if_neg (by decide +kernel)]; exact ⟨rfl, rfl⟩))
    (fun os started H enc _ F => by rw [OpenClaim.pre_eq_preRow]; exact keyTells_lifted os started H enc F)
theorem keyTells_plain (f : FuncId) (fn : Func) (hf : Tryd.pinned.checked.prog.funcNamed "rosary/rosarylaw1.KeyTells" = some f) (hfn : Tryd.pinned.checked.prog.funcs[f]? = some fn) :
    false = Tryd.pinned.checked.prog.looks [] ∧ ∀ (j : Nat) t, fn.params[j]? = some t → Tryd.pinned.checked.prog.wantsStandIn t = false := by
  obtain rfl : f = 8 := Option.some.inj ((show Tryd.prog.funcNamed "rosary/rosarylaw1.KeyTells" = some 8 by kernel_rfl).symm.trans hf) |>.symm
  obtain rfl : fn = Tryd.f8 := (Option.some.inj (Tryd.func8.symm.trans hfn)).symm
  refine ⟨by kernel_rfl, fun j t ht => ?_⟩
  rw [Tryd.params8] at ht
  have hm := Array.mem_of_getElem? ht
  simp at hm
  rcases hm with rfl | rfl
  all_goals first | exact (show Tryd.prog.wantsStandIn 9 = false by kernel_rfl) | exact (show Tryd.prog.wantsStandIn 22 = false by kernel_rfl)
/-- The statement. -/
theorem keyTells_holds : Rows.KeyTellsCardSaid :=
  Claim7.holds_tied_plain_at .later [] _ _ _ _ keyTells_said (fun _ h => by cases h) (by kernel_rfl) (fun _ h => by cases h) keyTells_row_tie rfl ⟨rfl, rfl⟩ (by kernel_rfl) rfl keyTells_plain (by kernel_rfl)
#print axioms keyTells_holds
end Go.Proofs.YtfjefhmlomdapaaDoor
