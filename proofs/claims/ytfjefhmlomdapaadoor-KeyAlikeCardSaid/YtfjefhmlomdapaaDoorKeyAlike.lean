/- KeyAlike answers true for every two texts and every number, and leaves its arguments as they were. No condition. (A card.) -/
import Derived.Test.YtfjefhmlomdapaaDoorKeyMake
namespace Go.Proofs.YtfjefhmlomdapaaDoor
open Go.ChangeShapes Go.WideShapes Go.ChangeAt Go.RowKit Go.Joins
open Go.ChangeMaps (open_string shut_string)
set_option linter.unusedVariables false
set_option linter.unusedSimpArgs false
set_option maxRecDepth 100000 in
set_option maxHeartbeats 4000000 in
theorem keyAlike_walk (a : ByteArray) (sa : a.size ≤ maxLen) (b : ByteArray) (sb : b.size ≤ maxLen) (ni : Int) (hni : (Lit.int .i64 ni).wf = true) (w : World) :
    Calls Tryd.prog 5 #[.string a, .string b, .int .i64 ni] w (Makes (.bool true) w) := by
  rcases Nat.lt_or_ge 8 a.size with ga | ga
  · go_enter Tryd.func5, Tryd.ntmps5
    go_wp2_with (first | (go_at_call 10; ((with_reducible refine (alive_any _).mono ?_)); rintro _ _ ⟨rfl, u, rfl⟩) | (((with_reducible refine wp_region_fut_lit (by kernel_rfl) (by kernel_rfl) ?_)); (repeat (go_big_quiet_step ((first | (go_at_call 10; with_reducible exact Calls.fut_of (alive_any _)))))); ((with_reducible refine wpQuiet_nil ?_)); rintro _ ⟨u, rfl⟩))
    go_ret; exact .mk (by first | rfl | (simp; done) | (simp; omega)) (by repeat' (first | exact Below.refl _ _ | with_reducible refine Below.alloc ?_ ?_ _ | with_reducible refine Below.fut ?_ ?_ _ | with_reducible refine Below.drew ?_ | with_reducible refine Below.setCell ?_ ?_ _ | with_reducible refine Below.atPut ?_ ?_ _ | (simp [go_sem]; done) | (simp [go_sem]; omega)))
  rcases Nat.lt_or_ge 40 b.size with gb | gb
  · go_enter Tryd.func5, Tryd.ntmps5
    go_wp2_with (first | (go_at_call 10; ((with_reducible refine (alive_any _).mono ?_)); rintro _ _ ⟨rfl, u, rfl⟩) | (((with_reducible refine wp_region_fut_lit (by kernel_rfl) (by kernel_rfl) ?_)); (repeat (go_big_quiet_step ((first | (go_at_call 10; with_reducible exact Calls.fut_of (alive_any _)))))); ((with_reducible refine wpQuiet_nil ?_)); rintro _ ⟨u, rfl⟩))
    go_ret; exact .mk (by first | rfl | (simp; done) | (simp; omega)) (by repeat' (first | exact Below.refl _ _ | with_reducible refine Below.alloc ?_ ?_ _ | with_reducible refine Below.fut ?_ ?_ _ | with_reducible refine Below.drew ?_ | with_reducible refine Below.setCell ?_ ?_ _ | with_reducible refine Below.atPut ?_ ?_ _ | (simp [go_sem]; done) | (simp [go_sem]; omega)))
  rcases Int.lt_or_le ni 0 with gn | gn
  · go_enter Tryd.func5, Tryd.ntmps5
    go_wp2_with (first | (go_at_call 10; ((with_reducible refine (alive_any _).mono ?_)); rintro _ _ ⟨rfl, u, rfl⟩) | (((with_reducible refine wp_region_fut_lit (by kernel_rfl) (by kernel_rfl) ?_)); (repeat (go_big_quiet_step ((first | (go_at_call 10; with_reducible exact Calls.fut_of (alive_any _)))))); ((with_reducible refine wpQuiet_nil ?_)); rintro _ ⟨u, rfl⟩))
    go_ret; exact .mk (by first | rfl | (simp; done) | (simp; omega)) (by repeat' (first | exact Below.refl _ _ | with_reducible refine Below.alloc ?_ ?_ _ | with_reducible refine Below.fut ?_ ?_ _ | with_reducible refine Below.drew ?_ | with_reducible refine Below.setCell ?_ ?_ _ | with_reducible refine Below.atPut ?_ ?_ _ | (simp [go_sem]; done) | (simp [go_sem]; omega)))
  rcases Int.lt_or_le 20 ni with gm | gm
  · go_enter Tryd.func5, Tryd.ntmps5
    go_wp2_with (first | (go_at_call 10; ((with_reducible refine (alive_any _).mono ?_)); rintro _ _ ⟨rfl, u, rfl⟩) | (((with_reducible refine wp_region_fut_lit (by kernel_rfl) (by kernel_rfl) ?_)); (repeat (go_big_quiet_step ((first | (go_at_call 10; with_reducible exact Calls.fut_of (alive_any _)))))); ((with_reducible refine wpQuiet_nil ?_)); rintro _ ⟨u, rfl⟩))
    go_ret; exact .mk (by first | rfl | (simp; done) | (simp; omega)) (by repeat' (first | exact Below.refl _ _ | with_reducible refine Below.alloc ?_ ?_ _ | with_reducible refine Below.fut ?_ ?_ _ | with_reducible refine Below.drew ?_ | with_reducible refine Below.setCell ?_ ?_ _ | with_reducible refine Below.atPut ?_ ?_ _ | (simp [go_sem]; done) | (simp [go_sem]; omega)))
  obtain ⟨n, rfl⟩ : ∃ n : Nat, ni = n := ⟨ni.toNat, by omega⟩
  clear hni
  obtain ⟨k, hk⟩ : ∃ k : Nat, (8 : Int) - a.size = k := ⟨8 - a.size, by omega⟩
  have hk8 : a.size + k = 8 := by omega
  have hmk := fun w => make_zeros w k (by omega)
  have hmn := fun w => make_zeros w n (by omega)
  have hck := fun w => conv_zeros_at w k
  have hcn := fun w => conv_zeros_at w n
  obtain ⟨A, hA⟩ : ∃ x, addrN a.data.toList = x := ⟨_, rfl⟩
  have hA64 : A < 18446744073709551616 := by
    have := addrUp_lt a.data.toList 8
    unfold addrN at hA
    omega
  obtain ⟨z, hz⟩ : ∃ z, strOfNums (List.replicate k 0) = z := ⟨_, rfl⟩
  obtain ⟨y, hy⟩ : ∃ z, strOfNums (List.replicate n 0) = z := ⟨_, rfl⟩
  obtain ⟨f, hf⟩ : ∃ f, bytesOf (firstL A) = f := ⟨_, rfl⟩
  have dz : z.data.toList = List.replicate k 0 := by rw [← hz, zerosN]; rfl
  have dy : y.data.toList = List.replicate n 0 := by rw [← hy, zerosN]; rfl
  have sz : z.size = k := by have := congrArg List.length dz; simpa using this
  have sy : y.size = n := by have := congrArg List.length dy; simpa using this
  have hfd : f.data.toList = firstL A := by rw [← hf]; rfl
  have hfz : f.size ≤ 8 := by
    have := congrArg List.length hfd
    have h8 := first_len A
    simp at this; omega
  rw [hz] at hck
  rw [hy] at hcn
  have s1 : (a ++ z).size ≤ maxLen := by unfold maxLen; rw [ByteArray.size_append]; omega
  have s2 : (a ++ z ++ b).size ≤ maxLen := by unfold maxLen; rw [ByteArray.size_append, ByteArray.size_append]; omega
  have s3 : (a ++ y).size ≤ maxLen := by unfold maxLen; rw [ByteArray.size_append]; omega
  have s4 : f.size ≤ maxLen := by unfold maxLen; omega
  have e1 : addrN (a ++ z).data.toList = A := by
    rw [show (a ++ z).data.toList = a.data.toList ++ z.data.toList by simp, dz, addr_zeros, hA]
  have e2 : addrN (a ++ z ++ b).data.toList = A := by
    rw [show (a ++ z ++ b).data.toList = (a ++ z).data.toList ++ b.data.toList by simp, addr_full _ _ (by simp; omega), e1]
  have e3 : addrN (a ++ y).data.toList = A := by
    rw [show (a ++ y).data.toList = a.data.toList ++ y.data.toList by simp, dy, addr_zeros, hA]
  have e4 : addrN f.data.toList = A := by rw [hfd]; exact addr_first A hA64
  have zb : (a.size : Int) + z.size ≤ 9223372036854775807 := by omega
  have yb : (a.size : Int) + y.size ≤ 9223372036854775807 := by omega
  have zb2 : (a.size : Int) + z.size + b.size ≤ 9223372036854775807 := by omega
  have zb3 : ((a ++ z).size : Int) + b.size ≤ 9223372036854775807 := by rw [ByteArray.size_append]; push_cast; omega
  have SZ := hid sz
  have SY := hid sy
  have H8 := hid hk8
  clear dz dy sz sy hfd hfz hk8 hz hy
  go_enter Tryd.func5, Tryd.ntmps5
  go_wp2_with (first | (go_at_call 10; ((with_reducible refine (alive_any _).mono ?_)); rintro _ _ ⟨rfl, u, rfl⟩) | (go_at_call 12; ((with_reducible refine (addr_is _ (by assumption) _ _ rfl (by assumption) _).mono ?_)); rintro _ _ ⟨rfl, u, rfl⟩) | (go_at_call 13; ((with_reducible refine (first_is _ A rfl hA64 _ hf _).mono ?_)); rintro _ _ ⟨rfl, u, rfl⟩) | (((with_reducible refine wp_region_fut_lit (by kernel_rfl) (by kernel_rfl) ?_)); (repeat (go_big_quiet_step ((first | (go_at_call 10; with_reducible exact Calls.fut_of (alive_any _)) | (go_at_call 12; with_reducible exact Calls.fut_of (addr_is _ (by assumption) _ _ rfl (by assumption) _)) | (go_at_call 13; with_reducible exact Calls.fut_of (first_is _ A rfl hA64 _ hf _)))))); ((with_reducible refine wpQuiet_nil ?_)); rintro _ ⟨u, rfl⟩))
  go_ret; exact .mk (by first | rfl | (simp; done) | (simp; omega)) (by repeat' (first | exact Below.refl _ _ | with_reducible refine Below.alloc ?_ ?_ _ | with_reducible refine Below.fut ?_ ?_ _ | with_reducible refine Below.drew ?_ | with_reducible refine Below.setCell ?_ ?_ _ | with_reducible refine Below.atPut ?_ ?_ _ | (simp [go_sem]; done) | (simp [go_sem]; omega)))
theorem keyAlike_contract (H : Type) (enc : TypeId × Value → H) (W : World) (base : Nat) (args : Array Value) (ds gs : List (DataW H)) (before : List MemPlace)
    (hval0 : ∀ (j : Nat) t v, Tryd.f5.params[j]? = some t → args[j]? = some v → Value.okWide Tryd.prog W .any base t v)
    (hW : DataW.Whole enc Tryd.prog Tryd.f5.params.toList Rows.keyAlikeSpec.vars false W args.toList ds gs before) (hL : laidMetH Tryd.prog Rows.keyAlikeRow.laid W) :
    Calls Tryd.prog 5 args W fun e W' => ∃ v, e = .returned v ∧ Rows.keyAlikeSpec.post enc Tryd.prog Tryd.f5 false true false false W args v W' := by
  have hval := hval0
  have hW' := hW
  obtain ⟨p, q, hA0, hV, rfl, hfz, hnd⟩ := hW
  have hA : DataW.TrodAll enc Tryd.prog W 0 (fun _ => true) true Tryd.f5.params.toList args.toList ds p := hA0
  rw [Tryd.params5] at hA hval
  obtain ⟨v0, vs0, d0, ds0, p0, q0, hargs, rfl, rfl, h0, r0⟩ := trodAll_cons hA
  obtain ⟨v1, vs1, d1, ds1, p1, q1, rfl, rfl, rfl, h1, r1⟩ := trodAll_cons r0
  obtain ⟨v2, vs2, d2, ds2, p2, q2, rfl, rfl, rfl, h2, r2⟩ := trodAll_cons r1
  obtain ⟨rfl, rfl, rfl⟩ := trodAll_nil r2
  obtain rfl : args = #[v0, v1, v2] := by cases args; simp_all
  obtain ⟨rfl, rfl⟩ := trodVars_none hV
  have k0 := h0
  have lt0 : ∀ x ∈ p0, x.block < W.heap.size := by obtain ⟨m, hm⟩ := k0; exact DataW.trod_lt m _ _ _ hm
  obtain ⟨a0, rfl, -, -, w0⟩ := open_string Tryd.underlying9 (hval 0 9 v0 rfl rfl) h0
  have k1 := h1
  have lt1 : ∀ x ∈ p1, x.block < W.heap.size := by obtain ⟨m, hm⟩ := k1; exact DataW.trod_lt m _ _ _ hm
  obtain ⟨a1, rfl, -, -, w1⟩ := open_string Tryd.underlying9 (hval 1 9 v1 rfl rfl) h1
  have k2 := h2
  have lt2 : ∀ x ∈ p2, x.block < W.heap.size := by obtain ⟨m, hm⟩ := k2; exact DataW.trod_lt m _ _ _ hm
  obtain ⟨a2, rfl, -, -, w2⟩ := open_int Tryd.underlying3 (hval 2 3 v2 rfl rfl) h2
  clear hA0 hval0
  refine (keyAlike_walk a0 w0 a1 w1 a2 w2 W).mono fun e W' ⟨he, u, hu⟩ => ?_
  subst he; subst hu
  have bel := u.below
  exact ⟨_, rfl, _, _, _, [], _, [], hW', trodAll_mk1 (shut_bool Tryd.underlying4 _), (trodAll_cons_mk (Below.trod laidOut (by kernel_rfl) (of_decide_eq_true (by kernel_rfl)) k0 bel lt0) (trodAll_cons_mk (Below.trod laidOut (by kernel_rfl) (of_decide_eq_true (by kernel_rfl)) k1 bel lt1) (trodAll_cons_mk (Below.trod laidOut (by kernel_rfl) (of_decide_eq_true (by kernel_rfl)) k2 bel lt2) trodAll_mk0))), rfl, bel.frame _, fun h => by cases h⟩
theorem keyAlike_laid (os : Os) : laidMet Tryd.prog Rows.keyAlikeRow.laid ((laidWorld os).forCall (fun _ _ => 0) ⟨#[], #[.string ByteArray.empty, .string ByteArray.empty, .int .i64 0], []⟩).memory :=
  laidMet_of_run' 8 (by kernel_rfl) (by kernel_rfl)
theorem keyAlike_reads (os : Os) {H : Type} (enc : TypeId × Value → H) : ∃ places, DataW.whole enc Tryd.prog ((laidWorld os).forCall (fun _ _ => 0) ⟨#[], #[.string ByteArray.empty, .string ByteArray.empty, .int .i64 0], []⟩).memory Tryd.f5.params.toList Rows.keyAlikeSpec.vars false (#[.string ByteArray.empty, .string ByteArray.empty, .int .i64 0] : Array Value).toList 8 = some ([.lit (.string []), .lit (.string []), .lit (.int .i64 0)], [], places) :=
  ⟨[], by kernel_rfl⟩
set_option maxRecDepth 100000 in
theorem keyAlike_lifted (os : Os) (started : os.Started) (H : Type) (enc : TypeId × Value → H) (F : Stop.Interp) :
    ReturnsInHanded {} Tryd.checked os 5 .any ((OpenSpec.ofChange Rows.keyAlikeSpec).preRow enc Tryd.prog Tryd.f5 Rows.keyAlikeRow.domain false Rows.keyAlikeRow.laid) (((OpenSpec.ofChange Rows.keyAlikeSpec).at F).post enc Tryd.prog Tryd.f5 false true false false) := by
  obtain ⟨places, hx⟩ := keyAlike_reads os enc
  refine returnsInHanded_of_row (C := Tryd.checked) (s := OpenSpec.ofChange Rows.keyAlikeSpec) own started (by kernel_rfl) Tryd.func5
    (witness_row_at (enc := enc) (C := Tryd.checked) false (laidWorld os) #[.string ByteArray.empty, .string ByteArray.empty, .int .i64 0] rfl (by kernel_rfl) (by kernel_rfl) (by kernel_rfl)
      (OpenSpec.preRow_of_cond 8 hx (by kernel_rfl) (fun k hk => by cases hk) (by kernel_rfl) (keyAlike_laid os))) ?_
  intro W base args ds gs before hval hW _ _ _ hL _ _
  exact keyAlike_contract H enc W base args ds gs before hval hW hL
theorem keyAlike_said : Rows.KeyAlikeSaid :=
  OpenClaim.holds_of_cond 5 Tryd.f5 rfl rfl rfl rfl rfl rfl rfl ⟨rfl, rfl, rfl, rfl, rfl⟩ rfl rfl rfl rfl rfl (by kernel_rfl) Tryd.func5 (by kernel_rfl)
    (of_decide_eq_true (by kernel_rfl)) (by unfold Func.isWrapper; first | (rw [if_pos (by decide +kernel)]; kernel_rfl) | (rw [if_neg (by decide +kernel)]; exact ⟨rfl, rfl⟩))
    (fun os started H enc _ F => by rw [OpenClaim.pre_eq_preRow]; exact keyAlike_lifted os started H enc F)
theorem keyAlike_plain (f : FuncId) (fn : Func) (hf : Tryd.pinned.checked.prog.funcNamed "rosary/rosarylaw1.KeyAlike" = some f) (hfn : Tryd.pinned.checked.prog.funcs[f]? = some fn) :
    false = Tryd.pinned.checked.prog.looks [] ∧ ∀ (j : Nat) t, fn.params[j]? = some t → Tryd.pinned.checked.prog.wantsStandIn t = false := by
  obtain rfl : f = 5 := Option.some.inj ((show Tryd.prog.funcNamed "rosary/rosarylaw1.KeyAlike" = some 5 by kernel_rfl).symm.trans hf) |>.symm
  obtain rfl : fn = Tryd.f5 := (Option.some.inj (Tryd.func5.symm.trans hfn)).symm
  refine ⟨by kernel_rfl, fun j t ht => ?_⟩
  rw [Tryd.params5] at ht
  have hm := Array.mem_of_getElem? ht
  simp at hm
  rcases hm with rfl | rfl
  all_goals first | exact (show Tryd.prog.wantsStandIn 9 = false by kernel_rfl) | exact (show Tryd.prog.wantsStandIn 3 = false by kernel_rfl)
/-- The statement. -/
theorem keyAlike_holds : Rows.KeyAlikeCardSaid :=
  Claim7.holds_tied_plain_at .later [] _ _ _ _ keyAlike_said (fun _ h => by cases h) (by kernel_rfl) (fun _ h => by cases h) keyAlike_row_tie rfl ⟨rfl, rfl⟩ (by kernel_rfl) rfl keyAlike_plain (by kernel_rfl)
#print axioms keyAlike_holds
end Go.Proofs.YtfjefhmlomdapaaDoor
