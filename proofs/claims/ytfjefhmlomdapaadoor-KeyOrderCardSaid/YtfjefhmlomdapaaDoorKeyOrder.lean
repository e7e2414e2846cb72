/- KeyOrder answers true for every two texts and every number, and leaves its arguments as they were. No condition. (A card.) -/
import Derived.Test.YtfjefhmlomdapaaDoorKeyAlive
import Derived.Test.YtfjefhmlomdapaaDoorCFrame
namespace Go.Proofs.YtfjefhmlomdapaaDoor
open Go.ChangeShapes Go.WideShapes Go.ChangeAt Go.RowKit Go.Joins
open Go.ChangeMaps (open_string shut_string)
set_option linter.unusedVariables false
set_option linter.unusedSimpArgs false
set_option maxRecDepth 100000 in
set_option maxHeartbeats 4000000 in
theorem keyOrder_walk (a : ByteArray) (sa : a.size ≤ maxLen) (b : ByteArray) (sb : b.size ≤ maxLen) (xi : Int) (hxi : U64 xi) (w : World) :
    Calls Tryd.prog 3 #[.string a, .string b, .int .u64 xi] w (Makes (.bool true) w) := by
  rcases Nat.lt_or_ge 100 a.size with ga | ga
  · go_enter Tryd.func3, Tryd.ntmps3
    go_wp2_with (first | (go_at_call 10; ((with_reducible refine (alive_any _).mono ?_)); rintro _ _ ⟨rfl, u, rfl⟩) | (((with_reducible refine wp_region_fut_lit (by kernel_rfl) (by kernel_rfl) ?_)); (repeat (go_big_quiet_step ((first | (go_at_call 10; with_reducible exact Calls.fut_of (alive_any _)))))); ((with_reducible refine wpQuiet_nil ?_)); rintro _ ⟨u, rfl⟩))
    go_ret; exact .mk (by first | rfl | (simp; done) | (simp; omega)) (by repeat' (first | exact Below.refl _ _ | with_reducible refine Below.alloc ?_ ?_ _ | with_reducible refine Below.fut ?_ ?_ _ | with_reducible refine Below.drew ?_ | with_reducible refine Below.setCell ?_ ?_ _ | (simp [go_sem]; done) | (simp [go_sem]; omega)))
  rcases Nat.lt_or_ge 100 b.size with gb | gb
  · go_enter Tryd.func3, Tryd.ntmps3
    go_wp2_with (first | (go_at_call 10; ((with_reducible refine (alive_any _).mono ?_)); rintro _ _ ⟨rfl, u, rfl⟩) | (((with_reducible refine wp_region_fut_lit (by kernel_rfl) (by kernel_rfl) ?_)); (repeat (go_big_quiet_step ((first | (go_at_call 10; with_reducible exact Calls.fut_of (alive_any _)))))); ((with_reducible refine wpQuiet_nil ?_)); rintro _ ⟨u, rfl⟩))
    go_ret; exact .mk (by first | rfl | (simp; done) | (simp; omega)) (by repeat' (first | exact Below.refl _ _ | with_reducible refine Below.alloc ?_ ?_ _ | with_reducible refine Below.fut ?_ ?_ _ | with_reducible refine Below.drew ?_ | with_reducible refine Below.setCell ?_ ?_ _ | (simp [go_sem]; done) | (simp [go_sem]; omega)))
  obtain ⟨x, rfl⟩ : ∃ x : Nat, xi = x := ⟨xi.toNat, by have := hxi.bd; omega⟩
  have hx : x < 18446744073709551616 := by have := hxi.bd; omega
  clear hxi
  have sa1 : a.size + 1 ≤ maxLen := by unfold maxLen; omega
  obtain ⟨p, hp⟩ : ∃ p, bytesOf (a.data.toList ++ [0]) = p := ⟨_, rfl⟩
  obtain ⟨f, hf⟩ : ∃ f, bytesOf (firstL x) = f := ⟨_, rfl⟩
  have hd : p.data.toList = a.data.toList ++ [0] := by rw [← hp]; rfl
  have hfd : f.data.toList = firstL x := by rw [← hf]; rfl
  have hz : p.size = a.size + 1 := by
    have := congrArg List.length hd
    simpa using this
  have hfz : f.size ≤ 8 := by
    have := congrArg List.length hfd
    have h8 := first_len x
    simp at this; omega
  have sp : p.size ≤ maxLen := by omega
  have sf : f.size ≤ maxLen := by unfold maxLen; omega
  have l1 : Op.bytesLess a.data.toList p.data.toList = true := by rw [hd]; exact less_append _ _ (by simp)
  have l2 := less_past b.data.toList a.data.toList
  rw [← hd] at l2
  obtain ⟨A, hA⟩ : ∃ x, addrN a.data.toList = x := ⟨_, rfl⟩
  obtain ⟨B, hB⟩ : ∃ x, addrN b.data.toList = x := ⟨_, rfl⟩
  have hF : addrN f.data.toList = x := by rw [hfd]; exact addr_first x hx
  have c1 : Op.bytesLess b.data.toList a.data.toList = false → A ≤ B := fun h => by rw [← hA, ← hB]; exact addr_le h
  have c2 : x ≤ A → Op.bytesLess a.data.toList f.data.toList = false := fun h => by rw [hfd]; exact first_least _ x hx (by rw [hA]; exact h)
  have c3 : A < x → Op.bytesLess a.data.toList f.data.toList = true := fun h => by rw [hfd]; exact first_over _ x hx (by rw [hA]; exact h)
  have c4 := less_asymm a.data.toList b.data.toList
  have c5 : (a.toList == b.toList) = false → Op.bytesLess b.data.toList a.data.toList = !Op.bytesLess a.data.toList b.data.toList := by
    intro h
    refine less_total _ _ (fun e => ?_)
    rw [ByteArray.toList_eq, ByteArray.toList_eq, e] at h; simp at h
  have c6 : (a.toList == b.toList) = true → Op.bytesLess a.data.toList b.data.toList = false ∧ Op.bytesLess b.data.toList a.data.toList = false := by
    intro h
    rw [ByteArray.toList_eq, ByteArray.toList_eq] at h
    have e : a.data.toList = b.data.toList := by simpa using h
    rw [e, less_irrefl]; simp
  have c7 : decide (b.data.toList = a.data.toList) = (a.toList == b.toList) := by
    rw [ByteArray.toList_eq, ByteArray.toList_eq, Bool.eq_iff_iff]; simp only [decide_eq_true_eq, beq_iff_eq]; exact eq_comm
  rw [c7] at l2
  have HZ := hid hz
  clear hz hd hfd hfz c7
  cases h1 : Op.bytesLess a.data.toList b.data.toList <;> cases h2 : Op.bytesLess b.data.toList a.data.toList <;> cases h3 : (a.toList == b.toList)
  all_goals first
    | (exfalso; simp [h1, h2, h3] at c4 c5 c6; done)
    | skip
  all_goals
    rw [h3, h2] at l2
    simp only [Bool.or_true, Bool.or_false, Bool.true_or] at l2
    simp only [h2, forall_const, true_implies, false_implies, reduceCtorEq] at c1
    clear c4 c5 c6
    rcases Nat.lt_or_ge A x with g | g
    · have c2' := c3 g
      clear c2 c3
      go_enter Tryd.func3, Tryd.ntmps3
      go_wp2_with (first | (go_at_call 10; ((with_reducible refine (alive_any _).mono ?_)); rintro _ _ ⟨rfl, u, rfl⟩) | (go_at_call 11; ((with_reducible refine (less_is _ _ (by assumption) (by assumption) _ (by assumption) _).mono ?_)); rintro _ _ ⟨rfl, u, rfl⟩) | (go_at_call 12; ((with_reducible refine (addr_is _ (by assumption) _ _ rfl (by assumption) _).mono ?_)); rintro _ _ ⟨rfl, u, rfl⟩) | (go_at_call 14; ((with_reducible refine (past_is _ (by assumption) _ (by assumption) _).mono ?_)); rintro _ _ ⟨rfl, u, rfl⟩) | (go_at_call 13; ((with_reducible refine (first_is _ x rfl hx _ hf _).mono ?_)); rintro _ _ ⟨rfl, u, rfl⟩) | (((with_reducible refine wp_region_fut_lit (by kernel_rfl) (by kernel_rfl) ?_)); (repeat (go_big_quiet_step ((first | (go_at_call 10; with_reducible exact Calls.fut_of (alive_any _)) | (go_at_call 11; with_reducible exact Calls.fut_of (less_is _ _ (by assumption) (by assumption) _ (by assumption) _)) | (go_at_call 12; with_reducible exact Calls.fut_of (addr_is _ (by assumption) _ _ rfl (by assumption) _)) | (go_at_call 14; with_reducible exact Calls.fut_of (past_is _ (by assumption) _ (by assumption) _)) | (go_at_call 13; with_reducible exact Calls.fut_of (first_is _ x rfl hx _ hf _)))))); ((with_reducible refine wpQuiet_nil ?_)); rintro _ ⟨u, rfl⟩))
      go_ret; exact .mk (by first | rfl | (simp; done) | (simp; omega)) (by repeat' (first | exact Below.refl _ _ | with_reducible refine Below.alloc ?_ ?_ _ | with_reducible refine Below.fut ?_ ?_ _ | with_reducible refine Below.drew ?_ | with_reducible refine Below.setCell ?_ ?_ _ | (simp [go_sem]; done) | (simp [go_sem]; omega)))
    · have c2' := c2 g
      clear c2 c3
      go_enter Tryd.func3, Tryd.ntmps3
      go_wp2_with (first | (go_at_call 10; ((with_reducible refine (alive_any _).mono ?_)); rintro _ _ ⟨rfl, u, rfl⟩) | (go_at_call 11; ((with_reducible refine (less_is _ _ (by assumption) (by assumption) _ (by assumption) _).mono ?_)); rintro _ _ ⟨rfl, u, rfl⟩) | (go_at_call 12; ((with_reducible refine (addr_is _ (by assumption) _ _ rfl (by assumption) _).mono ?_)); rintro _ _ ⟨rfl, u, rfl⟩) | (go_at_call 14; ((with_reducible refine (past_is _ (by assumption) _ (by assumption) _).mono ?_)); rintro _ _ ⟨rfl, u, rfl⟩) | (go_at_call 13; ((with_reducible refine (first_is _ x rfl hx _ hf _).mono ?_)); rintro _ _ ⟨rfl, u, rfl⟩) | (((with_reducible refine wp_region_fut_lit (by kernel_rfl) (by kernel_rfl) ?_)); (repeat (go_big_quiet_step ((first | (go_at_call 10; with_reducible exact Calls.fut_of (alive_any _)) | (go_at_call 11; with_reducible exact Calls.fut_of (less_is _ _ (by assumption) (by assumption) _ (by assumption) _)) | (go_at_call 12; with_reducible exact Calls.fut_of (addr_is _ (by assumption) _ _ rfl (by assumption) _)) | (go_at_call 14; with_reducible exact Calls.fut_of (past_is _ (by assumption) _ (by assumption) _)) | (go_at_call 13; with_reducible exact Calls.fut_of (first_is _ x rfl hx _ hf _)))))); ((with_reducible refine wpQuiet_nil ?_)); rintro _ ⟨u, rfl⟩))
      go_ret; exact .mk (by first | rfl | (simp; done) | (simp; omega)) (by repeat' (first | exact Below.refl _ _ | with_reducible refine Below.alloc ?_ ?_ _ | with_reducible refine Below.fut ?_ ?_ _ | with_reducible refine Below.drew ?_ | with_reducible refine Below.setCell ?_ ?_ _ | (simp [go_sem]; done) | (simp [go_sem]; omega)))
theorem keyOrder_contract (H : Type) (enc : TypeId × Value → H) (W : World) (base : Nat) (args : Array Value) (ds gs : List (DataW H)) (before : List MemPlace)
    (hval0 : ∀ (j : Nat) t v, Tryd.f3.params[j]? = some t → args[j]? = some v → Value.okWide Tryd.prog W .any base t v)
    (hW : DataW.Whole enc Tryd.prog Tryd.f3.params.toList Rows.keyOrderSpec.vars false W args.toList ds gs before) (hL : laidMetH Tryd.prog Rows.keyOrderRow.laid W) :
    Calls Tryd.prog 3 args W fun e W' => ∃ v, e = .returned v ∧ Rows.keyOrderSpec.post enc Tryd.prog Tryd.f3 false true false false W args v W' := by
  have hval := hval0
  have hW' := hW
  obtain ⟨p, q, hA0, hV, rfl, hfz, hnd⟩ := hW
  have hA : DataW.TrodAll enc Tryd.prog W 0 (fun _ => true) true Tryd.f3.params.toList args.toList ds p := hA0
  rw [Tryd.params3] at hA hval
  obtain ⟨v0, vs0, d0, ds0, p0, q0, hargs, rfl, rfl, h0, r0⟩ := trodAll_cons hA
  obtain ⟨v1, vs1, d1, ds1, p1, q1, rfl, rfl, rfl, h1, r1⟩ := trodAll_cons r0
  obtain ⟨v2, vs2, d2, ds2, p2, q2, rfl, rfl, rfl, h2, r2⟩ := trodAll_cons r1
  obtain ⟨rfl, rfl, rfl⟩ := trodAll_nil r2
  obtain rfl : args = #[v0, v1, v2] := by cases args; simp_all
  obtain ⟨rfl, rfl⟩ := trodVars_none hV
  have k0 := h0
  have lt0 : ∀ x ∈ p0, x.block < W.heap.size := by obtain ⟨m, hm⟩ := k0; exact DataW.trod_lt m _ _ _ hm
  obtain ⟨a0, rfl, -, -, w0⟩ := open_string Tryd.underlying9 (hval 0 9 v0 rfl rfl) h0
  have k1 := h1
  have lt1 : ∀ x ∈ p1, x.block < W.heap.size := by obtain ⟨m, hm⟩ := k1; exact DataW.trod_lt m _ _ _ hm
  obtain ⟨a1, rfl, -, -, w1⟩ := open_string Tryd.underlying9 (hval 1 9 v1 rfl rfl) h1
  have k2 := h2
  have lt2 : ∀ x ∈ p2, x.block < W.heap.size := by obtain ⟨m, hm⟩ := k2; exact DataW.trod_lt m _ _ _ hm
  obtain ⟨a2, rfl, -, -, w2⟩ := open_int Tryd.underlying22 (hval 2 22 v2 rfl rfl) h2
  clear hA0 hval0
  refine (keyOrder_walk a0 w0 a1 w1 a2 w2 W).mono fun e W' ⟨he, u, hu⟩ => ?_
  subst he; subst hu
  have bel := u.below
  exact ⟨_, rfl, _, _, _, [], _, [], hW', trodAll_mk1 (shut_bool Tryd.underlying4 _), (trodAll_cons_mk (Below.trod laidOut (by kernel_rfl) (of_decide_eq_true (by kernel_rfl)) k0 bel lt0) (trodAll_cons_mk (Below.trod laidOut (by kernel_rfl) (of_decide_eq_true (by kernel_rfl)) k1 bel lt1) (trodAll_cons_mk (Below.trod laidOut (by kernel_rfl) (of_decide_eq_true (by kernel_rfl)) k2 bel lt2) trodAll_mk0))), rfl, bel.frame _, fun h => by cases h⟩
theorem keyOrder_laid (os : Os) : laidMet Tryd.prog Rows.keyOrderRow.laid ((laidWorld os).forCall (fun _ _ => 0) ⟨#[], #[.string ByteArray.empty, .string ByteArray.empty, .int .u64 0], []⟩).memory :=
  laidMet_of_run' 8 (by kernel_rfl) (by kernel_rfl)
theorem keyOrder_reads (os : Os) {H : Type} (enc : TypeId × Value → H) : ∃ places, DataW.whole enc Tryd.prog ((laidWorld os).forCall (fun _ _ => 0) ⟨#[], #[.string ByteArray.empty, .string ByteArray.empty, .int .u64 0], []⟩).memory Tryd.f3.params.toList Rows.keyOrderSpec.vars false (#[.string ByteArray.empty, .string ByteArray.empty, .int .u64 0] : Array Value).toList 8 = some ([.lit (.string []), .lit (.string []), .lit (.int .u64 0)], [], places) :=
  ⟨[], by kernel_rfl⟩
set_option maxRecDepth 100000 in
theorem keyOrder_lifted (os : Os) (started : os.Started) (H : Type) (enc : TypeId × Value → H) (F : Stop.Interp) :
    ReturnsInHanded {} Tryd.checked os 3 .any ((OpenSpec.ofChange Rows.keyOrderSpec).preRow enc Tryd.prog Tryd.f3 Rows.keyOrderRow.domain false Rows.keyOrderRow.laid) (((OpenSpec.ofChange Rows.keyOrderSpec).at F).post enc Tryd.prog Tryd.f3 false true false false) := by
  obtain ⟨places, hx⟩ := keyOrder_reads os enc
  refine returnsInHanded_of_row (C := Tryd.checked) (s := OpenSpec.ofChange Rows.keyOrderSpec) own started (by kernel_rfl) Tryd.func3
    (witness_row_at (enc := enc) (C := Tryd.checked) false (laidWorld os) #[.string ByteArray.empty, .string ByteArray.empty, .int .u64 0] rfl (by kernel_rfl) (by kernel_rfl) (by kernel_rfl)
      (OpenSpec.preRow_of_cond 8 hx (by kernel_rfl) (fun k hk => by cases hk) (by kernel_rfl) (keyOrder_laid os))) ?_
  intro W base args ds gs before hval hW _ _ _ hL _ _
  exact keyOrder_contract H enc W base args ds gs before hval hW hL
theorem keyOrder_said : Rows.KeyOrderSaid :=
  OpenClaim.holds_of_cond 3 Tryd.f3 rfl rfl rfl rfl rfl rfl rfl ⟨rfl, rfl, rfl, rfl, rfl⟩ rfl rfl rfl rfl rfl (by kernel_rfl) Tryd.func3 (by kernel_rfl)
    (of_decide_eq_true (by kernel_rfl)) (by unfold Func.isWrapper; first | (rw [if_pos (by decide +kernel)]; kernel_rfl) | (rw [if_neg (by decide +kernel)]; exact ⟨rfl, rfl⟩))
    (fun os started H enc _ F => by rw [OpenClaim.pre_eq_preRow]; exact keyOrder_lifted os started H enc F)
theorem keyOrder_plain (f : FuncId) (fn : Func) (hf : Tryd.pinned.checked.prog.funcNamed "rosary/rosarylaw1.KeyOrder" = some f) (hfn : Tryd.pinned.checked.prog.funcs[f]? = some fn) :
    false = Tryd.pinned.checked.prog.looks [] ∧ ∀ (j : Nat) t, fn.params[j]? = some t → Tryd.pinned.checked.prog.wantsStandIn t = false := by
  obtain rfl : f = 3 := Option.some.inj ((show Tryd.prog.funcNamed "rosary/rosarylaw1.KeyOrder" = some 3 by kernel_rfl).symm.trans hf) |>.symm
  obtain rfl : fn = Tryd.f3 := (Option.some.inj (Tryd.func3.symm.trans hfn)).symm
  refine ⟨by kernel_rfl, fun j t ht => ?_⟩
  rw [Tryd.params3] at ht
  have hm := Array.mem_of_getElem? ht
  simp at hm
  rcases hm with rfl | rfl
  all_goals first | exact (show Tryd.prog.wantsStandIn 9 = false by kernel_rfl) | exact (show Tryd.prog.wantsStandIn 22 = false by kernel_rfl)
/-- The statement. -/
theorem keyOrder_holds : Rows.KeyOrderCardSaid :=
  Claim7.holds_tied_plain_at .later [] _ _ _ _ keyOrder_said (fun _ h => by cases h) (by kernel_rfl) (fun _ h => by cases h) keyOrder_row_tie rfl ⟨rfl, rfl⟩ (by kernel_rfl) rfl keyOrder_plain (by kernel_rfl)
#print axioms keyOrder_holds
end Go.Proofs.YtfjefhmlomdapaaDoor
