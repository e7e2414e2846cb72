/- KeyBounds answers true for every number and every byte, and leaves its arguments as they were. No condition. (A card.) -/
import Derived.Test.YtfjefhmlomdapaaDoorKeyMake
namespace Go.Proofs.YtfjefhmlomdapaaDoor
open Go.ChangeShapes Go.WideShapes Go.ChangeAt Go.RowKit Go.Joins
open Go.ChangeMaps (open_string shut_string)
set_option linter.unusedVariables false
set_option linter.unusedSimpArgs false
set_option maxRecDepth 100000 in
set_option maxHeartbeats 4000000 in
theorem keyBounds_walk (ni : Int) (hni : (Lit.int .i64 ni).wf = true) (c : Int) (hc : (Lit.int .u8 c).wf = true) (w : World) :
    Calls Tryd.prog 9 #[.int .i64 ni, .int .u8 c] w (Makes (.bool true) w) := by
  rcases Int.lt_or_le ni 0 with gn | gn
  · go_enter Tryd.func9, Tryd.ntmps9
    go_wp2_with (first | (go_at_call 10; ((with_reducible refine (alive_any _).mono ?_)); rintro _ _ ⟨rfl, u, rfl⟩) | (((with_reducible refine wp_region_fut_lit (by kernel_rfl) (by kernel_rfl) ?_)); (repeat (go_big_quiet_step ((first | (go_at_call 10; with_reducible exact Calls.fut_of (alive_any _)))))); ((with_reducible refine wpQuiet_nil ?_)); rintro _ ⟨u, rfl⟩))
    go_ret; exact .mk (by first | rfl | (simp; done) | (simp; omega)) (by repeat' (first | exact Below.refl _ _ | with_reducible refine Below.alloc ?_ ?_ _ | with_reducible refine Below.fut ?_ ?_ _ | with_reducible refine Below.drew ?_ | with_reducible refine Below.setCell ?_ ?_ _ | with_reducible refine Below.atPut ?_ ?_ _ | (simp [go_sem]; done) | (simp [go_sem]; omega)))
  rcases Int.lt_or_le 100 ni with gm | gm
  · go_enter Tryd.func9, Tryd.ntmps9
    go_wp2_with (first | (go_at_call 10; ((with_reducible refine (alive_any _).mono ?_)); rintro _ _ ⟨rfl, u, rfl⟩) | (((with_reducible refine wp_region_fut_lit (by kernel_rfl) (by kernel_rfl) ?_)); (repeat (go_big_quiet_step ((first | (go_at_call 10; with_reducible exact Calls.fut_of (alive_any _)))))); ((with_reducible refine wpQuiet_nil ?_)); rintro _ ⟨u, rfl⟩))
    go_ret; exact .mk (by first | rfl | (simp; done) | (simp; omega)) (by repeat' (first | exact Below.refl _ _ | with_reducible refine Below.alloc ?_ ?_ _ | with_reducible refine Below.fut ?_ ?_ _ | with_reducible refine Below.drew ?_ | with_reducible refine Below.setCell ?_ ?_ _ | with_reducible refine Below.atPut ?_ ?_ _ | (simp [go_sem]; done) | (simp [go_sem]; omega)))
  obtain ⟨n, rfl⟩ : ∃ n : Nat, ni = n := ⟨ni.toNat, by omega⟩
  clear hni hc
  have hn : n ≤ 100 := by omega
  have hmk := fun w => make_zeros w n hn
  have hR : ∀ xs : List Int, xs.length = n → rightN (strOfNums xs).size = rightN n := fun xs h => by rw [strOfNums_size, h]
  have hV : ∀ xs : List Int, xs.length = n → valueN (strOfNums xs).size = valueN n := fun xs h => by rw [strOfNums_size, h]
  have HR := hid hR
  have HV := hid hV
  have HW := hid value_any
  clear hR hV
  go_enter Tryd.func9, Tryd.ntmps9
  go_wp2_with (first | (go_at_call 10; ((with_reducible refine (alive_any _).mono ?_)); rintro _ _ ⟨rfl, u, rfl⟩) | (((with_reducible refine wp_region_fut_lit (by kernel_rfl) (by kernel_rfl) ?_)); (repeat (go_big_quiet_step ((first | (go_at_call 10; with_reducible exact Calls.fut_of (alive_any _)))))); ((with_reducible refine wpQuiet_nil ?_)); rintro _ ⟨u, rfl⟩))
  go_loopw [22] (fun x wr => ∃ i : Nat, i ≤ n ∧ x = .int .i64 i ∧ ∃ xs : List Int, Hid (xs.length = n) ∧ wr = u.val.alloc (.cells (xs.map (Value.int .u8)).toArray 5)) (fun x _ => n - (intOf x).toNat)
  case atStart => exact ⟨0, by omega, rfl, List.replicate n 0, hid (by simp), by rw [zeros_arr]⟩
  case round =>
    obtain ⟨i, hi, rfl, xs, hx, rfl⟩ := hrel
    by_cases hk : i < n
    · obtain ⟨xi, hxi⟩ : ∃ v, xs[i]? = some v := ⟨xs[i]'(by rw [hx.out]; exact hk), List.getElem?_eq_getElem _⟩
      have HS := hid (show (xs.set i c).length = n by rw [List.length_set]; exact hx.out)
      have HM := hid (show (xs.map (Value.int .u8)).toArray.setIfInBounds i (.int .u8 c) = ((xs.set i c).map (Value.int .u8)).toArray by simp [List.map_set])
      go_wp2
      go_roundw
      case rel => exact ⟨i + 1, by omega, by go_num, xs.set i c, HS, by first | rfl | (rw [← HM.out]; simp) | simp [List.map_set]⟩
      case measure => simp [intOf]; omega
    · have h1 := HR.out xs hx.out
      have h2 := HV.out xs hx.out
      have hc1 := conv_bytes_at u.val xs n _ hx.out u.size
      have hc2 := fun v => conv_fut_at u.val xs n _ hx.out u.size v
      have HR1 := hid (right_any (strOfNums xs))
      have HV1 := hid (value_any (strOfNums xs))
      rw [h1] at HR1
      rw [h2] at HV1
      clear h1 h2
      obtain ⟨s, hs⟩ : ∃ s, strOfNums xs = s := ⟨_, rfl⟩
      rw [hs] at hc1 hc2 HR1 HV1
      clear hs HR HV HW
      rcases Nat.lt_or_ge n 1 with q | q
      · have e1 : rightN n = 3 := by unfold rightN; rw [if_pos (by omega)]
        have e2 : valueN n = 0 := by unfold valueN; rw [if_neg (by omega)]
        rw [e1] at HR1
        rw [e2] at HV1
        clear e1 e2
        go_wp2_with (first | (go_at_call 15; ((with_reducible refine (HR1.out _).mono ?_)); rintro _ _ ⟨rfl, u, rfl⟩) | (go_at_call 17; ((with_reducible refine (HV1.out _).mono ?_)); rintro _ _ ⟨rfl, u, rfl⟩) | (((with_reducible refine wp_region_fut_lit (by kernel_rfl) (by kernel_rfl) ?_)); (repeat (go_big_quiet_step ((first | (go_at_call 15; with_reducible exact Calls.fut_of (HR1.out _)) | (go_at_call 17; with_reducible exact Calls.fut_of (HV1.out _)))))); ((with_reducible refine wpQuiet_nil ?_)); rintro _ ⟨u, rfl⟩))
        go_ret; exact .mk (by first | rfl | (simp; done) | (simp; omega)) (by repeat' (first | exact Below.refl _ _ | with_reducible refine Below.alloc ?_ ?_ _ | with_reducible refine Below.fut ?_ ?_ _ | with_reducible refine Below.drew ?_ | with_reducible refine Below.setCell ?_ ?_ _ | with_reducible refine Below.atPut ?_ ?_ _ | (simp [go_sem]; done) | (simp [go_sem]; omega)))
      · rcases Nat.lt_or_ge 16 n with q2 | q2
        · have e1 : rightN n = 3 := by unfold rightN; rw [if_pos (by omega)]
          have e2 : valueN n = 4 := by unfold valueN; rw [if_pos (by omega)]
          rw [e1] at HR1
          rw [e2] at HV1
          clear e1 e2
          go_wp2_with (first | (go_at_call 15; ((with_reducible refine (HR1.out _).mono ?_)); rintro _ _ ⟨rfl, u, rfl⟩) | (go_at_call 17; ((with_reducible refine (HV1.out _).mono ?_)); rintro _ _ ⟨rfl, u, rfl⟩) | (((with_reducible refine wp_region_fut_lit (by kernel_rfl) (by kernel_rfl) ?_)); (repeat (go_big_quiet_step ((first | (go_at_call 15; with_reducible exact Calls.fut_of (HR1.out _)) | (go_at_call 17; with_reducible exact Calls.fut_of (HV1.out _)))))); ((with_reducible refine wpQuiet_nil ?_)); rintro _ ⟨u, rfl⟩))
          go_ret; exact .mk (by first | rfl | (simp; done) | (simp; omega)) (by repeat' (first | exact Below.refl _ _ | with_reducible refine Below.alloc ?_ ?_ _ | with_reducible refine Below.fut ?_ ?_ _ | with_reducible refine Below.drew ?_ | with_reducible refine Below.setCell ?_ ?_ _ | with_reducible refine Below.atPut ?_ ?_ _ | (simp [go_sem]; done) | (simp [go_sem]; omega)))
        · have e1 : rightN n = 0 := by unfold rightN; rw [if_neg (by omega)]
          have e2 : valueN n = 0 := by unfold valueN; rw [if_neg (by omega)]
          rw [e1] at HR1
          rw [e2] at HV1
          clear e1 e2
          go_wp2_with (first | (go_at_call 15; ((with_reducible refine (HR1.out _).mono ?_)); rintro _ _ ⟨rfl, u, rfl⟩) | (go_at_call 17; ((with_reducible refine (HV1.out _).mono ?_)); rintro _ _ ⟨rfl, u, rfl⟩) | (((with_reducible refine wp_region_fut_lit (by kernel_rfl) (by kernel_rfl) ?_)); (repeat (go_big_quiet_step ((first | (go_at_call 15; with_reducible exact Calls.fut_of (HR1.out _)) | (go_at_call 17; with_reducible exact Calls.fut_of (HV1.out _)))))); ((with_reducible refine wpQuiet_nil ?_)); rintro _ ⟨u, rfl⟩))
          go_ret; exact .mk (by first | rfl | (simp; done) | (simp; omega)) (by repeat' (first | exact Below.refl _ _ | with_reducible refine Below.alloc ?_ ?_ _ | with_reducible refine Below.fut ?_ ?_ _ | with_reducible refine Below.drew ?_ | with_reducible refine Below.setCell ?_ ?_ _ | with_reducible refine Below.atPut ?_ ?_ _ | (simp [go_sem]; done) | (simp [go_sem]; omega)))
theorem keyBounds_contract (H : Type) (enc : TypeId × Value → H) (W : World) (base : Nat) (args : Array Value) (ds gs : List (DataW H)) (before : List MemPlace)
    (hval0 : ∀ (j : Nat) t v, Tryd.f9.params[j]? = some t → args[j]? = some v → Value.okWide Tryd.prog W .any base t v)
    (hW : DataW.Whole enc Tryd.prog Tryd.f9.params.toList Rows.keyBoundsSpec.vars false W args.toList ds gs before) (hL : laidMetH Tryd.prog Rows.keyBoundsRow.laid W) :
    Calls Tryd.prog 9 args W fun e W' => ∃ v, e = .returned v ∧ Rows.keyBoundsSpec.post enc Tryd.prog Tryd.f9 false true false false W args v W' := by
  have hval := hval0
  have hW' := hW
  obtain ⟨p, q, hA0, hV, rfl, hfz, hnd⟩ := hW
  have hA : DataW.TrodAll enc Tryd.prog W 0 (fun _ => true) true Tryd.f9.params.toList args.toList ds p := hA0
  rw [Tryd.params9] at hA hval
  obtain ⟨v0, vs0, d0, ds0, p0, q0, hargs, rfl, rfl, h0, r0⟩ := trodAll_cons hA
  obtain ⟨v1, vs1, d1, ds1, p1, q1, rfl, rfl, rfl, h1, r1⟩ := trodAll_cons r0
  obtain ⟨rfl, rfl, rfl⟩ := trodAll_nil r1
  obtain rfl : args = #[v0, v1] := by cases args; simp_all
  obtain ⟨rfl, rfl⟩ := trodVars_none hV
  have k0 := h0
  have lt0 : ∀ x ∈ p0, x.block < W.heap.size := by obtain ⟨m, hm⟩ := k0; exact DataW.trod_lt m _ _ _ hm
  obtain ⟨a0, rfl, -, -, w0⟩ := open_int Tryd.underlying3 (hval 0 3 v0 rfl rfl) h0
  have k1 := h1
  have lt1 : ∀ x ∈ p1, x.block < W.heap.size := by obtain ⟨m, hm⟩ := k1; exact DataW.trod_lt m _ _ _ hm
  obtain ⟨a1, rfl, -, -, w1⟩ := open_int Tryd.underlying5 (hval 1 5 v1 rfl rfl) h1
  clear hA0 hval0
  refine (keyBounds_walk a0 w0 a1 w1 W).mono fun e W' ⟨he, u, hu⟩ => ?_
  subst he; subst hu
  have bel := u.below
  exact ⟨_, rfl, _, _, _, [], _, [], hW', trodAll_mk1 (shut_bool Tryd.underlying4 _), (trodAll_cons_mk (Below.trod laidOut (by kernel_rfl) (of_decide_eq_true (by kernel_rfl)) k0 bel lt0) (trodAll_cons_mk (Below.trod laidOut (by kernel_rfl) (of_decide_eq_true (by kernel_rfl)) k1 bel lt1) trodAll_mk0)), rfl, bel.frame _, fun h => by cases h⟩
theorem keyBounds_laid (os : Os) : laidMet Tryd.prog Rows.keyBoundsRow.laid ((laidWorld os).forCall (fun _ _ => 0) ⟨#[], #[.int .i64 0, .int .u8 0], []⟩).memory :=
  laidMet_of_run' 8 (by kernel_rfl) (by kernel_rfl)
theorem keyBounds_reads (os : Os) {H : Type} (enc : TypeId × Value → H) : ∃ places, DataW.whole enc Tryd.prog ((laidWorld os).forCall (fun _ _ => 0) ⟨#[], #[.int .i64 0, .int .u8 0], []⟩).memory Tryd.f9.params.toList Rows.keyBoundsSpec.vars false (#[.int .i64 0, .int .u8 0] : Array Value).toList 8 = some ([.lit (.int .i64 0), .lit (.int .u8 0)], [], places) :=
  ⟨[], by kernel_rfl⟩
set_option maxRecDepth 100000 in
theorem keyBounds_lifted (os : Os) (started : os.Started) (H : Type) (enc : TypeId × Value → H) (F : Stop.Interp) :
    ReturnsInHanded {} Tryd.checked os 9 .any ((OpenSpec.ofChange Rows.keyBoundsSpec).preRow enc Tryd.prog Tryd.f9 Rows.keyBoundsRow.domain false Rows.keyBoundsRow.laid) (((OpenSpec.ofChange Rows.keyBoundsSpec).at F).post enc Tryd.prog Tryd.f9 false true false false) := by
  obtain ⟨places, hx⟩ := keyBounds_reads os enc
  refine returnsInHanded_of_row (C := Tryd.checked) (s := OpenSpec.ofChange Rows.keyBoundsSpec) own started (by kernel_rfl) Tryd.func9
    (witness_row_at (enc := enc) (C := Tryd.checked) false (laidWorld os) #[.int .i64 0, .int .u8 0] rfl (by kernel_rfl) (by kernel_rfl) (by kernel_rfl)
      (OpenSpec.preRow_of_cond 8 hx (by kernel_rfl) (fun k hk => by cases hk) (by kernel_rfl) (keyBounds_laid os))) ?_
  intro W base args ds gs before hval hW _ _ _ hL _ _
  exact keyBounds_contract H enc W base args ds gs before hval hW hL
theorem keyBounds_said : Rows.KeyBoundsSaid :=
  OpenClaim.holds_of_cond 9 Tryd.f9 rfl rfl rfl rfl rfl rfl rfl ⟨rfl, rfl, rfl, rfl, rfl⟩ rfl rfl rfl rfl rfl (by kernel_rfl) Tryd.func9 (by kernel_rfl)
    (of_decide_eq_true (by kernel_rfl)) (by unfold Func.isWrapper; first | (rw [if_pos (by decide +kernel)]; kernel_rfl) | (rw [if_neg (by decide +kernel)]; exact ⟨rfl, rfl⟩))
    (fun os started H enc _ F => by rw [OpenClaim.pre_eq_preRow]; exact keyBounds_lifted os started H enc F)
theorem keyBounds_plain (f : FuncId) (fn : Func) (hf : Tryd.pinned.checked.prog.funcNamed "rosary/rosarylaw1.KeyBounds" = some f) (hfn : Tryd.pinned.checked.prog.funcs[f]? = some fn) :
    false = Tryd.pinned.checked.prog.looks [] ∧ ∀ (j : Nat) t, fn.params[j]? = some t → Tryd.pinned.checked.prog.wantsStandIn t = false := by
  obtain rfl : f = 9 := Option.some.inj ((show Tryd.prog.funcNamed "rosary/rosarylaw1.KeyBounds" = some 9 by kernel_rfl).symm.trans hf) |>.symm
  obtain rfl : fn = Tryd.f9 := (Option.some.inj (Tryd.func9.symm.trans hfn)).symm
  refine ⟨by kernel_rfl, fun j t ht => ?_⟩
  rw [Tryd.params9] at ht
  have hm := Array.mem_of_getElem? ht
  simp at hm
  rcases hm with rfl | rfl
  all_goals first | exact (show Tryd.prog.wantsStandIn 9 = false by kernel_rfl) | exact (show Tryd.prog.wantsStandIn 3 = false by kernel_rfl) | exact (show Tryd.prog.wantsStandIn 5 = false by kernel_rfl)
/-- The statement. -/
theorem keyBounds_holds : Rows.KeyBoundsCardSaid :=
  Claim7.holds_tied_plain_at .later [] _ _ _ _ keyBounds_said (fun _ h => by cases h) (by kernel_rfl) (fun _ h => by cases h) keyBounds_row_tie rfl ⟨rfl, rfl⟩ (by kernel_rfl) rfl keyBounds_plain (by kernel_rfl)
#print axioms keyBounds_holds
end Go.Proofs.YtfjefhmlomdapaaDoor
