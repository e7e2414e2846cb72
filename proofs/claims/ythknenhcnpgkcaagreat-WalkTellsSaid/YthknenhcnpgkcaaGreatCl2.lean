/- Range with a function of one's own. -/
import Derived.Test.YthknenhcnpgkcaaGreatMv
namespace Go.Proofs.YthknenhcnpgkcaaGreat
open Go.RowKit Go.Shelf
set_option linter.unusedVariables false
set_option linter.unusedSimpArgs false
attribute [local go_sem] Oper.semAt_some
set_option maxRecDepth 100000 in
set_option maxHeartbeats 4000000 in
theorem walkRange1_calls {xs : List It} {g : Option Addr} {W : World} (h : Gives g xs W) (hn : xs.length ≤ 900) (hr : Rises xs) (hsm : ∀ x ∈ xs, x.1.size ≤ maxLen) (s t r : Nat) (hS : W.heap[s]? = some (.cells #[.pointer g] 27))
    (u v : ByteArray) (hu : u.size ≤ maxLen) (hv : v.size ≤ maxLen) (hU : W.heap[t]? = some (.cells #[.string u] 9)) (hV : W.heap[r]? = some (.cells #[.string v] 9))
    {K : World → World → Prop} {Rk : Nat → World → Prop} (hF : FenZ W.heap.size (fun k => k = t ∨ k = r) K Rk) (hfr : ∀ (X : World) (q : Nat), Below W.heap.size W X → X.heap.size ≤ q → Rk q X)
    (cf : Nat) (lb : Array Value) (heg : ∀ args w, (callFunc cf args).run Tryz.prog w = .ok (.enter cf args) w) (J Jx : List It → World → Prop) (hJ : OwnFrom W.heap.size J) (hJx : OwnFrom W.heap.size Jx)
    (hY : ∀ (pre : List It) (x : It) (X : World), J pre X → pre.length < xs.length → Calls Tryz.prog cf (#[.string x.1, .string x.2] ++ lb) X fun e X' => KeepsFrom W.heap.size X X' ∧ ((e = .returned (.bool true) ∧ J (pre ++ [x]) X' ∧ K X X') ∨ (e = .returned (.bool false) ∧ Jx (pre ++ [x]) X'))) (h0 : J [] W) :
    Calls Tryz.prog 26 #[.func (.func cf) #[] lb, .pointer (some ⟨s, 0, none⟩), .pointer (some ⟨t, 0, none⟩), .pointer (some ⟨r, 0, none⟩)] W fun e W' => (∃ v, e = .returned v) ∧ (J (rangeL u v xs) W' ∨ ∃ k, k < (rangeL u v xs).length ∧ Jx ((rangeL u v xs).take (k + 1)) W') := by
  obtain ⟨A, hA⟩ : ∃ A, A = xs.attach := ⟨_, rfl⟩
  obtain ⟨f, hf⟩ : ∃ f : {x // x ∈ xs} → It, f = Subtype.val := ⟨_, rfl⟩
  have hAf : A.map f = xs := by rw [hA, hf]; exact List.attach_map_subtype_val xs
  have hRL : rangeL u v xs = (A.filter fun y => inR u v (f y)).map f := by
    have h2 := List.filter_map (f := f) (p := inR u v) (l := A)
    rw [hAf] at h2
    rw [rangeL_inR, h2]
    rfl
  have hAl : A.length = xs.length := by have := congrArg List.length hAf; rwa [List.length_map] at this
  have hsm' : ∀ y, (f y).1.size ≤ maxLen := fun y => by rw [hf]; exact hsm y.1 y.2
  have HRL := hid hRL
  clear hsm hRL hA hf
  have HEG := hid heg
  have HJ := hid hJ
  have HJX := hid hJx
  have HY := hid hY
  have H0 := hid h0
  have HAL := hid hAl
  clear heg hJ hJx hY h0 hAl
  have hW : Below W.heap.size W W := Below.refl _ _
  have hn1 : 1 ≤ 8 := by omega
  obtain ⟨n, hnn⟩ : ∃ n, n = 8 := ⟨_, rfl⟩
  rw [← hnn] at hn1
  refine callsIn_wide.1 (callsIn_of_wp_marks (n := n) Tryz.func26 rfl trivial ?_ rfl)
  rw [wpIn_wide]
  simp only [Tryz.ntmps26, List.size_toArray, List.length_cons, List.length_nil, Nat.reduceAdd, Nat.reduceSub, Array.replicate_succ, Array.replicate_zero, List.push_toArray, List.append_toArray, List.nil_append, List.cons_append]
  have hS1 := hS
  have hU1 := hU
  have hV1 := hV
  have e1 := fun i => cell_of_row W s i _ _ (0, 0) hS1
  have l1 := lt_of_heap hS1
  have HSEQ := hid (fun (V : World) (hV : Below W.heap.size W V) (B : Nat) (hB : V.cell? ⟨B, 0, none⟩ = some (.pointer g)) => walkAll1_gen (n - 1) (h.on (hW.trans (hV.mono hW.size))) hn B hB A f hAf hF.fen (fun W' r hb hr => hfr W' r ((hW.trans (hV.mono hW.size)).trans (hb.mono (Nat.le_trans hW.size hV.size))) hr))
  have HF := hid hF
  have HU := hid hU1
  have HV := hid hV1
  have hz := hW.size
  have HTW := hid (lt_of_heap hU)
  have HRW := hid (lt_of_heap hV)
  have HR := hid hr
  have HSM := hid hsm'
  have HAF := hid hAf
  clear h hS hU hV hS1 hU1 hV1 hF hfr hW hr hsm' hAf hnn
  go_wp2_with fail
  go_step3
  go_wp2_with fail
  go_step3
  go_wp2_with fail
  (((with_reducible refine (walkAll_is (.pointer g) _ rfl).mono ?_)); rintro _ _ ⟨rfl, rfl⟩)
  go_wp2_with fail
  have hbV : Below W.heap.size W ((W.alloc (.cells #[.func (.func cf) #[] lb] 69)).alloc (.cells #[.pointer g] 27)) := (by repeat' (first | exact Below.refl _ _ | with_reducible assumption | omega | with_reducible refine below_put_fut ?_ ?_ _ | with_reducible refine below_to_put ?_ | with_reducible refine Below.alloc ?_ ?_ _ | with_reducible refine Below.fut ?_ ?_ _ | with_reducible refine Below.drew ?_ | with_reducible refine Below.setCell ?_ ?_ _ | with_reducible refine Below.atPut ?_ ?_ _ | (simp [go_sem]; done) | (simp [go_sem]; omega)))
  have k0 : ((W.alloc (.cells #[.func (.func cf) #[] lb] 69)).alloc (.cells #[.pointer g] 27)).heap[W.heap.size]? = some (.cells #[.func (.func cf) #[] lb] 69) := (heap_alloc_other _ _ _ (by simp)).trans (heap_alloc_at _ _ _ rfl)
  have k1 : ((W.alloc (.cells #[.func (.func cf) #[] lb] 69)).alloc (.cells #[.pointer g] 27)).heap[W.heap.size + 1]? = some (.cells #[.pointer g] 27) := heap_alloc_at _ _ _ (by simp)
  have hVs : ((W.alloc (.cells #[.func (.func cf) #[] lb] 69)).alloc (.cells #[.pointer g] 27)).heap.size = W.heap.size + 2 := by simp
  generalize ((W.alloc (.cells #[.func (.func cf) #[] lb] 69)).alloc (.cells #[.pointer g] 27)) = V at hbV k0 k1 hVs ⊢
  obtain ⟨P, hP⟩ : ∃ P : {x // x ∈ xs} → Bool, P = fun z => inR u v (f z) := ⟨_, rfl⟩
  have HP := hid (show ∀ z, P z = inR u v (f z) from fun z => by rw [hP])
  have HPA := hid (show (A.filter fun y => inR u v (f y)) = A.filter P by rw [hP])
  clear hP
  have hVsz : W.heap.size ≤ V.heap.size := by omega
  refine wpIn_wide.1 (wpIn_range_own (F := Fence.wide) (n := n) rfl hn1 (gf := 24) (lb := #[.pointer (some ⟨W.heap.size + 1, 0, none⟩)]) rfl trivial (enters_of Tryz.func24 (by kernel_rfl) rfl)
    (SeqOwn.of_stops (HSEQ.out V hbV _ (cell_of_row _ _ 0 _ _ (0, 0) k1))) (fun h k => HF.out.trans h k) (fun X q o o' hq hX hc => HF.out.put o' (by omega) hX hc) (Below.refl _ _) (fun _ => rfl)
    (fun pre X => J ((pre.filter P).map f) X ∧ X.heap[W.heap.size]? = some (.cells #[.func (.func cf) #[] lb] 69) ∧ X.heap[t]? = some (.cells #[.string u] 9) ∧ X.heap[r]? = some (.cells #[.string v] 9))
    (fun c pre X => c = .exit 0 ∧ ∃ p y, pre = p ++ [y] ∧ ((v.size ≠ 0 ∧ lt (f y).1 v = false ∧ J ((p.filter P).map f) X) ∨ (P y = true ∧ Jx ((p.filter P).map f ++ [f y]) X)))
    ?hI ?hIx ?h0 (fun y a' => a' = { tmps := #[.func (.func cf) #[] lb, .pointer (some ⟨s, 0, none⟩), .pointer (some ⟨t, 0, none⟩), .pointer (some ⟨r, 0, none⟩), .pointer (some ⟨W.heap.size, 0, none⟩), .string (f y).1, .string (f y).2, .pointer g, .func (.func 24) #[] #[.pointer (some ⟨W.heap.size + 1, 0, none⟩)], .string (f y).1, .string (f y).2, undef, undef, undef, undef, undef, undef, undef, undef, undef, undef, undef, undef, undef, undef, undef, undef, undef, undef, undef], defers := [] })
    ?assign ?body ?done ?stop)
  case hI => exact OwnFrom.and (fun s X Y row hs hg hr => HJ.out _ X Y row hs hg fun r e => ⟨by have := (hr r e).1; omega, (hr r e).2⟩) (OwnFrom.and (own_ahead _ _ _ (by omega)) (OwnFrom.and (own_ahead _ _ _ (by have := HTW.out; omega)) (own_ahead _ _ _ (by have := HRW.out; omega))))
  case hIx =>
    exact fun c s X Y row ⟨h1, p, y, h2, h3⟩ hg hr => ⟨h1, p, y, h2, h3.imp (fun ⟨q1, q2, q3⟩ => ⟨q1, q2, HJ.out _ X Y row q3 hg fun r e => ⟨by have := (hr r e).1; omega, (hr r e).2⟩⟩) (fun ⟨q1, q2⟩ => ⟨q1, HJX.out _ X Y row q2 hg fun r e => ⟨by have := (hr r e).1; omega, (hr r e).2⟩⟩)⟩
  case h0 => exact ⟨own_below HJ.out H0.out hbV, k0, (hbV.block _ (by have := HTW.out; omega)).trans HU.out, (hbV.block _ (by have := HRW.out; omega)).trans HV.out⟩
  case assign =>
    rintro l pre y X K' hi hK
    have HK := hid hK
    clear hK hi
    gi_wp2_with fail
    exact HK.out _ (by simp)
  case body =>
    rintro l pre y a' X ⟨i1, i2, i3, i4⟩ rfl hlen
    have I1 := hid i1
    have I2 := hid i2
    have I3 := hid i3
    have I4 := hid i4
    have e2 := fun i => cell_of_row X t i _ _ (0, 0) i3
    have e3 := fun i => cell_of_row X r i _ _ (0, 0) i4
    have e4 := fun i => cell_of_row X W.heap.size i _ _ (0, 0) i2
    have l2 := lt_of_heap i3
    have l3 := lt_of_heap i4
    have l4 := lt_of_heap i2
    have hxs := lt_of_heap i2
    have hys := HSM.out y
    have HTL := hid (show ((pre.filter P).map f).length < xs.length from by rw [List.length_map, ← HAL.out]; exact Nat.lt_of_le_of_lt (List.length_filter_le _ _) hlen)
    obtain ⟨b1, hb1⟩ : ∃ b, Op.bytesLess (f y).1.data.toList u.data.toList = b := ⟨_, rfl⟩
    have HB1 := hid (show lt (f y).1 u = b1 from hb1)
    clear i1 i2 i3 i4
    gi_wp2_with fail
    refine ⟨trivial, fun h => (by cases h), CallsIn.inRound _ (callsIn_wide.2 ((less_is _ _ hys hu _ hb1 _).mono ?_))⟩
    rintro _ _ ⟨rfl, u1, rfl⟩
    clear hb1
    cases b1 with
    | true =>
      gi_wp2_with fail
      have hb := u1.below
      have hnp : P y = false := by rw [HP.out, inR, HB1.out]; rfl
      exact ⟨KeepsFrom.chg (S := fun _ => False) (Chg.of_below hb) (fun k hk => hk.elim), HF.out.below (by omega) hb, by rw [List.filter_append, List.filter_cons_of_neg (by rw [hnp]; simp), List.filter_nil, List.append_nil]; exact own_below HJ.out I1.out hb, (hb.block _ (lt_of_heap I2.out)).trans I2.out, (hb.block _ (lt_of_heap I3.out)).trans I3.out, (hb.block _ (lt_of_heap I4.out)).trans I4.out⟩
    | false =>
      by_cases hv0 : v.size = 0
      · have hve : v.toList.isEmpty = true := empty_yes hv0
        have hin := hid (show P y = true by rw [HP.out, inR, HB1.out, decide_eq_true hv0]; rfl)
        have HBX := hid u1.below
        clear hv0
        gi_wp2_with fail
        refine ⟨trivial, ?_⟩
        generalize u1.val = X2 at HBX ⊢
        clear e2 e3 e4 l2 l3 l4 hve
        have J2 := hid (own_below HJ.out I1.out HBX.out)
        have e4' := fun i => cell_of_row X2 W.heap.size i _ _ (0, 0) ((HBX.out.block _ (lt_of_heap I2.out)).trans I2.out)
        have l4' := Nat.lt_of_lt_of_le (lt_of_heap I2.out) HBX.out.size
        have heg := HEG.out
        gi_wp2_with fail
        refine ⟨trivial, fun h => (by cases h), CallsIn.inRound _ (callsIn_wide.2 ((HY.out ((pre.filter P).map f) (f y) X2 J2.out HTL.out).mono ?_))⟩
        clear heg e4' l4'
        rintro e X4 ⟨hkf, (⟨rfl, hJ4, hk4⟩ | ⟨rfl, hJx4⟩)⟩
        · have J4 := hid hJ4
          have HKF := hid (show KeepsFrom V.heap.size X X4 from (KeepsFrom.chg (S := fun _ => False) (Chg.of_below HBX.out) (fun k hk => hk.elim)).trans (keepsFrom_up hkf (by omega)))
          have HK4 := hid (HF.out.trans (HF.out.below (by omega) HBX.out) hk4)
          have HB4 := hid (HF.out.late (.inr (by omega)) ((HBX.out.block _ (lt_of_heap I2.out)).trans I2.out) (by decide) hk4)
          have HT4 := hid (HF.out.late (.inl (.inl rfl)) ((HBX.out.block _ (lt_of_heap I3.out)).trans I3.out) (by decide) hk4)
          have HR4 := hid (HF.out.late (.inl (.inr rfl)) ((HBX.out.block _ (lt_of_heap I4.out)).trans I4.out) (by decide) hk4)
          clear hJ4 hk4 hkf
          gi_wp2_with fail
          exact ⟨HKF.out, HK4.out, by rw [List.filter_append, List.filter_cons_of_pos hin.out, List.filter_nil, List.map_append]; exact J4.out, HB4.out, HT4.out, HR4.out⟩
        · have J4 := hid hJx4
          have HKF := hid (show KeepsFrom V.heap.size X X4 from (KeepsFrom.chg (S := fun _ => False) (Chg.of_below HBX.out) (fun k hk => hk.elim)).trans (keepsFrom_up hkf (by omega)))
          clear hJx4 hkf
          gi_wp2_with fail
          exact ⟨HKF.out, rfl, pre, y, rfl, .inr ⟨hin.out, J4.out⟩⟩
      · have hve : v.toList.isEmpty = false := empty_no hv0
        obtain ⟨b2, hb2⟩ : ∃ b, Op.bytesLess (f y).1.data.toList v.data.toList = b := ⟨_, rfl⟩
        have HB2 := hid (show lt (f y).1 v = b2 from hb2)
        have HV0 := hid hv0
        clear hv0
        gi_wp2_with fail
        refine ⟨trivial, fun h => (by cases h), CallsIn.inRound _ (callsIn_wide.2 ((less_is _ _ hys hv _ hb2 _).mono ?_))⟩
        rintro _ _ ⟨rfl, u2, rfl⟩
        have HBX := hid (show Below X.heap.size X u2.val from u1.below.trans (u2.below.mono u1.below.size))
        clear hb2 hve
        generalize u2.val = X2 at HBX ⊢
        clear e2 e3 e4 l2 l3 l4
        cases b2 with
        | true =>
          have hin := hid (show P y = true by rw [HP.out, inR, HB1.out, HB2.out]; simp)
          have J2 := hid (own_below HJ.out I1.out HBX.out)
          have e4' := fun i => cell_of_row X2 W.heap.size i _ _ (0, 0) ((HBX.out.block _ (lt_of_heap I2.out)).trans I2.out)
          have l4' := Nat.lt_of_lt_of_le (lt_of_heap I2.out) HBX.out.size
          have heg := HEG.out
          gi_wp2_with fail
          refine ⟨trivial, fun h => (by cases h), CallsIn.inRound _ (callsIn_wide.2 ((HY.out ((pre.filter P).map f) (f y) X2 J2.out HTL.out).mono ?_))⟩
          clear heg e4' l4'
          rintro e X4 ⟨hkf, (⟨rfl, hJ4, hk4⟩ | ⟨rfl, hJx4⟩)⟩
          · have J4 := hid hJ4
            have HKF := hid (show KeepsFrom V.heap.size X X4 from (KeepsFrom.chg (S := fun _ => False) (Chg.of_below HBX.out) (fun k hk => hk.elim)).trans (keepsFrom_up hkf (by omega)))
            have HK4 := hid (HF.out.trans (HF.out.below (by omega) HBX.out) hk4)
            have HB4 := hid (HF.out.late (.inr (by omega)) ((HBX.out.block _ (lt_of_heap I2.out)).trans I2.out) (by decide) hk4)
            have HT4 := hid (HF.out.late (.inl (.inl rfl)) ((HBX.out.block _ (lt_of_heap I3.out)).trans I3.out) (by decide) hk4)
            have HR4 := hid (HF.out.late (.inl (.inr rfl)) ((HBX.out.block _ (lt_of_heap I4.out)).trans I4.out) (by decide) hk4)
            clear hJ4 hk4 hkf
            gi_wp2_with fail
            exact ⟨HKF.out, HK4.out, by rw [List.filter_append, List.filter_cons_of_pos hin.out, List.filter_nil, List.map_append]; exact J4.out, HB4.out, HT4.out, HR4.out⟩
          · have J4 := hid hJx4
            have HKF := hid (show KeepsFrom V.heap.size X X4 from (KeepsFrom.chg (S := fun _ => False) (Chg.of_below HBX.out) (fun k hk => hk.elim)).trans (keepsFrom_up hkf (by omega)))
            clear hJx4 hkf
            gi_wp2_with fail
            exact ⟨HKF.out, rfl, pre, y, rfl, .inr ⟨hin.out, J4.out⟩⟩
        | false =>
          have J2 := hid (own_below HJ.out I1.out HBX.out)
          have HKF := hid (show KeepsFrom V.heap.size X X2 from KeepsFrom.chg (S := fun _ => False) (Chg.of_below HBX.out) (fun k hk => hk.elim))
          gi_wp2_with fail
          exact ⟨HKF.out, rfl, pre, y, rfl, .inl ⟨HV0.out, HB2.out, J2.out⟩⟩
  case done =>
    rintro D ys X hD hys ⟨i1, i2, i3, i4⟩ hK
    have hys : A = ys := hys.symm
    subst hys
    have I1 := hid i1
    have HK := hid hK
    clear i1 i2 i3 i4 hK
    go_wp2_with fail
    try rw [Exit.noGoto_normal]
    refine ⟨by simp, .inl ⟨_, _, rfl, run_takeDeferred HK.out, ?_⟩⟩
    exact ⟨_, results_none rfl _ _ _, ⟨_, rfl⟩, .inl (by rw [HRL.out, HPA.out]; exact OwnFrom.putObj HJ.out _ I1.out (by omega) HK.out rfl)⟩
  case stop =>
    rintro D c pre X hD ⟨q, hq, rfl⟩ ⟨rfl, p, y, hp, h3⟩ hK
    have H3 := hid h3
    have HK := hid hK
    clear h3 hK
    have hspl : A.filter P = (p.filter P) ++ ([y].filter P ++ (A.drop q).filter P) := by
      conv => lhs; rw [← List.take_append_drop q A, hp]
      rw [List.filter_append, List.filter_append, List.append_assoc]
    have HSPL := hid hspl
    have HPAST := hid (show v.size ≠ 0 → lt (f y).1 v = false → A.filter P = p.filter P from fun h1 h2 => by
      rw [← HPA.out, range_past (by rw [HAF.out]; exact HR.out) hp h1 h2]
      refine List.filter_congr fun z _ => (HP.out z).symm)
    clear hspl hp
    rw [wpIn_wide]
    go_wp2_with fail
    try rw [Exit.noGoto_normal]
    refine ⟨by simp, .inl ⟨_, _, rfl, run_takeDeferred HK.out, ?_⟩⟩
    refine ⟨_, results_none rfl _ _ _, ⟨_, rfl⟩, ?_⟩
    rcases H3.out with ⟨h1, h2, h3⟩ | ⟨h1, h2⟩
    · exact .inl (by rw [HRL.out, HPA.out, HPAST.out h1 h2]; exact OwnFrom.putObj HJ.out _ h3 (by omega) HK.out rfl)
    · refine .inr ⟨(p.filter P).length, ?_, ?_⟩
      · rw [HRL.out, HPA.out, HSPL.out, List.filter_cons_of_pos h1, List.length_map, List.length_append, List.length_append, List.length_cons]; omega
      · rw [HRL.out, HPA.out, HSPL.out, List.filter_cons_of_pos h1, List.filter_nil, ← List.append_assoc, List.map_append, List.take_left' (by rw [List.length_map, List.length_append]; rfl), List.map_append]
        exact OwnFrom.putObj HJX.out _ h2 (by omega) HK.out rfl
end Go.Proofs.YthknenhcnpgkcaaGreat
