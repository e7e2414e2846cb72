/- WalkRanges answers true for every list of items and every three texts: the walk. -/
import Derived.Test.YthknenhcnpgkcaaMv
import Derived.Test.YthknenhcnpgkcaaMt
import Derived.Test.YthknenhcnpgkcaaMi
namespace Go.Proofs.Ythknenhcnpgkcaa
open Go.RowKit Go.Shelf
set_option linter.unusedVariables false
set_option linter.unusedSimpArgs false
theorem alloc3 (W : World) (o0 o1 o2 : Obj) : (((W.alloc o0).alloc o1).alloc o2).heap[W.heap.size]? = some o0 ∧ (((W.alloc o0).alloc o1).alloc o2).heap[W.heap.size + 1]? = some o1 ∧ (((W.alloc o0).alloc o1).alloc o2).heap[W.heap.size + 1 + 1]? = some o2 :=
  ⟨(heap_alloc_other _ _ _ (by simp only [World.size_alloc]; omega)).trans ((heap_alloc_other _ _ _ (by simp only [World.size_alloc]; omega)).trans (heap_alloc_at _ _ _ (by simp))), (heap_alloc_other _ _ _ (by simp only [World.size_alloc]; omega)).trans (heap_alloc_at _ _ _ (by simp)), heap_alloc_at _ _ _ (by simp)⟩
theorem gtr_no {b c : ByteArray} (h : lt c b = false) : (!Op.bytesLess b.toList c.toList && !b.toList == c.toList) = false := by
  rw [ByteArray.toList_eq, ByteArray.toList_eq]
  by_cases e : b = c
  · subst e; simp
  · have := lt_of_not h (fun e' => e e'.symm)
    unfold lt at this
    rw [this]; rfl
theorem gtr_yes {b c : ByteArray} (h : lt c b = true) : (!Op.bytesLess b.toList c.toList && !b.toList == c.toList) = true := by
  rw [ByteArray.toList_eq, ByteArray.toList_eq]
  have h1 := lt_asymm h
  have h2 := lt_ne h
  unfold lt at h1
  rw [h1]
  have : (b.data.toList == c.data.toList) = false := by
    rw [beq_eq_false_iff_ne]
    exact fun e => h2 (ba_ext e.symm)
  rw [this]; rfl
section
variable {B0 : Nat} {w0 : World} {most : Int} {xs : List It} {g : Nat} {W : World}
theorem sh_collectRange99 (h : Sh B0 w0 most xs g W) (hn : xs.length ≤ 99) (u v : ByteArray) (hu : u.size ≤ maxLen) (hv : v.size ≤ maxLen) (s t r : Nat) (hS : W.heap[s]? = some (.cells #[.pointer (some ⟨g, 0, none⟩)] 23)) (hU : W.heap[t]? = some (.cells #[.string u] 9)) (hV : W.heap[r]? = some (.cells #[.string v] 9)) (n : Nat) (hl : (rangeL u v xs).length = n) :
    Calls Try.prog 46 #[.func (.func 82) #[] #[.pointer (some ⟨s, 0, none⟩), .pointer (some ⟨t, 0, none⟩), .pointer (some ⟨r, 0, none⟩)], .int .i64 99] W fun e W' => ∃ ao c, e = .returned (.slice ao n c) ∧ Out W (rangeL u v xs) (.slice ao n c) W' := by
  have hle : (rangeL u v xs).length ≤ xs.length := List.length_filter_le _ _
  have hal : (xs.attach.filter fun y => inR u v y.1).length = (rangeL u v xs).length := by rw [rangeL_inR, ← attach_filter, List.length_map]
  have key := collect_own (xs.attach.filter fun y => inR u v y.1) Subtype.val xs.attach.length (by rw [List.length_attach]; omega) 82 #[.pointer (some ⟨s, 0, none⟩), .pointer (some ⟨t, 0, none⟩), .pointer (some ⟨r, 0, none⟩)] W (enters_of Try.func82 (by kernel_rfl) rfl)
    (fun V A hbV hA hWA hA0 => by
      have hF : FenZ V.heap.size (fun k => k = t ∨ k = r) (KpOS A (fun _ => False)) (fun r X => A < X.heap.size ∧ r ≠ A ∧ ¬ False ∧ ownOf A X ≠ some r) := fenZ_OS (S := fun _ => False) hA (fun _ h => h.elim) (fun k hk => ⟨by
        have h1 := lt_of_heap hU; have h2 := lt_of_heap hV; omega, fun h => h⟩)
      have hfr : ∀ (W' : World) (r : Nat), Below V.heap.size V W' → W'.heap.size ≤ r → (A < W'.heap.size ∧ r ≠ A ∧ ¬ False ∧ ownOf A W' ≠ some r) := fun W' r hb hr => fresh_O hA (fun r e => by rw [hA0] at e; cases e) W' r hb hr
      exact walkRange1_own 8 (by omega) ((h.on hbV h.ge).gives (by omega)) (by omega) (sh_rises h) s t r ((hbV.block _ (lt_of_heap hS)).trans hS) u v hu hv ((hbV.block _ (lt_of_heap hU)).trans hU) ((hbV.block _ (lt_of_heap hV)).trans hV) xs.attach Subtype.val (fun y => sh_small h y.1 y.2) (List.attach_map_subtype_val xs) hF hfr)
    99 (by omega) (by omega)
  refine key.mono ?_
  rintro _ W' ⟨ao, k, c, rfl, hr, hk, hb', hf⟩
  rw [attach_filter, ← rangeL_inR, List.take_of_length_le (by omega)] at hr
  rw [hal] at hk
  obtain rfl : k = n := by omega
  exact ⟨ao, c, rfl, ⟨⟨ao, c, by rw [hl]⟩, by rw [hl]; exact hr, hb', hf⟩⟩
end
set_option maxRecDepth 100000 in
set_option maxHeartbeats 4000000 in
theorem walkRanges_good (q : Bool) (w : World) (sl : Value) (l : List It) (n : Nat) (hl : l.length = n) (hn : n ≤ 60) (hs : Src w 2 sl n (flat l)) (a b c : ByteArray) (ha : a.size ≤ 40) (hb : b.size ≤ 40) (hc : c.size ≤ 40) (hab : lt b a = false) (hbc : lt c b = false) (hq : (a.toList == b.toList) = q) (hq2 : q = false → Op.bytesLess a.toList b.toList = true) (hb0 : ¬ b.size = 0) (hc0 : ¬ c.size = 0) :
    Calls Try.prog 10 #[sl, .string a, .string b, .string c] w (Makes (.bool true) w) := by
  obtain ⟨ao, cap, rfl⟩ := hs.slice_of
  have d1 : decide ((60 : Int) < n) = false := by simp; omega
  have d2 : decide ((40 : Int) < a.size) = false := by simp; omega
  have d3 : decide ((40 : Int) < b.size) = false := by simp; omega
  have d4 : decide ((40 : Int) < c.size) = false := by simp; omega
  have d5 : (!Op.bytesLess a.toList b.toList && !q) = false := by
    cases q with
    | true => simp
    | false => rw [hq2 rfl]; rfl
  have d6 : (!Op.bytesLess b.toList c.toList && !b.toList == c.toList) = false := gtr_no hbc
  have d7 : b.toList.isEmpty = false := empty_no hb0
  have d8 : c.toList.isEmpty = false := empty_no hc0
  have HS := hid hs
  have HL := hid hl
  have sa : a.size ≤ maxLen := by unfold maxLen; omega
  have sb : b.size ≤ maxLen := by unfold maxLen; omega
  have sc : c.size ≤ maxLen := by unfold maxLen; omega
  have HAB := hid hab
  have HBC := hid hbc
  clear hs hl hab hbc
  go_enter Try.func10, Try.ntmps10
  cases q with
  | true =>
    go_wp2_with (first | (go_at_call 33; ((with_reducible refine (wkAlive_any _).mono ?_)); rintro _ _ ⟨rfl, u, rfl⟩; (try (rw [Fut.put_self u (by first | assumption | (simp [go_sem]; done) | (simp [go_sem]; omega))]))) | (((with_reducible refine wp_region_fut_lit (by kernel_rfl) (by kernel_rfl) ?_)); (repeat (go_big_quiet_step ((first | (go_at_call 33; with_reducible exact Calls.fut_of (wkAlive_any _)))))); ((with_reducible refine wpQuiet_nil ?_)); rintro _ ⟨u, rfl⟩; (try (rw [Fut.put_self u (by first | assumption | (simp [go_sem]; done) | (simp [go_sem]; omega))]))))
    clear hq2
    clear d1 d2 d3 d4 d5 d6 d7 d8
    have hbX := u.below
    have hzX := hbX.size
    generalize u.val = X at hbX hzX ⊢
    refine (filled_is X _ l n HL.out hn (HS.out.heap hbX)).mono ?_
    rintro _ W1 ⟨gs, gr, rfl, hb1⟩
    have H1 := hid (hb1.base hbX hzX).sh
    have hxl := fillL_len l
    generalize fillL l = xs at H1 hxl
    obtain ⟨m, hm⟩ : ∃ m, xs.length = m := ⟨_, rfl⟩
    have HM := hid hm
    rw [hm, HL.out] at hxl
    have hm60 : m ≤ 60 := by omega
    have HBW1 := hid (Below.refl W1.heap.size W1)
    obtain ⟨n1, hn1⟩ : ∃ n1, (rangeL a b xs).length = n1 := ⟨_, rfl⟩
    obtain ⟨n2, hn2⟩ : ∃ n2, (rangeL b c xs).length = n2 := ⟨_, rfl⟩
    obtain ⟨n3, hn3⟩ : ∃ n3, (rangeL a c xs).length = n3 := ⟨_, rfl⟩
    have hsp := rangeL_split (sh_rises H1.out) HAB.out HBC.out hb0 hc0
    have h13 : n1 + n2 = n3 := by rw [← hn1, ← hn2, ← hn3, ← hsp, List.length_append]
    have h360 : n3 ≤ 60 := by rw [← hn3]; exact Nat.le_trans (List.length_filter_le _ _) (by omega)
    have HSP := hid hsp
    have HN1 := hid hn1
    have HN2 := hid hn2
    have HN3 := hid hn3
    have HE := hid h13
    have hn1s : n1 + n2 ≤ 60 := by omega
    clear hb1 hbX hzX HS HL hxl hm hn1 hn2 hn3 hsp h13
    go_wp2_with fail
    (((with_reducible refine (walkRange_is (some ⟨gs, 0, none⟩) a b _).mono ?_)); rintro _ _ ⟨rfl, rfl⟩)
    obtain ⟨kS, kU, kV⟩ := alloc3 W1 (.cells #[.pointer (some ⟨gs, 0, none⟩)] 23) (.cells #[.string a] 9) (.cells #[.string b] 9)
    have hbA : Below W1.heap.size W1 (((W1.alloc (.cells #[.pointer (some ⟨gs, 0, none⟩)] 23)).alloc (.cells #[.string a] 9)).alloc (.cells #[.string b] 9)) := (by repeat' (first | exact Below.refl _ _ | with_reducible assumption | omega | with_reducible refine below_put_fut ?_ ?_ _ | with_reducible refine below_to_put ?_ | with_reducible refine Below.alloc ?_ ?_ _ | with_reducible refine Below.fut ?_ ?_ _ | with_reducible refine Below.drew ?_ | with_reducible refine Below.setCell ?_ ?_ _ | with_reducible refine Below.atPut ?_ ?_ _ | (simp [go_sem]; done) | (simp [go_sem]; omega)))
    generalize (((W1.alloc (.cells #[.pointer (some ⟨gs, 0, none⟩)] 23)).alloc (.cells #[.string a] 9)).alloc (.cells #[.string b] 9)) = V2 at kS kU kV hbA ⊢
    generalize W1.heap.size = B2 at kS kU kV ⊢
    have hbB := hid (HBW1.out.trans (hbA.mono HBW1.out.size))
    have KS := hid kS
    have KU := hid kU
    have KV := hid kV
    have HBA := hid hbA
    clear kS kU kV hbA
    go_wp2_with fail
    refine (sh_collectRange99 (H1.out.on hbB.out H1.out.ge) (by rw [HM.out]; omega) a b sa sb B2 _ _ KS.out KU.out KV.out n1 HN1.out).mono ?_
    rintro _ W2 ⟨a2, c2, rfl, ho2⟩
    have HO2 := hid ho2
    have HBW2 := hid (hbB.out.trans (ho2.below.mono hbB.out.size))
    have HST2 := hid (show Below W1.heap.size W1 W2 from HBA.out.trans (ho2.below.mono HBA.out.size))
    have HSZ2 := hid (show W1.heap.size ≤ V2.heap.size from HBA.out.size)
    clear ho2 KS KU KV hbB HBA
    go_wp2_with fail
    (((with_reducible refine (walkRange_is (some ⟨gs, 0, none⟩) b c _).mono ?_)); rintro _ _ ⟨rfl, rfl⟩)
    obtain ⟨kS, kU, kV⟩ := alloc3 W2 (.cells #[.pointer (some ⟨gs, 0, none⟩)] 23) (.cells #[.string b] 9) (.cells #[.string c] 9)
    have hbA : Below W2.heap.size W2 (((W2.alloc (.cells #[.pointer (some ⟨gs, 0, none⟩)] 23)).alloc (.cells #[.string b] 9)).alloc (.cells #[.string c] 9)) := (by repeat' (first | exact Below.refl _ _ | with_reducible assumption | omega | with_reducible refine below_put_fut ?_ ?_ _ | with_reducible refine below_to_put ?_ | with_reducible refine Below.alloc ?_ ?_ _ | with_reducible refine Below.fut ?_ ?_ _ | with_reducible refine Below.drew ?_ | with_reducible refine Below.setCell ?_ ?_ _ | with_reducible refine Below.atPut ?_ ?_ _ | (simp [go_sem]; done) | (simp [go_sem]; omega)))
    generalize (((W2.alloc (.cells #[.pointer (some ⟨gs, 0, none⟩)] 23)).alloc (.cells #[.string b] 9)).alloc (.cells #[.string c] 9)) = V3 at kS kU kV hbA ⊢
    generalize W2.heap.size = B3 at kS kU kV ⊢
    have hbB := hid (HBW2.out.trans (hbA.mono HBW2.out.size))
    have KS := hid kS
    have KU := hid kU
    have KV := hid kV
    have HBA := hid hbA
    clear kS kU kV hbA
    go_wp2_with fail
    refine (sh_collectRange99 (H1.out.on hbB.out H1.out.ge) (by rw [HM.out]; omega) b c sb sc B3 _ _ KS.out KU.out KV.out n2 HN2.out).mono ?_
    rintro _ W3 ⟨a3, c3, rfl, ho3⟩
    have HO3 := hid ho3
    have HBW3 := hid (hbB.out.trans (ho3.below.mono hbB.out.size))
    have HST3 := hid (show Below W2.heap.size W2 W3 from HBA.out.trans (ho3.below.mono HBA.out.size))
    have HSZ3 := hid (show W2.heap.size ≤ V3.heap.size from HBA.out.size)
    clear ho3 KS KU KV hbB HBA
    go_wp2_with fail
    (((with_reducible refine (walkRange_is (some ⟨gs, 0, none⟩) a c _).mono ?_)); rintro _ _ ⟨rfl, rfl⟩)
    obtain ⟨kS, kU, kV⟩ := alloc3 W3 (.cells #[.pointer (some ⟨gs, 0, none⟩)] 23) (.cells #[.string a] 9) (.cells #[.string c] 9)
    have hbA : Below W3.heap.size W3 (((W3.alloc (.cells #[.pointer (some ⟨gs, 0, none⟩)] 23)).alloc (.cells #[.string a] 9)).alloc (.cells #[.string c] 9)) := (by repeat' (first | exact Below.refl _ _ | with_reducible assumption | omega | with_reducible refine below_put_fut ?_ ?_ _ | with_reducible refine below_to_put ?_ | with_reducible refine Below.alloc ?_ ?_ _ | with_reducible refine Below.fut ?_ ?_ _ | with_reducible refine Below.drew ?_ | with_reducible refine Below.setCell ?_ ?_ _ | with_reducible refine Below.atPut ?_ ?_ _ | (simp [go_sem]; done) | (simp [go_sem]; omega)))
    generalize (((W3.alloc (.cells #[.pointer (some ⟨gs, 0, none⟩)] 23)).alloc (.cells #[.string a] 9)).alloc (.cells #[.string c] 9)) = V4 at kS kU kV hbA ⊢
    generalize W3.heap.size = B4 at kS kU kV ⊢
    have hbB := hid (HBW3.out.trans (hbA.mono HBW3.out.size))
    have KS := hid kS
    have KU := hid kU
    have KV := hid kV
    have HBA := hid hbA
    clear kS kU kV hbA
    go_wp2_with fail
    refine (sh_collectRange99 (H1.out.on hbB.out H1.out.ge) (by rw [HM.out]; omega) a c sa sc B4 _ _ KS.out KU.out KV.out n3 HN3.out).mono ?_
    rintro _ W4 ⟨a4, c4, rfl, ho4⟩
    have HO4 := hid ho4
    have HBW4 := hid (hbB.out.trans (ho4.below.mono hbB.out.size))
    have HST4 := hid (show Below W3.heap.size W3 W4 from HBA.out.trans (ho4.below.mono HBA.out.size))
    have HSZ4 := hid (show W3.heap.size ≤ V4.heap.size from HBA.out.size)
    clear ho4 KS KU KV hbB HBA
    have HX := hid (show Row W4 34 2 (.slice a2 n1 c2) n1 (flat (rangeL a b xs)) from by have := ((HO2.out.on HST3.out).on HST4.out).row; rwa [HN1.out] at this)
    have HY := hid (show Src W4 2 (.slice a3 n2 c3) n2 (flat (rangeL b c xs)) from by have := (HO3.out.on HST4.out).row.src (flat_one _); rwa [HN2.out] at this)
    have HZ := hid (show Row W4 34 2 (.slice a4 n3 c4) n3 (flat (rangeL a c xs)) from by have := HO4.out.row; rwa [HN3.out] at this)
    have hx2 : ∀ k, blk (.slice a2 n1 c2) k ≠ 0 → W1.heap.size ≤ k ∧ k < W2.heap.size := fun k hk => ⟨by
      rcases Nat.lt_or_ge k W1.heap.size with e | e
      · have := HO2.out.fresh k (Nat.lt_of_lt_of_le e HSZ2.out); omega
      · exact e, by have := HO2.out.row.lt hk; exact this⟩
    have hx4 : ∀ k, blk (.slice a4 n3 c4) k ≠ 0 → W3.heap.size ≤ k := fun k hk => by
      rcases Nat.lt_or_ge k W3.heap.size with e | e
      · have := HO4.out.fresh k (Nat.lt_of_lt_of_le e HSZ4.out); omega
      · exact e
    have HX2 := hid hx2
    have HX4 := hid hx4
    clear hx2 hx4
    go_wp2_with (first | (at_builtin; refine wpList_append_ex (by rfl) _ _ _ (by rfl) _ _ (by rfl) (by rfl) (append_to HX.out (Below.refl _ _) HY.out (by omega)) ?_; rintro v5 W5 ⟨⟨a5, c5, rfl⟩, hr5, hc5, hb5⟩; rw [HE.out] at hr5 ⊢; have HR5 := hid hr5; have HC5 := hid hc5; clear hr5 hc5 hb5))
    have HZ5 := hid (show Row W5 34 2 (.slice a4 n3 c4) n3 (flat (rangeL a c xs)) from HZ.out.chg HC5.out fun k hk h => by
      have h1 := HX2.out k h; have h2 := HX4.out k hk; have h3 := HST3.out.size; omega)
    have hb15 : Below W1.heap.size W1 W5 := HBW4.out.trans (HC5.out.below HBW4.out.size fun i hi => (HX2.out i hi).1)
    have HB15 := hid hb15
    have HR6 := hid (show Src W5 2 (.slice a5 n3 c5) n3 (flat (rangeL a c xs)) from by have := HR5.out.src (flat_one _); rwa [HSP.out] at this)
    clear hb15
    (((with_reducible refine (same_is W5 _ _ (rangeL a c xs) n3 HN3.out (by omega) HR6.out (HZ5.out.src (flat_one _))).mono ?_)); rintro _ _ ⟨rfl, u6, rfl⟩)
    have HBW6 := hid (HB15.out.trans (u6.below.mono HB15.out.size))
    generalize u6.val = W6 at HBW6 ⊢
    have hfin := H1.out.1.trans (HBW6.out.mono H1.out.ge)
    go_wp2_with fail
    go_ret
    exact .mk rfl hfin
  | false =>
    have d9 := hq2 rfl
    have HLT := hid (show lt a b = true by have := hq2 rfl; rwa [ByteArray.toList_eq, ByteArray.toList_eq] at this)
    go_wp2_with (first | (go_at_call 33; ((with_reducible refine (wkAlive_any _).mono ?_)); rintro _ _ ⟨rfl, u, rfl⟩; (try (rw [Fut.put_self u (by first | assumption | (simp [go_sem]; done) | (simp [go_sem]; omega))]))) | (((with_reducible refine wp_region_fut_lit (by kernel_rfl) (by kernel_rfl) ?_)); (repeat (go_big_quiet_step ((first | (go_at_call 33; with_reducible exact Calls.fut_of (wkAlive_any _)))))); ((with_reducible refine wpQuiet_nil ?_)); rintro _ ⟨u, rfl⟩; (try (rw [Fut.put_self u (by first | assumption | (simp [go_sem]; done) | (simp [go_sem]; omega))]))))
    clear hq2 d9
    clear d1 d2 d3 d4 d5 d6 d7 d8
    have hbX := u.below
    have hzX := hbX.size
    generalize u.val = X at hbX hzX ⊢
    refine (filled_is X _ l n HL.out hn (HS.out.heap hbX)).mono ?_
    rintro _ W1 ⟨gs, gr, rfl, hb1⟩
    have H1 := hid (hb1.base hbX hzX).sh
    have hxl := fillL_len l
    generalize fillL l = xs at H1 hxl
    obtain ⟨m, hm⟩ : ∃ m, xs.length = m := ⟨_, rfl⟩
    have HM := hid hm
    rw [hm, HL.out] at hxl
    have hm60 : m ≤ 60 := by omega
    have HBW1 := hid (Below.refl W1.heap.size W1)
    obtain ⟨n1, hn1⟩ : ∃ n1, (rangeL a b xs).length = n1 := ⟨_, rfl⟩
    obtain ⟨n2, hn2⟩ : ∃ n2, (rangeL b c xs).length = n2 := ⟨_, rfl⟩
    obtain ⟨n3, hn3⟩ : ∃ n3, (rangeL a c xs).length = n3 := ⟨_, rfl⟩
    have hsp := rangeL_split (sh_rises H1.out) HAB.out HBC.out hb0 hc0
    have h13 : n1 + n2 = n3 := by rw [← hn1, ← hn2, ← hn3, ← hsp, List.length_append]
    have h360 : n3 ≤ 60 := by rw [← hn3]; exact Nat.le_trans (List.length_filter_le _ _) (by omega)
    have HSP := hid hsp
    have HN1 := hid hn1
    have HN2 := hid hn2
    have HN3 := hid hn3
    have HE := hid h13
    have hn1s : n1 + n2 ≤ 60 := by omega
    clear hb1 hbX hzX HS HL hxl hm hn1 hn2 hn3 hsp h13
    go_wp2_with fail
    (((with_reducible refine (walkRange_is (some ⟨gs, 0, none⟩) a b _).mono ?_)); rintro _ _ ⟨rfl, rfl⟩)
    obtain ⟨kS, kU, kV⟩ := alloc3 W1 (.cells #[.pointer (some ⟨gs, 0, none⟩)] 23) (.cells #[.string a] 9) (.cells #[.string b] 9)
    have hbA : Below W1.heap.size W1 (((W1.alloc (.cells #[.pointer (some ⟨gs, 0, none⟩)] 23)).alloc (.cells #[.string a] 9)).alloc (.cells #[.string b] 9)) := (by repeat' (first | exact Below.refl _ _ | with_reducible assumption | omega | with_reducible refine below_put_fut ?_ ?_ _ | with_reducible refine below_to_put ?_ | with_reducible refine Below.alloc ?_ ?_ _ | with_reducible refine Below.fut ?_ ?_ _ | with_reducible refine Below.drew ?_ | with_reducible refine Below.setCell ?_ ?_ _ | with_reducible refine Below.atPut ?_ ?_ _ | (simp [go_sem]; done) | (simp [go_sem]; omega)))
    generalize (((W1.alloc (.cells #[.pointer (some ⟨gs, 0, none⟩)] 23)).alloc (.cells #[.string a] 9)).alloc (.cells #[.string b] 9)) = V2 at kS kU kV hbA ⊢
    generalize W1.heap.size = B2 at kS kU kV ⊢
    have hbB := hid (HBW1.out.trans (hbA.mono HBW1.out.size))
    have KS := hid kS
    have KU := hid kU
    have KV := hid kV
    have HBA := hid hbA
    clear kS kU kV hbA
    go_wp2_with fail
    refine (sh_collectRange99 (H1.out.on hbB.out H1.out.ge) (by rw [HM.out]; omega) a b sa sb B2 _ _ KS.out KU.out KV.out n1 HN1.out).mono ?_
    rintro _ W2 ⟨a2, c2, rfl, ho2⟩
    have HO2 := hid ho2
    have HBW2 := hid (hbB.out.trans (ho2.below.mono hbB.out.size))
    have HST2 := hid (show Below W1.heap.size W1 W2 from HBA.out.trans (ho2.below.mono HBA.out.size))
    have HSZ2 := hid (show W1.heap.size ≤ V2.heap.size from HBA.out.size)
    clear ho2 KS KU KV hbB HBA
    go_wp2_with fail
    (((with_reducible refine (walkRange_is (some ⟨gs, 0, none⟩) b c _).mono ?_)); rintro _ _ ⟨rfl, rfl⟩)
    obtain ⟨kS, kU, kV⟩ := alloc3 W2 (.cells #[.pointer (some ⟨gs, 0, none⟩)] 23) (.cells #[.string b] 9) (.cells #[.string c] 9)
    have hbA : Below W2.heap.size W2 (((W2.alloc (.cells #[.pointer (some ⟨gs, 0, none⟩)] 23)).alloc (.cells #[.string b] 9)).alloc (.cells #[.string c] 9)) := (by repeat' (first | exact Below.refl _ _ | with_reducible assumption | omega | with_reducible refine below_put_fut ?_ ?_ _ | with_reducible refine below_to_put ?_ | with_reducible refine Below.alloc ?_ ?_ _ | with_reducible refine Below.fut ?_ ?_ _ | with_reducible refine Below.drew ?_ | with_reducible refine Below.setCell ?_ ?_ _ | with_reducible refine Below.atPut ?_ ?_ _ | (simp [go_sem]; done) | (simp [go_sem]; omega)))
    generalize (((W2.alloc (.cells #[.pointer (some ⟨gs, 0, none⟩)] 23)).alloc (.cells #[.string b] 9)).alloc (.cells #[.string c] 9)) = V3 at kS kU kV hbA ⊢
    generalize W2.heap.size = B3 at kS kU kV ⊢
    have hbB := hid (HBW2.out.trans (hbA.mono HBW2.out.size))
    have KS := hid kS
    have KU := hid kU
    have KV := hid kV
    have HBA := hid hbA
    clear kS kU kV hbA
    go_wp2_with fail
    refine (sh_collectRange99 (H1.out.on hbB.out H1.out.ge) (by rw [HM.out]; omega) b c sb sc B3 _ _ KS.out KU.out KV.out n2 HN2.out).mono ?_
    rintro _ W3 ⟨a3, c3, rfl, ho3⟩
    have HO3 := hid ho3
    have HBW3 := hid (hbB.out.trans (ho3.below.mono hbB.out.size))
    have HST3 := hid (show Below W2.heap.size W2 W3 from HBA.out.trans (ho3.below.mono HBA.out.size))
    have HSZ3 := hid (show W2.heap.size ≤ V3.heap.size from HBA.out.size)
    clear ho3 KS KU KV hbB HBA
    go_wp2_with fail
    (((with_reducible refine (walkRange_is (some ⟨gs, 0, none⟩) a c _).mono ?_)); rintro _ _ ⟨rfl, rfl⟩)
    obtain ⟨kS, kU, kV⟩ := alloc3 W3 (.cells #[.pointer (some ⟨gs, 0, none⟩)] 23) (.cells #[.string a] 9) (.cells #[.string c] 9)
    have hbA : Below W3.heap.size W3 (((W3.alloc (.cells #[.pointer (some ⟨gs, 0, none⟩)] 23)).alloc (.cells #[.string a] 9)).alloc (.cells #[.string c] 9)) := (by repeat' (first | exact Below.refl _ _ | with_reducible assumption | omega | with_reducible refine below_put_fut ?_ ?_ _ | with_reducible refine below_to_put ?_ | with_reducible refine Below.alloc ?_ ?_ _ | with_reducible refine Below.fut ?_ ?_ _ | with_reducible refine Below.drew ?_ | with_reducible refine Below.setCell ?_ ?_ _ | with_reducible refine Below.atPut ?_ ?_ _ | (simp [go_sem]; done) | (simp [go_sem]; omega)))
    generalize (((W3.alloc (.cells #[.pointer (some ⟨gs, 0, none⟩)] 23)).alloc (.cells #[.string a] 9)).alloc (.cells #[.string c] 9)) = V4 at kS kU kV hbA ⊢
    generalize W3.heap.size = B4 at kS kU kV ⊢
    have hbB := hid (HBW3.out.trans (hbA.mono HBW3.out.size))
    have KS := hid kS
    have KU := hid kU
    have KV := hid kV
    have HBA := hid hbA
    clear kS kU kV hbA
    go_wp2_with fail
    refine (sh_collectRange99 (H1.out.on hbB.out H1.out.ge) (by rw [HM.out]; omega) a c sa sc B4 _ _ KS.out KU.out KV.out n3 HN3.out).mono ?_
    rintro _ W4 ⟨a4, c4, rfl, ho4⟩
    have HO4 := hid ho4
    have HBW4 := hid (hbB.out.trans (ho4.below.mono hbB.out.size))
    have HST4 := hid (show Below W3.heap.size W3 W4 from HBA.out.trans (ho4.below.mono HBA.out.size))
    have HSZ4 := hid (show W3.heap.size ≤ V4.heap.size from HBA.out.size)
    clear ho4 KS KU KV hbB HBA
    have HX := hid (show Row W4 34 2 (.slice a2 n1 c2) n1 (flat (rangeL a b xs)) from by have := ((HO2.out.on HST3.out).on HST4.out).row; rwa [HN1.out] at this)
    have HY := hid (show Src W4 2 (.slice a3 n2 c3) n2 (flat (rangeL b c xs)) from by have := (HO3.out.on HST4.out).row.src (flat_one _); rwa [HN2.out] at this)
    have HZ := hid (show Row W4 34 2 (.slice a4 n3 c4) n3 (flat (rangeL a c xs)) from by have := HO4.out.row; rwa [HN3.out] at this)
    have hx2 : ∀ k, blk (.slice a2 n1 c2) k ≠ 0 → W1.heap.size ≤ k ∧ k < W2.heap.size := fun k hk => ⟨by
      rcases Nat.lt_or_ge k W1.heap.size with e | e
      · have := HO2.out.fresh k (Nat.lt_of_lt_of_le e HSZ2.out); omega
      · exact e, by have := HO2.out.row.lt hk; exact this⟩
    have hx4 : ∀ k, blk (.slice a4 n3 c4) k ≠ 0 → W3.heap.size ≤ k := fun k hk => by
      rcases Nat.lt_or_ge k W3.heap.size with e | e
      · have := HO4.out.fresh k (Nat.lt_of_lt_of_le e HSZ4.out); omega
      · exact e
    have HX2 := hid hx2
    have HX4 := hid hx4
    clear hx2 hx4
    go_wp2_with (first | (at_builtin; refine wpList_append_ex (by rfl) _ _ _ (by rfl) _ _ (by rfl) (by rfl) (append_to HX.out (Below.refl _ _) HY.out (by omega)) ?_; rintro v5 W5 ⟨⟨a5, c5, rfl⟩, hr5, hc5, hb5⟩; rw [HE.out] at hr5 ⊢; have HR5 := hid hr5; have HC5 := hid hc5; clear hr5 hc5 hb5))
    have HZ5 := hid (show Row W5 34 2 (.slice a4 n3 c4) n3 (flat (rangeL a c xs)) from HZ.out.chg HC5.out fun k hk h => by
      have h1 := HX2.out k h; have h2 := HX4.out k hk; have h3 := HST3.out.size; omega)
    have hb15 : Below W1.heap.size W1 W5 := HBW4.out.trans (HC5.out.below HBW4.out.size fun i hi => (HX2.out i hi).1)
    have HB15 := hid hb15
    have HR6 := hid (show Src W5 2 (.slice a5 n3 c5) n3 (flat (rangeL a c xs)) from by have := HR5.out.src (flat_one _); rwa [HSP.out] at this)
    clear hb15
    (((with_reducible refine (same_is W5 _ _ (rangeL a c xs) n3 HN3.out (by omega) HR6.out (HZ5.out.src (flat_one _))).mono ?_)); rintro _ _ ⟨rfl, u6, rfl⟩)
    have HBW6 := hid (HB15.out.trans (u6.below.mono HB15.out.size))
    generalize u6.val = W6 at HBW6 ⊢
    obtain ⟨n4, hn4⟩ : ∃ n4, (rangeL b a xs).length = n4 := ⟨_, rfl⟩
    have HN4 := hid hn4
    clear hn4
    go_wp2_with fail
    (((with_reducible refine (walkRange_is (some ⟨gs, 0, none⟩) b a _).mono ?_)); rintro _ _ ⟨rfl, rfl⟩)
    obtain ⟨kS, kU, kV⟩ := alloc3 W6 (.cells #[.pointer (some ⟨gs, 0, none⟩)] 23) (.cells #[.string b] 9) (.cells #[.string a] 9)
    have hbA : Below W6.heap.size W6 (((W6.alloc (.cells #[.pointer (some ⟨gs, 0, none⟩)] 23)).alloc (.cells #[.string b] 9)).alloc (.cells #[.string a] 9)) := (by repeat' (first | exact Below.refl _ _ | with_reducible assumption | omega | with_reducible refine below_put_fut ?_ ?_ _ | with_reducible refine below_to_put ?_ | with_reducible refine Below.alloc ?_ ?_ _ | with_reducible refine Below.fut ?_ ?_ _ | with_reducible refine Below.drew ?_ | with_reducible refine Below.setCell ?_ ?_ _ | with_reducible refine Below.atPut ?_ ?_ _ | (simp [go_sem]; done) | (simp [go_sem]; omega)))
    generalize (((W6.alloc (.cells #[.pointer (some ⟨gs, 0, none⟩)] 23)).alloc (.cells #[.string b] 9)).alloc (.cells #[.string a] 9)) = V7 at kS kU kV hbA ⊢
    generalize W6.heap.size = B7 at kS kU kV ⊢
    have hbB := hid (HBW6.out.trans (hbA.mono HBW6.out.size))
    have KS := hid kS
    have KU := hid kU
    have KV := hid kV
    have HBA := hid hbA
    clear kS kU kV hbA
    go_wp2_with fail
    refine (sh_collectRange99 (H1.out.on hbB.out H1.out.ge) (by rw [HM.out]; omega) b a sb sa B7 _ _ KS.out KU.out KV.out n4 HN4.out).mono ?_
    rintro _ W7 ⟨a7, c7, rfl, ho7⟩
    have HO7 := hid ho7
    have HBW7 := hid (hbB.out.trans (ho7.below.mono hbB.out.size))
    have HST7 := hid (show Below W6.heap.size W6 W7 from HBA.out.trans (ho7.below.mono HBA.out.size))
    have HSZ7 := hid (show W6.heap.size ≤ V7.heap.size from HBA.out.size)
    clear ho7 KS KU KV hbB HBA
    have hfin := H1.out.1.trans (HBW7.out.mono H1.out.ge)
    by_cases h4 : n4 = 0
    · have d4 : (n4 == 0) = true := by simp [h4]
      have d4i : ((n4 : Int) == 0) = true := by simp [h4]
      by_cases ha0 : a.size = 0
      · have da : a.toList.isEmpty = true := empty_yes ha0
        subst h4
        clear ha0
        go_wp2_with fail
        go_ret
        exact .mk rfl hfin
      · have da : a.toList.isEmpty = false := empty_no ha0
        subst h4
        clear ha0
        go_wp2_with fail
        go_ret
        exact .mk rfl hfin
    · have ha0 : a.size = 0 := by
        rcases Nat.eq_zero_or_pos a.size with e | e
        · exact e
        · have := rangeL_none (xs := xs) HLT.out (by omega : a.size ≠ 0)
          rw [this] at HN4
          exact absurd HN4.out.symm h4
      have da : a.toList.isEmpty = true := empty_yes ha0
      have d4 : (n4 == 0) = false := by simp [h4]
      have d4i : ((n4 : Int) == 0) = false := by simp [h4]
      clear ha0
      go_wp2_with fail
      go_ret
      exact .mk rfl hfin
theorem walkRanges_walk (W : World) (sl : Value) (l : List It) (hl : ItemsAt W sl l) (a : ByteArray) (sa : a.size ≤ maxLen) (b : ByteArray) (sb : b.size ≤ maxLen) (c : ByteArray) (sc : c.size ≤ maxLen) :
    Calls Try.prog 10 #[sl, .string a, .string b, .string c] W (Makes (.bool true) W) := by
  have hs := hl.src
  obtain ⟨n, hn⟩ : ∃ n, l.length = n := ⟨_, rfl⟩
  rw [hn] at hs
  obtain ⟨ao, cap, rfl⟩ := hs.slice_of
  clear sa sb sc hl
  rcases Nat.lt_or_ge 60 n with e1 | e1
  · have d1 : decide ((60 : Int) < n) = true := by simp; omega
    clear e1 hn hs
    go_enter Try.func10, Try.ntmps10
    go_wp2_with (first | (go_at_call 33; ((with_reducible refine (wkAlive_any _).mono ?_)); rintro _ _ ⟨rfl, u, rfl⟩; (try (rw [Fut.put_self u (by first | assumption | (simp [go_sem]; done) | (simp [go_sem]; omega))]))) | (((with_reducible refine wp_region_fut_lit (by kernel_rfl) (by kernel_rfl) ?_)); (repeat (go_big_quiet_step ((first | (go_at_call 33; with_reducible exact Calls.fut_of (wkAlive_any _)))))); ((with_reducible refine wpQuiet_nil ?_)); rintro _ ⟨u, rfl⟩; (try (rw [Fut.put_self u (by first | assumption | (simp [go_sem]; done) | (simp [go_sem]; omega))]))))
    go_ret; exact .mk (by first | rfl | (simp; done) | (simp; omega)) (by repeat' (first | exact Below.refl _ _ | with_reducible assumption | omega | with_reducible refine below_put_fut ?_ ?_ _ | with_reducible refine below_to_put ?_ | with_reducible refine Below.alloc ?_ ?_ _ | with_reducible refine Below.fut ?_ ?_ _ | with_reducible refine Below.drew ?_ | with_reducible refine Below.setCell ?_ ?_ _ | with_reducible refine Below.atPut ?_ ?_ _ | (simp [go_sem]; done) | (simp [go_sem]; omega)))
  have d1 : decide ((60 : Int) < n) = false := by simp; omega
  rcases Nat.lt_or_ge 40 a.size with e2 | e2
  · have d2 : decide ((40 : Int) < a.size) = true := by simp; omega
    clear e1 e2 hn hs
    go_enter Try.func10, Try.ntmps10
    go_wp2_with (first | (go_at_call 33; ((with_reducible refine (wkAlive_any _).mono ?_)); rintro _ _ ⟨rfl, u, rfl⟩; (try (rw [Fut.put_self u (by first | assumption | (simp [go_sem]; done) | (simp [go_sem]; omega))]))) | (((with_reducible refine wp_region_fut_lit (by kernel_rfl) (by kernel_rfl) ?_)); (repeat (go_big_quiet_step ((first | (go_at_call 33; with_reducible exact Calls.fut_of (wkAlive_any _)))))); ((with_reducible refine wpQuiet_nil ?_)); rintro _ ⟨u, rfl⟩; (try (rw [Fut.put_self u (by first | assumption | (simp [go_sem]; done) | (simp [go_sem]; omega))]))))
    go_ret; exact .mk (by first | rfl | (simp; done) | (simp; omega)) (by repeat' (first | exact Below.refl _ _ | with_reducible assumption | omega | with_reducible refine below_put_fut ?_ ?_ _ | with_reducible refine below_to_put ?_ | with_reducible refine Below.alloc ?_ ?_ _ | with_reducible refine Below.fut ?_ ?_ _ | with_reducible refine Below.drew ?_ | with_reducible refine Below.setCell ?_ ?_ _ | with_reducible refine Below.atPut ?_ ?_ _ | (simp [go_sem]; done) | (simp [go_sem]; omega)))
  have d2 : decide ((40 : Int) < a.size) = false := by simp; omega
  rcases Nat.lt_or_ge 40 b.size with e3 | e3
  · have d3 : decide ((40 : Int) < b.size) = true := by simp; omega
    clear e1 e2 e3 hn hs
    go_enter Try.func10, Try.ntmps10
    go_wp2_with (first | (go_at_call 33; ((with_reducible refine (wkAlive_any _).mono ?_)); rintro _ _ ⟨rfl, u, rfl⟩; (try (rw [Fut.put_self u (by first | assumption | (simp [go_sem]; done) | (simp [go_sem]; omega))]))) | (((with_reducible refine wp_region_fut_lit (by kernel_rfl) (by kernel_rfl) ?_)); (repeat (go_big_quiet_step ((first | (go_at_call 33; with_reducible exact Calls.fut_of (wkAlive_any _)))))); ((with_reducible refine wpQuiet_nil ?_)); rintro _ ⟨u, rfl⟩; (try (rw [Fut.put_self u (by first | assumption | (simp [go_sem]; done) | (simp [go_sem]; omega))]))))
    go_ret; exact .mk (by first | rfl | (simp; done) | (simp; omega)) (by repeat' (first | exact Below.refl _ _ | with_reducible assumption | omega | with_reducible refine below_put_fut ?_ ?_ _ | with_reducible refine below_to_put ?_ | with_reducible refine Below.alloc ?_ ?_ _ | with_reducible refine Below.fut ?_ ?_ _ | with_reducible refine Below.drew ?_ | with_reducible refine Below.setCell ?_ ?_ _ | with_reducible refine Below.atPut ?_ ?_ _ | (simp [go_sem]; done) | (simp [go_sem]; omega)))
  have d3 : decide ((40 : Int) < b.size) = false := by simp; omega
  rcases Nat.lt_or_ge 40 c.size with e4 | e4
  · have d4 : decide ((40 : Int) < c.size) = true := by simp; omega
    clear e1 e2 e3 e4 hn hs
    go_enter Try.func10, Try.ntmps10
    go_wp2_with (first | (go_at_call 33; ((with_reducible refine (wkAlive_any _).mono ?_)); rintro _ _ ⟨rfl, u, rfl⟩; (try (rw [Fut.put_self u (by first | assumption | (simp [go_sem]; done) | (simp [go_sem]; omega))]))) | (((with_reducible refine wp_region_fut_lit (by kernel_rfl) (by kernel_rfl) ?_)); (repeat (go_big_quiet_step ((first | (go_at_call 33; with_reducible exact Calls.fut_of (wkAlive_any _)))))); ((with_reducible refine wpQuiet_nil ?_)); rintro _ ⟨u, rfl⟩; (try (rw [Fut.put_self u (by first | assumption | (simp [go_sem]; done) | (simp [go_sem]; omega))]))))
    go_ret; exact .mk (by first | rfl | (simp; done) | (simp; omega)) (by repeat' (first | exact Below.refl _ _ | with_reducible assumption | omega | with_reducible refine below_put_fut ?_ ?_ _ | with_reducible refine below_to_put ?_ | with_reducible refine Below.alloc ?_ ?_ _ | with_reducible refine Below.fut ?_ ?_ _ | with_reducible refine Below.drew ?_ | with_reducible refine Below.setCell ?_ ?_ _ | with_reducible refine Below.atPut ?_ ?_ _ | (simp [go_sem]; done) | (simp [go_sem]; omega)))
  have d4 : decide ((40 : Int) < c.size) = false := by simp; omega
  cases hab : lt b a with
  | true =>
    have d5 : (!Op.bytesLess a.toList b.toList && !a.toList == b.toList) = true := gtr_yes hab
    clear e1 e2 e3 e4 hn hs hab
    go_enter Try.func10, Try.ntmps10
    go_wp2_with (first | (go_at_call 33; ((with_reducible refine (wkAlive_any _).mono ?_)); rintro _ _ ⟨rfl, u, rfl⟩; (try (rw [Fut.put_self u (by first | assumption | (simp [go_sem]; done) | (simp [go_sem]; omega))]))) | (((with_reducible refine wp_region_fut_lit (by kernel_rfl) (by kernel_rfl) ?_)); (repeat (go_big_quiet_step ((first | (go_at_call 33; with_reducible exact Calls.fut_of (wkAlive_any _)))))); ((with_reducible refine wpQuiet_nil ?_)); rintro _ ⟨u, rfl⟩; (try (rw [Fut.put_self u (by first | assumption | (simp [go_sem]; done) | (simp [go_sem]; omega))]))))
    go_ret; exact .mk (by first | rfl | (simp; done) | (simp; omega)) (by repeat' (first | exact Below.refl _ _ | with_reducible assumption | omega | with_reducible refine below_put_fut ?_ ?_ _ | with_reducible refine below_to_put ?_ | with_reducible refine Below.alloc ?_ ?_ _ | with_reducible refine Below.fut ?_ ?_ _ | with_reducible refine Below.drew ?_ | with_reducible refine Below.setCell ?_ ?_ _ | with_reducible refine Below.atPut ?_ ?_ _ | (simp [go_sem]; done) | (simp [go_sem]; omega)))
  | false =>
  have d5 : (!Op.bytesLess a.toList b.toList && !a.toList == b.toList) = false := gtr_no hab
  cases hbc : lt c b with
  | true =>
    have d6 : (!Op.bytesLess b.toList c.toList && !b.toList == c.toList) = true := gtr_yes hbc
    clear e1 e2 e3 e4 hn hs hab hbc
    go_enter Try.func10, Try.ntmps10
    go_wp2_with (first | (go_at_call 33; ((with_reducible refine (wkAlive_any _).mono ?_)); rintro _ _ ⟨rfl, u, rfl⟩; (try (rw [Fut.put_self u (by first | assumption | (simp [go_sem]; done) | (simp [go_sem]; omega))]))) | (((with_reducible refine wp_region_fut_lit (by kernel_rfl) (by kernel_rfl) ?_)); (repeat (go_big_quiet_step ((first | (go_at_call 33; with_reducible exact Calls.fut_of (wkAlive_any _)))))); ((with_reducible refine wpQuiet_nil ?_)); rintro _ ⟨u, rfl⟩; (try (rw [Fut.put_self u (by first | assumption | (simp [go_sem]; done) | (simp [go_sem]; omega))]))))
    go_ret; exact .mk (by first | rfl | (simp; done) | (simp; omega)) (by repeat' (first | exact Below.refl _ _ | with_reducible assumption | omega | with_reducible refine below_put_fut ?_ ?_ _ | with_reducible refine below_to_put ?_ | with_reducible refine Below.alloc ?_ ?_ _ | with_reducible refine Below.fut ?_ ?_ _ | with_reducible refine Below.drew ?_ | with_reducible refine Below.setCell ?_ ?_ _ | with_reducible refine Below.atPut ?_ ?_ _ | (simp [go_sem]; done) | (simp [go_sem]; omega)))
  | false =>
  have d6 : (!Op.bytesLess b.toList c.toList && !b.toList == c.toList) = false := gtr_no hbc
  by_cases hb0 : b.size = 0
  · have d7 : b.toList.isEmpty = true := empty_yes hb0
    clear e1 e2 e3 e4 hn hs hab hbc hb0
    go_enter Try.func10, Try.ntmps10
    go_wp2_with (first | (go_at_call 33; ((with_reducible refine (wkAlive_any _).mono ?_)); rintro _ _ ⟨rfl, u, rfl⟩; (try (rw [Fut.put_self u (by first | assumption | (simp [go_sem]; done) | (simp [go_sem]; omega))]))) | (((with_reducible refine wp_region_fut_lit (by kernel_rfl) (by kernel_rfl) ?_)); (repeat (go_big_quiet_step ((first | (go_at_call 33; with_reducible exact Calls.fut_of (wkAlive_any _)))))); ((with_reducible refine wpQuiet_nil ?_)); rintro _ ⟨u, rfl⟩; (try (rw [Fut.put_self u (by first | assumption | (simp [go_sem]; done) | (simp [go_sem]; omega))]))))
    go_ret; exact .mk (by first | rfl | (simp; done) | (simp; omega)) (by repeat' (first | exact Below.refl _ _ | with_reducible assumption | omega | with_reducible refine below_put_fut ?_ ?_ _ | with_reducible refine below_to_put ?_ | with_reducible refine Below.alloc ?_ ?_ _ | with_reducible refine Below.fut ?_ ?_ _ | with_reducible refine Below.drew ?_ | with_reducible refine Below.setCell ?_ ?_ _ | with_reducible refine Below.atPut ?_ ?_ _ | (simp [go_sem]; done) | (simp [go_sem]; omega)))
  have d7 : b.toList.isEmpty = false := empty_no hb0
  by_cases hc0 : c.size = 0
  · have d8 : c.toList.isEmpty = true := empty_yes hc0
    clear e1 e2 e3 e4 hn hs hab hbc hb0 hc0
    go_enter Try.func10, Try.ntmps10
    go_wp2_with (first | (go_at_call 33; ((with_reducible refine (wkAlive_any _).mono ?_)); rintro _ _ ⟨rfl, u, rfl⟩; (try (rw [Fut.put_self u (by first | assumption | (simp [go_sem]; done) | (simp [go_sem]; omega))]))) | (((with_reducible refine wp_region_fut_lit (by kernel_rfl) (by kernel_rfl) ?_)); (repeat (go_big_quiet_step ((first | (go_at_call 33; with_reducible exact Calls.fut_of (wkAlive_any _)))))); ((with_reducible refine wpQuiet_nil ?_)); rintro _ ⟨u, rfl⟩; (try (rw [Fut.put_self u (by first | assumption | (simp [go_sem]; done) | (simp [go_sem]; omega))]))))
    go_ret; exact .mk (by first | rfl | (simp; done) | (simp; omega)) (by repeat' (first | exact Below.refl _ _ | with_reducible assumption | omega | with_reducible refine below_put_fut ?_ ?_ _ | with_reducible refine below_to_put ?_ | with_reducible refine Below.alloc ?_ ?_ _ | with_reducible refine Below.fut ?_ ?_ _ | with_reducible refine Below.drew ?_ | with_reducible refine Below.setCell ?_ ?_ _ | with_reducible refine Below.atPut ?_ ?_ _ | (simp [go_sem]; done) | (simp [go_sem]; omega)))
  refine walkRanges_good _ W _ l n hn e1 hs a b c e2 e3 e4 hab hbc rfl (fun hq => ?_) hb0 hc0
  rw [ByteArray.toList_eq, ByteArray.toList_eq] at hq ⊢
  have hne : a ≠ b := fun e => by subst e; simp at hq
  exact lt_of_not hab (fun e => hne e.symm)
end Go.Proofs.Ythknenhcnpgkcaa
