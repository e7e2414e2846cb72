/- CutPages answers true for every list of items, every two texts and every number: the walk. -/
import Derived.Test.YthknenhcnpgkcaaCut9
import Derived.Test.YthknenhcnpgkcaaRefD
namespace Go.Proofs.Ythknenhcnpgkcaa
open Go.RowKit Go.Shelf
set_option linter.unusedVariables false
set_option linter.unusedSimpArgs false
theorem range_from {u v : ByteArray} {xs : List It} (hr : Rises xs) {k : Nat} {x : It} (hx : (rangeL u v xs)[k]? = some x) : rangeL x.1 v xs = (rangeL u v xs).drop k := by
  have hmem : x ∈ rangeL u v xs := List.mem_of_getElem? hx
  have hxu : lt x.1 u = false := by
    have h := (List.mem_filter.1 hmem).2
    simp only [Bool.and_eq_true, Bool.not_eq_true'] at h
    exact h.1
  have e1 : rangeL x.1 v xs = (rangeL u v xs).filter fun y => !lt y.1 x.1 := by
    unfold rangeL
    rw [List.filter_filter]
    refine List.filter_congr fun y _ => ?_
    cases c : lt y.1 x.1
    · have : lt y.1 u = false := by
        cases c2 : lt y.1 u
        · rfl
        · rw [lt_trans c2 (by
            by_cases e : u = x.1
            · exact absurd c2 (by rw [e, c]; simp)
            · exact lt_of_not hxu (fun e' => e e'.symm))] at c
          cases c
      rw [this]; simp
    · simp
  rw [e1]
  have hs : Rises (rangeL u v xs) := hr.sub List.filter_sublist
  have hsp := take_split hx
  rw [hsp] at hs
  obtain ⟨m1, m2, _, _⟩ := hs.mid
  have hd : (rangeL u v xs).drop k = x :: (rangeL u v xs).drop (k + 1) := by
    obtain ⟨hl, rfl⟩ := List.getElem?_eq_some_iff.1 hx
    exact List.drop_eq_getElem_cons hl
  conv => lhs; rw [hsp]
  rw [hd, List.filter_append, List.filter_eq_nil_iff.2 (by intro y hy; rw [m1 y hy]; simp), List.nil_append]
  refine List.filter_eq_self.2 ?_
  intro y hy
  rcases List.mem_cons.1 hy with rfl | hy
  · rw [lt_irrefl]; rfl
  · rw [lt_asymm (m2 y hy)]; rfl
/-- The key behind a page lies behind its first one. -/
theorem page_next {u v : ByteArray} {xs : List It} (hr : Rises xs) {q : Nat} (h1 : 1 ≤ q) {x : It} (hx : (rangeL u v xs)[q]? = some x) : lt u x.1 = true := by
  have hs : Rises (rangeL u v xs) := hr.sub List.filter_sublist
  obtain ⟨hl, he⟩ := List.getElem?_eq_some_iff.1 hx
  obtain ⟨y, hy⟩ : ∃ y, (rangeL u v xs)[0]? = some y := ⟨_, List.getElem?_eq_getElem (by omega)⟩
  obtain ⟨hl0, he0⟩ := List.getElem?_eq_some_iff.1 hy
  have hyx : lt y.1 x.1 = true := by
    have := List.pairwise_iff_getElem.1 hs 0 q hl0 hl (by omega)
    rwa [he0, he] at this
  have hyu : lt y.1 u = false := by
    have h := (List.mem_filter.1 (List.mem_of_getElem? hy)).2
    simp only [Bool.and_eq_true, Bool.not_eq_true'] at h
    exact h.1
  by_cases e : u = y.1
  · rw [e]; exact hyx
  · exact lt_trans (lt_of_not hyu (fun e' => e e'.symm)) hyx
theorem apps_more {W0 W1 W : World} {v sv : Value} {n m r : Nat} {ys zs : List It} (h : Row W1 34 2 v n (flat ys)) (hb0 : Below W0.heap.size W0 W1) (hf : ∀ k, k < W0.heap.size → blk v k = 0) (hb : Below W1.heap.size W1 W) (hs : Src W 2 sv m (flat zs)) (hm : n + m ≤ 1000) (hr : n + m = r) :
    ∃ v' W', (Builtin.append_ #[28, 28] 28 #[v, sv]).run Try.prog W = .ok v' W' ∧ ∃ ao c, v' = .slice ao r c ∧ Row W' 34 2 (.slice ao r c) r (flat (ys ++ zs)) ∧ Below W0.heap.size W0 W' ∧ ∀ k, k < W0.heap.size → blk (.slice ao r c) k = 0 := by
  subst hr
  obtain ⟨v', W', h1, ⟨ao, c, rfl⟩, h3, h4, h5⟩ := append_to h hb hs (by omega)
  refine ⟨_, W', h1, ao, c, rfl, h3, ?_, fun k hk => ?_⟩
  · exact hb0.trans (h4.below hb0.size fun k hk => Nat.le_of_not_lt fun e => hk (hf k e))
  · have := h5 k (Nat.lt_of_lt_of_le hk hb0.size); have := hf k hk; omega
theorem Both.refd {B : Nat} {w0 : World} {xs ys : List It} {gs gr : Nat} {W : World} (h : Both B w0 xs ys gs gr W) : ∃ v, W.heap[gr]? = some (refObj 200 v) ∧ Src W 2 v ys.length (flat ys) := by
  obtain ⟨h1, h2, h3, c, top, v, h4, h5, h6, h7, h8⟩ := h
  exact ⟨v, h5, h6.src (flat_one _)⟩
set_option maxRecDepth 100000 in
set_option maxHeartbeats 4000000 in
theorem cutPages_good (w : World) (sl : Value) (l : List It) (n : Nat) (hl : l.length = n) (hn : n ≤ 60) (hs : Src w 2 sl n (flat l)) (f t : ByteArray) (hf : f.size ≤ 40) (ht : t.size ≤ 40) (q : Nat) (hq1 : 1 ≤ q) (hq2 : q ≤ 40) :
    Calls Try.prog 18 #[sl, .string f, .string t, .int .i64 q] w (Makes (.bool true) w) := by
  obtain ⟨ao, cap, rfl⟩ := hs.slice_of
  have d1 : decide ((60 : Int) < n) = false := by simp; omega
  have d2 : decide ((40 : Int) < f.size) = false := by simp; omega
  have d3 : decide ((40 : Int) < t.size) = false := by simp; omega
  have d4 : decide ((q : Int) < 1) = false := by simp; omega
  have d5 : decide ((40 : Int) < q) = false := by simp; omega
  have HS := hid hs
  have HL := hid hl
  clear hs hl
  go_enter Try.func18, Try.ntmps18
  go_wp2_with (first | (go_at_call 60; ((with_reducible refine (cutAlive_any _).mono ?_)); rintro _ _ ⟨rfl, u, rfl⟩; (try (rw [Fut.put_self u (by first | assumption | (simp [go_sem]; done) | (simp [go_sem]; omega))]))) | (((with_reducible refine wp_region_fut_lit (by kernel_rfl) (by kernel_rfl) ?_)); (repeat (go_big_quiet_step ((first | (go_at_call 60; with_reducible exact Calls.fut_of (cutAlive_any _)))))); ((with_reducible refine wpQuiet_nil ?_)); rintro _ ⟨u, rfl⟩; (try (rw [Fut.put_self u (by first | assumption | (simp [go_sem]; done) | (simp [go_sem]; omega))]))))
  clear d1 d2 d3 d4 d5
  have hbX := u.below
  have hzX := hbX.size
  generalize u.val = X at hbX hzX ⊢
  refine (filled_is X _ l n HL.out (by omega) (HS.out.heap hbX)).mono ?_
  rintro _ W1 ⟨gs, gr, rfl, hb1⟩
  have hxl := fillL_len l
  generalize fillL l = xs at hb1 hxl
  rw [HL.out] at hxl
  have hb1 := hb1.base hbX hzX
  obtain ⟨sv, hg, hsr⟩ := hb1.refd
  obtain ⟨m, hm⟩ : ∃ m, xs.length = m := ⟨_, rfl⟩
  rw [hm] at hxl hsr
  have HM := hid hm
  have HG := hid hg
  have HSR := hid hsr
  have HSH := hid hb1.sh
  have HRI := hid (sh_rises HSH.out)
  have HSM := hid (sh_small HSH.out)
  obtain ⟨z, hz⟩ : ∃ z, (rangeL f t xs).length = z := ⟨_, rfl⟩
  have hzm : z ≤ m := by have : (rangeL f t xs).length ≤ xs.length := List.length_filter_le _ _; omega
  have HZ := hid hz
  have hmf : maxLen = maxLen := rfl
  clear hb1 hg hsr hm hz hbX hzX HS HL hmf
  go_wp2_with fail
  go_loopw [11, 12, 13] (fun o a i wr => ∃ (nn k : Nat) (at_ : ByteArray) (oo : Option Addr) (oc : Nat), nn ≤ k ∧ k ≤ z ∧ i = .int .i64 nn ∧ a = .string at_ ∧ o = .slice oo k oc ∧ at_.size ≤ maxLen ∧ Hid (rangeL at_ t xs = (rangeL f t xs).drop k) ∧ Hid (Row wr 34 2 (.slice oo k oc) k (flat ((rangeL f t xs).take k))) ∧ Hid (∀ k', k' < W1.heap.size → blk (.slice oo k oc) k' = 0) ∧ Hid (Below W1.heap.size W1 wr)) (fun _ _ i _ => n + 1 - (intOf i).toNat)
  case atStart => exact ⟨0, 0, f, none, 0, Nat.zero_le _, Nat.zero_le _, rfl, rfl, rfl, (by unfold maxLen; omega), hid rfl, hid (World.ownsRow_nil _ _ _ _), hid (fun k' _ => blk_nil _ _ _), hid (Below.refl _ _)⟩
  case round =>
    obtain ⟨nn, k, at_, oo, oc, hnk, hkz, rfl, rfl, rfl, hat, HAT, HRO, HFR, HB⟩ := hrel
    have hnl : nn ≤ n := by omega
    have Sr := hid (HSH.out.on HB.out HSH.out.ge)
    obtain ⟨D, hD⟩ : ∃ D, rangeL at_ t xs = D := ⟨_, rfl⟩
    have hDl : D.length = z - k := by rw [← hD, HAT.out, List.length_drop, HZ.out]
    have HDL := hid hDl
    have HD := hid hD
    by_cases hmore : q < z - k
    · have HMO := hid (show decide (q < D.length) = true by rw [hDl]; exact decide_eq_true hmore)
      obtain ⟨x, hx⟩ : ∃ x, D[q]? = some x := ⟨_, List.getElem?_eq_getElem (by rw [hDl]; exact hmore)⟩
      have hmem : x ∈ xs := (List.mem_filter.1 (show x ∈ rangeL at_ t xs from by rw [hD]; exact List.mem_of_getElem? hx)).1
      have hxk := HSM.out x hmem
      have HAT2 := hid (show rangeL x.1 t xs = (rangeL f t xs).drop (k + q) from range_from HRI.out (by rw [← List.getElem?_drop, ← HAT.out, hD]; exact hx))
      have HTK := hid (show (rangeL f t xs).take k ++ D.take q = (rangeL f t xs).take (k + q) from by rw [← hD, HAT.out, List.take_add])
      have hlt : lt at_ x.1 = true := page_next HRI.out hq1 (by rw [hD]; exact hx)
      have e1 : Op.bytesLess x.1.toList at_.toList = false := by rw [ByteArray.toList_eq, ByteArray.toList_eq]; exact lt_asymm hlt
      have e3 : (x.1.toList = at_.toList) = False := by rw [ByteArray.toList_eq, ByteArray.toList_eq]; exact eq_false fun h => lt_ne hlt (ba_ext h.symm)
      have e2 : (x.1.toList == at_.toList) = false := by rw [beq_eq_false_iff_ne]; exact fun h => e3.mp h
      have HNX := hid (show ((D[q]?).map (·.1)).getD ⟨#[]⟩ = x.1 by rw [hx]; rfl)
      clear hx hmem hDl hD hlt
      obtain ⟨nx, tx⟩ := x
      simp only at hxk HAT2 e1 e2 e3 HNX
      go_wp2_with fail
      refine (sh_page Sr.out (by rw [HM.out]; omega) at_ t hat (by unfold maxLen; omega) q (by omega)).mono ?_
      rintro _ W2 ⟨a2, n2, c2, rfl, hr2, hn2, hb2, hf2⟩
      rw [HD.out] at hr2 hn2 ⊢
      rw [HMO.out, HNX.out]
      rw [HDL.out] at hn2
      obtain rfl : n2 = q := by omega
      have HR2 := hid (hr2.src (flat_one _))
      have HB2 := hid hb2
      clear hr2 hn2 hb2 hf2
      go_wp2_with (first | (at_builtin; refine wpList_append_ex (by rfl) _ _ _ (by rfl) _ _ (by rfl) (by rfl) (apps_more HRO.out HB.out HFR.out HB2.out HR2.out (by omega) rfl) ?_; rintro _ W3 ⟨a3, c3, rfl, hr3, hb3, hf3⟩; rw [HTK.out] at hr3; have HR3 := hid hr3; have HB3 := hid hb3; have HF3 := hid hf3; clear hr3 hb3 hf3))
      exact ⟨⟨nn + 1, k + n2, nx, a3, c3, by omega, by omega, by go_num, rfl, rfl, hxk, HAT2, HR3, HF3, HB3⟩, by simp [intOf]; omega⟩
    · have HMO := hid (show decide (q < D.length) = false by rw [hDl]; exact decide_eq_false hmore)
      have HNX := hid (show ((D[q]?).map (·.1)).getD ⟨#[]⟩ = (⟨#[]⟩ : ByteArray) by rw [List.getElem?_eq_none (by omega)]; rfl)
      have HTK := hid (show (rangeL f t xs).take k ++ D.take q = rangeL f t xs from by rw [show D.take q = D from List.take_of_length_le (by omega), ← hD, HAT.out, List.take_append_drop])
      clear hDl hD
      go_wp2_with fail
      refine (sh_page Sr.out (by rw [HM.out]; omega) at_ t hat (by unfold maxLen; omega) q (by omega)).mono ?_
      rintro _ W2 ⟨a2, n2, c2, rfl, hr2, hn2, hb2, hf2⟩
      rw [HD.out] at hr2 hn2 ⊢
      rw [HMO.out, HNX.out]
      rw [HDL.out] at hn2
      have hn2z : k + n2 = z := by omega
      have HR2 := hid (hr2.src (flat_one _))
      have HB2 := hid hb2
      have HN2 := hid hn2z
      clear hr2 hn2 hb2 hf2 hn2z
      go_wp2_with (first | (at_builtin; refine wpList_append_ex (by rfl) _ _ _ (by rfl) _ _ (by rfl) (by rfl) (apps_more HRO.out HB.out HFR.out HB2.out HR2.out (by have := HN2.out; omega) HN2.out) ?_; rintro _ W3 ⟨a3, c3, rfl, hr3, hb3, hf3⟩; rw [HTK.out] at hr3; have HR3 := hid hr3; have HB3 := hid hb3; have HF3 := hid hf3; clear hr3 hb3 hf3))
      refine (refRange_is W3 gr 200 sv xs m HM.out (by omega) ((HB3.out.block _ (lt_of_heap HG.out)).trans HG.out) (HSR.out.heap HB3.out) f t).mono ?_
      rintro _ W4 ⟨v4, rfl, ho4⟩
      obtain ⟨a4, c4, rfl⟩ := ho4.form
      rw [HZ.out] at ho4 ⊢
      have HO4 := hid ho4.row
      rw [HZ.out] at HO4
      have HR4 := hid ((HR3.out.src (flat_one _)).heap ho4.below)
      have HB4 := hid (HB3.out.trans (ho4.below.mono HB3.out.size))
      clear ho4
      go_wp2_with fail
      (((with_reducible refine (same_is _ _ _ (rangeL f t xs) z HZ.out (by omega) HR4.out (HO4.out.src (flat_one _))).mono ?_)); rintro _ _ ⟨rfl, u9, rfl⟩)
      have hbw : Below w.heap.size w u9.val := HSH.out.1.trans ((HB4.out.trans (u9.below.mono HB4.out.size)).mono HSH.out.ge)
      go_wp2_with fail
      go_ret
      exact .mk rfl hbw
theorem cutPages_walk (W : World) (sl : Value) (l : List It) (hl : ItemsAt W sl l) (f : ByteArray) (wf : f.size ≤ maxLen) (t : ByteArray) (wt : t.size ≤ maxLen) (most : Int) (wm : (Lit.int .i64 most).wf = true) :
    Calls Try.prog 18 #[sl, .string f, .string t, .int .i64 most] W (Makes (.bool true) W) := by
  have hs := hl.src
  obtain ⟨n, hn⟩ : ∃ n, l.length = n := ⟨_, rfl⟩
  rw [hn] at hs
  obtain ⟨ao, cap, rfl⟩ := hs.slice_of
  clear wm wf wt hl
  rcases Nat.lt_or_ge 60 n with c | c
  · have d1 : decide ((60 : Int) < n) = true := by simp; omega
    clear c hn hs
    go_enter Try.func18, Try.ntmps18
    go_wp2_with (first | (go_at_call 60; ((with_reducible refine (cutAlive_any _).mono ?_)); rintro _ _ ⟨rfl, u, rfl⟩; (try (rw [Fut.put_self u (by first | assumption | (simp [go_sem]; done) | (simp [go_sem]; omega))]))) | (((with_reducible refine wp_region_fut_lit (by kernel_rfl) (by kernel_rfl) ?_)); (repeat (go_big_quiet_step ((first | (go_at_call 60; with_reducible exact Calls.fut_of (cutAlive_any _)))))); ((with_reducible refine wpQuiet_nil ?_)); rintro _ ⟨u, rfl⟩; (try (rw [Fut.put_self u (by first | assumption | (simp [go_sem]; done) | (simp [go_sem]; omega))]))))
    go_ret; exact .mk (by first | rfl | (simp; done) | (simp; omega)) (by repeat' (first | exact Below.refl _ _ | with_reducible assumption | omega | with_reducible refine below_put_fut ?_ ?_ _ | with_reducible refine below_to_put ?_ | with_reducible refine Below.alloc ?_ ?_ _ | with_reducible refine Below.fut ?_ ?_ _ | with_reducible refine Below.drew ?_ | with_reducible refine Below.setCell ?_ ?_ _ | with_reducible refine Below.atPut ?_ ?_ _ | (simp [go_sem]; done) | (simp [go_sem]; omega)))
  have d1 : decide ((60 : Int) < n) = false := by simp; omega
  rcases Nat.lt_or_ge 40 f.size with c2 | c2
  · have d2 : decide ((40 : Int) < f.size) = true := by simp; omega
    clear c c2 hn hs
    go_enter Try.func18, Try.ntmps18
    go_wp2_with (first | (go_at_call 60; ((with_reducible refine (cutAlive_any _).mono ?_)); rintro _ _ ⟨rfl, u, rfl⟩; (try (rw [Fut.put_self u (by first | assumption | (simp [go_sem]; done) | (simp [go_sem]; omega))]))) | (((with_reducible refine wp_region_fut_lit (by kernel_rfl) (by kernel_rfl) ?_)); (repeat (go_big_quiet_step ((first | (go_at_call 60; with_reducible exact Calls.fut_of (cutAlive_any _)))))); ((with_reducible refine wpQuiet_nil ?_)); rintro _ ⟨u, rfl⟩; (try (rw [Fut.put_self u (by first | assumption | (simp [go_sem]; done) | (simp [go_sem]; omega))]))))
    go_ret; exact .mk (by first | rfl | (simp; done) | (simp; omega)) (by repeat' (first | exact Below.refl _ _ | with_reducible assumption | omega | with_reducible refine below_put_fut ?_ ?_ _ | with_reducible refine below_to_put ?_ | with_reducible refine Below.alloc ?_ ?_ _ | with_reducible refine Below.fut ?_ ?_ _ | with_reducible refine Below.drew ?_ | with_reducible refine Below.setCell ?_ ?_ _ | with_reducible refine Below.atPut ?_ ?_ _ | (simp [go_sem]; done) | (simp [go_sem]; omega)))
  have d2 : decide ((40 : Int) < f.size) = false := by simp; omega
  rcases Nat.lt_or_ge 40 t.size with c3 | c3
  · have d3 : decide ((40 : Int) < t.size) = true := by simp; omega
    clear c c2 c3 hn hs
    go_enter Try.func18, Try.ntmps18
    go_wp2_with (first | (go_at_call 60; ((with_reducible refine (cutAlive_any _).mono ?_)); rintro _ _ ⟨rfl, u, rfl⟩; (try (rw [Fut.put_self u (by first | assumption | (simp [go_sem]; done) | (simp [go_sem]; omega))]))) | (((with_reducible refine wp_region_fut_lit (by kernel_rfl) (by kernel_rfl) ?_)); (repeat (go_big_quiet_step ((first | (go_at_call 60; with_reducible exact Calls.fut_of (cutAlive_any _)))))); ((with_reducible refine wpQuiet_nil ?_)); rintro _ ⟨u, rfl⟩; (try (rw [Fut.put_self u (by first | assumption | (simp [go_sem]; done) | (simp [go_sem]; omega))]))))
    go_ret; exact .mk (by first | rfl | (simp; done) | (simp; omega)) (by repeat' (first | exact Below.refl _ _ | with_reducible assumption | omega | with_reducible refine below_put_fut ?_ ?_ _ | with_reducible refine below_to_put ?_ | with_reducible refine Below.alloc ?_ ?_ _ | with_reducible refine Below.fut ?_ ?_ _ | with_reducible refine Below.drew ?_ | with_reducible refine Below.setCell ?_ ?_ _ | with_reducible refine Below.atPut ?_ ?_ _ | (simp [go_sem]; done) | (simp [go_sem]; omega)))
  have d3 : decide ((40 : Int) < t.size) = false := by simp; omega
  by_cases c4 : most < 1
  · have d4 : decide (most < 1) = true := by simp; omega
    clear c c2 c3 c4 hn hs
    go_enter Try.func18, Try.ntmps18
    go_wp2_with (first | (go_at_call 60; ((with_reducible refine (cutAlive_any _).mono ?_)); rintro _ _ ⟨rfl, u, rfl⟩; (try (rw [Fut.put_self u (by first | assumption | (simp [go_sem]; done) | (simp [go_sem]; omega))]))) | (((with_reducible refine wp_region_fut_lit (by kernel_rfl) (by kernel_rfl) ?_)); (repeat (go_big_quiet_step ((first | (go_at_call 60; with_reducible exact Calls.fut_of (cutAlive_any _)))))); ((with_reducible refine wpQuiet_nil ?_)); rintro _ ⟨u, rfl⟩; (try (rw [Fut.put_self u (by first | assumption | (simp [go_sem]; done) | (simp [go_sem]; omega))]))))
    go_ret; exact .mk (by first | rfl | (simp; done) | (simp; omega)) (by repeat' (first | exact Below.refl _ _ | with_reducible assumption | omega | with_reducible refine below_put_fut ?_ ?_ _ | with_reducible refine below_to_put ?_ | with_reducible refine Below.alloc ?_ ?_ _ | with_reducible refine Below.fut ?_ ?_ _ | with_reducible refine Below.drew ?_ | with_reducible refine Below.setCell ?_ ?_ _ | with_reducible refine Below.atPut ?_ ?_ _ | (simp [go_sem]; done) | (simp [go_sem]; omega)))
  by_cases c5 : 40 < most
  · have d4 : decide (most < 1) = false := by simp; omega
    have d5 : decide (40 < most) = true := by simp; omega
    clear c c2 c3 c4 c5 hn hs
    go_enter Try.func18, Try.ntmps18
    go_wp2_with (first | (go_at_call 60; ((with_reducible refine (cutAlive_any _).mono ?_)); rintro _ _ ⟨rfl, u, rfl⟩; (try (rw [Fut.put_self u (by first | assumption | (simp [go_sem]; done) | (simp [go_sem]; omega))]))) | (((with_reducible refine wp_region_fut_lit (by kernel_rfl) (by kernel_rfl) ?_)); (repeat (go_big_quiet_step ((first | (go_at_call 60; with_reducible exact Calls.fut_of (cutAlive_any _)))))); ((with_reducible refine wpQuiet_nil ?_)); rintro _ ⟨u, rfl⟩; (try (rw [Fut.put_self u (by first | assumption | (simp [go_sem]; done) | (simp [go_sem]; omega))]))))
    go_ret; exact .mk (by first | rfl | (simp; done) | (simp; omega)) (by repeat' (first | exact Below.refl _ _ | with_reducible assumption | omega | with_reducible refine below_put_fut ?_ ?_ _ | with_reducible refine below_to_put ?_ | with_reducible refine Below.alloc ?_ ?_ _ | with_reducible refine Below.fut ?_ ?_ _ | with_reducible refine Below.drew ?_ | with_reducible refine Below.setCell ?_ ?_ _ | with_reducible refine Below.atPut ?_ ?_ _ | (simp [go_sem]; done) | (simp [go_sem]; omega)))
  obtain ⟨q, rfl⟩ := Int.eq_ofNat_of_zero_le (show 0 ≤ most by omega)
  clear d1 d2 d3
  exact cutPages_good W _ l n hn c hs f t c2 c3 q (by omega) (by omega)
end Go.Proofs.Ythknenhcnpgkcaa
