/- WalkTells answers true for every list of items, two texts, arc and int: the walk. -/
import Derived.Test.YthknenhcnpgkcaaGreatTl1
import Derived.Test.YthknenhcnpgkcaaGreatMi
import Derived.Deep.RegionHeld3
namespace Go.Proofs.YthknenhcnpgkcaaGreat
open Go.RowKit Go.Shelf
set_option linter.unusedVariables false
set_option linter.unusedSimpArgs false
theorem Both.refw {B : Nat} {w0 : World} {xs ys : List It} {gs gr : Nat} {W : World} (h : Both B w0 xs ys gs gr W) : ∃ v, W.heap[gr]? = some (refObj 200 v) ∧ Row W 59 2 v ys.length (flat ys) := by
  obtain ⟨h1, h2, h3, c, top, v, h4, h5, h6, h7, h8⟩ := h
  exact ⟨v, h5, h6⟩
set_option maxRecDepth 100000 in
set_option maxHeartbeats 4000000 in
theorem walkTells_good (w : World) (sl : Value) (l : List It) (n : Nat) (hl : l.length = n) (hn : n ≤ 60) (hs : Src w 2 sl n (flat l)) (f t : ByteArray) (hf : f.size ≤ 40) (ht : t.size ≤ 40) (a b : Int) (ha : 0 ≤ a) (ha2 : a < 18446744073709551616) (hb : 0 ≤ b) (hb2 : b < 18446744073709551616) (most : Int) :
    Calls Tryz.prog 3 #[sl, .string f, .string t, .agg #[.int .u64 a, .int .u64 b], .int .i64 most] w (Makes (.bool true) w) := by
  obtain ⟨ao, cap, rfl⟩ := hs.slice_of
  have d1 : decide ((60 : Int) < n) = false := by simp; omega
  have d2 : decide ((40 : Int) < f.size) = false := by simp; omega
  have d3 : decide ((40 : Int) < t.size) = false := by simp; omega
  have HS := hid hs
  have HL := hid hl
  clear hs hl
  go_enter Tryz.func3, Tryz.ntmps3
  go_wp2_with (first | (go_at_call 4; ((with_reducible refine (wkAlive_any _).mono ?_)); rintro _ _ ⟨rfl, u, rfl⟩; (try (rw [Fut.put_self u (by first | assumption | (simp [go_sem]; done) | (simp [go_sem]; omega))]))) | (((with_reducible refine wp_region_fut_lit (by kernel_rfl) (by kernel_rfl) ?_)); (repeat (go_big_quiet_step ((first | (go_at_call 4; with_reducible exact Calls.fut_of (wkAlive_any _)))))); ((with_reducible refine wpQuiet_nil ?_)); rintro _ ⟨u, rfl⟩; (try (rw [Fut.put_self u (by first | assumption | (simp [go_sem]; done) | (simp [go_sem]; omega))]))))
  clear d1 d2 d3
  have hbX : Below w.heap.size w u.val := (by repeat' (first | exact Below.refl _ _ | with_reducible assumption | omega | with_reducible refine below_put_fut ?_ ?_ _ | with_reducible refine below_to_put ?_ | with_reducible refine Below.alloc ?_ ?_ _ | with_reducible refine Below.fut ?_ ?_ _ | with_reducible refine Below.drew ?_ | with_reducible refine Below.setCell ?_ ?_ _ | with_reducible refine Below.atPut ?_ ?_ _ | (simp [go_sem]; done) | (simp [go_sem]; omega)))
  have hzX := hbX.size
  have hc7 := (u.below.block w.heap.size (by simp)).trans (heap_alloc_at w (.cells #[.int .u64 a, .int .u64 b] 25) _ rfl)
  generalize u.val = X at hbX hzX hc7 ⊢
  have hwX := lt_of_heap hc7
  refine (filled_is X _ l n HL.out (by omega) (HS.out.heap hbX)).mono ?_
  rintro _ W1 ⟨gs, gr, rfl, hb1⟩
  have hxl := fillL_len l
  generalize fillL l = xs at hb1 hxl
  rw [HL.out] at hxl
  obtain ⟨m, hm⟩ : ∃ m, xs.length = m := ⟨_, rfl⟩
  have HM := hid hm
  have jc := (hb1.1.block _ hwX).trans hc7
  have hb1 := hb1.base hbX hzX
  obtain ⟨sv, hg, hsr⟩ := hb1.refw
  rw [hm] at hxl hsr
  have HG := hid hg
  have HC := hid jc
  have HRW := hid hsr
  have HSR := hid (hsr.src (flat_one _))
  have HSH := hid hb1.sh
  have HRI := hid (sh_rises HSH.out)
  have HSM := hid (sh_small HSH.out)
  clear hb1 hg hsr jc hbX hzX hc7 hm HS HL
  obtain ⟨va, vc, rfl⟩ := owns_slice HRW.out
  go_upto_region 5 with fail
  have hbk0 : (W1.alloc (bookObj (.slice none 0 0) (.slice none 0 0))).heap[W1.heap.size]? = some (bookObj (.slice none 0 0) (.slice none 0 0)) := heap_alloc_at _ _ _ rfl
  have hb1b : Below W1.heap.size W1 (W1.alloc (bookObj (.slice none 0 0) (.slice none 0 0))) := (by repeat' (first | exact Below.refl _ _ | with_reducible assumption | omega | with_reducible refine below_put_fut ?_ ?_ _ | with_reducible refine below_to_put ?_ | with_reducible refine Below.alloc ?_ ?_ _ | with_reducible refine Below.fut ?_ ?_ _ | with_reducible refine Below.drew ?_ | with_reducible refine Below.setCell ?_ ?_ _ | with_reducible refine Below.atPut ?_ ?_ _ | (simp [go_sem]; done) | (simp [go_sem]; omega)))
  obtain ⟨Wb, hWb⟩ : ∃ Wb, Wb = W1.alloc (bookObj (.slice none 0 0) (.slice none 0 0)) := ⟨_, rfl⟩
  rw [← hWb] at hbk0 hb1b
  have hWb' := hWb
  unfold bookObj at hWb'
  rw [← hWb']
  have HBK0 := hid hbk0
  have HB1B := hid hb1b
  obtain ⟨bk, hbk⟩ : ∃ bk, W1.heap.size = bk := ⟨_, rfl⟩
  have HBKN := hid hbk
  rw [hbk] at HBK0 ⊢
  have hbkl := lt_of_heap HBK0.out
  clear hWb hWb' hbk0 hb1b hbk
  have HCE := hid (fun (Y : World) (hY : Below Wb.heap.size Wb Y) => show (Y.cell? ⟨w.heap.size, 0, none⟩ = some (.int .u64 a) ∧ Y.cell? ⟨w.heap.size, 1, none⟩ = some (.int .u64 b)) ∧ Y.cell? ⟨gr, 1, none⟩ = some (.slice va m vc) from by
    have h1 : Below W1.heap.size W1 Y := HB1B.out.trans (hY.mono HB1B.out.size)
    exact ⟨⟨cell_of_row Y w.heap.size 0 _ _ (0, 0) ((h1.block _ (lt_of_heap HC.out)).trans HC.out), cell_of_row Y w.heap.size 1 _ _ (0, 0) ((h1.block _ (lt_of_heap HC.out)).trans HC.out)⟩, cell_of_row Y gr 1 _ _ (0, 0) ((h1.block _ (lt_of_heap HG.out)).trans HG.out)⟩)
  have HLL := hid (fun (Y : World) (hY : Below Wb.heap.size Wb Y) => show w.heap.size < Y.heap.size ∧ gr < Y.heap.size from by
    have h1 := lt_of_heap HC.out
    have h2 := lt_of_heap HG.out
    have h3 := HB1B.out.size
    have h4 := hY.size
    omega)
  have HB2 := hid (show Below Wb.heap.size Wb Wb.drew from (Below.refl _ Wb).drew)
  have hlc := (HLL.out _ (Below.refl _ Wb)).1
  have hlg := (HLL.out _ (Below.refl _ Wb)).2
  have hce := HCE.out _ (Below.refl _ Wb)
  obtain ⟨z1, hz1⟩ : ∃ z1, (rangeL f t xs).length = z1 := ⟨_, rfl⟩
  obtain ⟨z2, hz2⟩ : ∃ z2, (arcL a b xs).length = z2 := ⟨_, rfl⟩
  have hz1m : z1 ≤ m := by have : (rangeL f t xs).length ≤ xs.length := List.length_filter_le _ _; rw [HM.out] at this; omega
  have hz2m : z2 ≤ m := by have := arcL_len_le ha ha2 hb hb2 xs; rw [HM.out] at this; omega
  have HZ1 := hid hz1
  have HZ2 := hid hz2
  clear hz1 hz2 hlc hlg hce
  first | (go_region_held3 (fun Y => (Y.cell? ⟨w.heap.size, 0, none⟩ = some (.int .u64 a) ∧ Y.cell? ⟨w.heap.size, 1, none⟩ = some (.int .u64 b)) ∧ Y.cell? ⟨gr, 1, none⟩ = some (.slice va m vc)) ((first | exact HCE.out _ (HB7.out.alloc HB7.out.size _) | exact HCE.out _ HB7.out | exact HCE.out _ HB6.out | exact HCE.out _ HB5.out | exact HCE.out _ HB4.out | exact HCE.out _ HB3.out | exact HCE.out _ HB2.out)) ((first
    | (go_at_call 10; refine (refArc_is _ gr 200 _ xs m HM.out (by omega) HSM.out (((HB1B.out.trans (HB6.out.mono HB1B.out.size)).block _ (lt_of_heap HG.out)).trans HG.out) (HSR.out.heap (HB1B.out.trans (HB6.out.mono HB1B.out.size))) a b ha ha2 hb hb2).mono ?_; rintro _ W7 ⟨v7, rfl, ho7⟩; obtain ⟨a7, c7, rfl⟩ := ho7.form; rw [HZ2.out]; have HX7 := hid ho7.below; have HB7 := hid (show Below Wb.heap.size Wb W7 from HB6.out.trans (Below.mono HX7.out HB6.out.size)); have HO7 := hid (show Row W7 59 2 (.slice a7 z2 c7) z2 (flat (arcL a b xs)) ∧ ∀ k, k < W6.heap.size → blk (.slice a7 z2 c7) k = 0 from by have h1 := ho7.row; have h2 := ho7.fresh; rw [HZ2.out] at h1 h2; exact ⟨h1, h2⟩); clear ho7)
    | (go_at_call 9; refine (walkArc_is (some ⟨gs, 0, none⟩) a b _).mono ?_; rintro _ W6 ⟨rfl, hw6⟩; have HX6 := hid (show Below W5.heap.size W5 W6 from by rw [hw6]; exact ((Below.refl _ W5).alloc (Nat.le_refl _) _).alloc (by simp) _); have HB6 := hid (show Below Wb.heap.size Wb W6 from HB5.out.trans (Below.mono HX6.out HB5.out.size)); have HC0 := hid (show W6.heap[W5.heap.size]? = some (.cells #[.pointer (some ⟨gs, 0, none⟩)] 27) from by rw [hw6]; exact (heap_alloc_other _ _ _ (by simp)).trans (heap_alloc_at _ _ _ rfl)); have HC1 := hid (show W6.heap[W5.heap.size + 1]? = some (.cells #[.int .u64 a, .int .u64 b] 25) from by rw [hw6]; exact heap_alloc_at _ _ _ (by simp)); clear hw6)
    | (go_at_call 8; refine (refRange_is _ gr 200 _ xs m HM.out (by omega) (((HB1B.out.trans (HB4.out.mono HB1B.out.size)).block _ (lt_of_heap HG.out)).trans HG.out) (HSR.out.heap (HB1B.out.trans (HB4.out.mono HB1B.out.size))) f t).mono ?_; rintro _ W5 ⟨v5, rfl, ho5⟩; obtain ⟨a5, c5, rfl⟩ := ho5.form; rw [HZ1.out]; have HX5 := hid ho5.below; have HB5 := hid (show Below Wb.heap.size Wb W5 from HB4.out.trans (Below.mono HX5.out HB4.out.size)); have HO5 := hid (show Row W5 59 2 (.slice a5 z1 c5) z1 (flat (rangeL f t xs)) ∧ ∀ k, k < W4.heap.size → blk (.slice a5 z1 c5) k = 0 from by have h1 := ho5.row; have h2 := ho5.fresh; rw [HZ1.out] at h1 h2; exact ⟨h1, h2⟩); clear ho5)
    | (go_at_call 7; refine (walkRange_is (some ⟨gs, 0, none⟩) f t _).mono ?_; rintro _ W4 ⟨rfl, hw4⟩; have HX4 := hid (show Below W3.heap.size W3 W4 from by rw [hw4]; exact (((Below.refl _ W3).alloc (Nat.le_refl _) _).alloc (by simp) _).alloc (by simp <;> omega) _); have HB4 := hid (show Below Wb.heap.size Wb W4 from HB3.out.trans (Below.mono HX4.out HB3.out.size)); have HD0 := hid (show W4.heap[W3.heap.size]? = some (.cells #[.pointer (some ⟨gs, 0, none⟩)] 27) from by rw [hw4]; exact (heap_alloc_other _ _ _ (by simp; omega)).trans ((heap_alloc_other _ _ _ (by simp)).trans (heap_alloc_at _ _ _ rfl))); have HD1 := hid (show W4.heap[W3.heap.size + 1]? = some (.cells #[.string f] 9) from by rw [hw4]; exact (heap_alloc_other _ _ _ (by simp)).trans (heap_alloc_at _ _ _ (by simp))); have HD2 := hid (show W4.heap[W3.heap.size + 1 + 1]? = some (.cells #[.string t] 9) from by rw [hw4]; exact heap_alloc_at _ _ _ (by simp)); clear hw4)
    | (go_at_call 6; refine (walkAll_is (.pointer (some ⟨gs, 0, none⟩)) _ rfl).mono ?_; rintro _ W3 ⟨rfl, hw3⟩; have HB3 := hid (show Below Wb.heap.size Wb W3 from by rw [hw3]; exact HB2.out.alloc (Nat.le_refl _) _); have HA0 := hid (show W3.heap[Wb.heap.size]? = some (.cells #[.pointer (some ⟨gs, 0, none⟩)] 27) from by rw [hw3]; exact heap_alloc_at _ _ _ rfl); clear hw3)))) | fail "held3"
  obtain ⟨AW, hAW⟩ : ∃ AW, W7.heap.size = AW := ⟨_, rfl⟩
  have h8 : (W7.alloc (.cells #[.func (.func 24) #[] #[.pointer (some ⟨Wb.heap.size, 0, none⟩)], .slice va m vc, .func (.func 26) #[] #[.pointer (some ⟨W3.heap.size, 0, none⟩), .pointer (some ⟨W3.heap.size + 1, 0, none⟩), .pointer (some ⟨W3.heap.size + 1 + 1, 0, none⟩)], .slice a5 z1 c5, .func (.func 28) #[] #[.pointer (some ⟨W5.heap.size, 0, none⟩), .pointer (some ⟨W5.heap.size + 1, 0, none⟩)], .slice a7 z2 c7] 45)).heap[AW]? = some (.cells #[.func (.func 24) #[] #[.pointer (some ⟨Wb.heap.size, 0, none⟩)], .slice va m vc, .func (.func 26) #[] #[.pointer (some ⟨W3.heap.size, 0, none⟩), .pointer (some ⟨W3.heap.size + 1, 0, none⟩), .pointer (some ⟨W3.heap.size + 1 + 1, 0, none⟩)], .slice a5 z1 c5, .func (.func 28) #[] #[.pointer (some ⟨W5.heap.size, 0, none⟩), .pointer (some ⟨W5.heap.size + 1, 0, none⟩)], .slice a7 z2 c7] 45) := heap_alloc_at _ _ _ hAW.symm
  have hX8 : Below W7.heap.size W7 (W7.alloc (.cells #[.func (.func 24) #[] #[.pointer (some ⟨Wb.heap.size, 0, none⟩)], .slice va m vc, .func (.func 26) #[] #[.pointer (some ⟨W3.heap.size, 0, none⟩), .pointer (some ⟨W3.heap.size + 1, 0, none⟩), .pointer (some ⟨W3.heap.size + 1 + 1, 0, none⟩)], .slice a5 z1 c5, .func (.func 28) #[] #[.pointer (some ⟨W5.heap.size, 0, none⟩), .pointer (some ⟨W5.heap.size + 1, 0, none⟩)], .slice a7 z2 c7] 45)) := (Below.refl _ W7).alloc (Nat.le_refl _) _
  rw [hAW]
  generalize (W7.alloc (.cells #[.func (.func 24) #[] #[.pointer (some ⟨Wb.heap.size, 0, none⟩)], .slice va m vc, .func (.func 26) #[] #[.pointer (some ⟨W3.heap.size, 0, none⟩), .pointer (some ⟨W3.heap.size + 1, 0, none⟩), .pointer (some ⟨W3.heap.size + 1 + 1, 0, none⟩)], .slice a5 z1 c5, .func (.func 28) #[] #[.pointer (some ⟨W5.heap.size, 0, none⟩), .pointer (some ⟨W5.heap.size + 1, 0, none⟩)], .slice a7 z2 c7] 45)) = W8 at h8 hX8 ⊢
  have zb := HB1B.out.size
  have z3 := HB3.out.size
  have z4 := HX4.out.size
  have z5 := HX5.out.size
  have z6 := HX6.out.size
  have z7 := HX7.out.size
  have hX68 := HX7.out.trans (hX8.mono z7)
  have hX58 := HX6.out.trans (hX68.mono z6)
  have hX48 := HX5.out.trans (hX58.mono z5)
  have hX38 := HX4.out.trans (hX48.mono z4)
  have hXb8 := HB3.out.trans (hX38.mono z3)
  have hX18 := HB1B.out.trans (hXb8.mono zb)
  have hbn := HBKN.out
  have KP := hid (fun (Y : World) (hY : Chg (fun j => j = bk) W8 Y) (j : Nat) (o : Obj) (h : W8.heap[j]? = some o) (hne : j ≠ bk) => (hY.block j (lt_of_heap h) hne).trans h)
  have GV := hid (fun (Y : World) (hY : Chg (fun j => j = bk) W8 Y) => show Gives (some ⟨gs, 0, none⟩) xs Y from (HSH.out.gives (by rw [HM.out]; omega)).on (hX18.trans (hY.below (B := W1.heap.size) hX18.size (fun k hk => by omega))))
  have kA := (hX38.block _ (lt_of_heap HA0.out)).trans HA0.out
  have kD0 := (hX48.block _ (lt_of_heap HD0.out)).trans HD0.out
  have kD1 := (hX48.block _ (lt_of_heap HD1.out)).trans HD1.out
  have kD2 := (hX48.block _ (lt_of_heap HD2.out)).trans HD2.out
  have kC0 := (hX68.block _ (lt_of_heap HC0.out)).trans HC0.out
  have kC1 := (hX68.block _ (lt_of_heap HC1.out)).trans HC1.out
  have hsf : f.size ≤ maxLen := by unfold maxLen; omega
  have hst : t.size ≤ maxLen := by unfold maxLen; omega
  have hxn : xs.length ≤ 900 := by rw [HM.out]; omega
  have G0 : Goes bk AW 0 W8 24 #[.pointer (some ⟨Wb.heap.size, 0, none⟩)] va m vc xs := goes_mk h8 (by omega) rfl rfl (owns_below HRW.out hX18) (by
      rcases Nat.eq_zero_or_pos (blk (.slice va m vc) bk) with z | z
      · exact z
      · have := HRW.out.lt (k := bk) (by omega); omega) HM.out (by omega) (fun Y hY k hk => waysAll (GV.out Y hY) hxn _ (KP.out Y hY _ _ kA (by omega)) k hk) (fun Y hY k hk => colAll (GV.out Y hY) hxn _ (KP.out Y hY _ _ kA (by omega)) k hk)
  have G1 : Goes bk AW 1 W8 26 #[.pointer (some ⟨W3.heap.size, 0, none⟩), .pointer (some ⟨W3.heap.size + 1, 0, none⟩), .pointer (some ⟨W3.heap.size + 1 + 1, 0, none⟩)] a5 z1 c5 (rangeL f t xs) := goes_mk h8 (by omega) rfl rfl (owns_below HO5.out.1 hX58) (HO5.out.2 bk (by omega)) HZ1.out (by omega) (fun Y hY k hk => waysRange (GV.out Y hY) hxn HRI.out HSM.out f t hsf hst _ _ _ (KP.out Y hY _ _ kD0 (by omega)) (KP.out Y hY _ _ kD1 (by omega)) (KP.out Y hY _ _ kD2 (by omega)) k hk) (fun Y hY k hk => colRange (GV.out Y hY) hxn HRI.out HSM.out f t hsf hst _ _ _ (KP.out Y hY _ _ kD0 (by omega)) (KP.out Y hY _ _ kD1 (by omega)) (KP.out Y hY _ _ kD2 (by omega)) k hk)
  have G2 : Goes bk AW 2 W8 28 #[.pointer (some ⟨W5.heap.size, 0, none⟩), .pointer (some ⟨W5.heap.size + 1, 0, none⟩)] a7 z2 c7 (arcL a b xs) := goes_mk h8 (by omega) rfl rfl (owns_below HO7.out.1 hX8) (HO7.out.2 bk (by omega)) HZ2.out (by omega) (fun Y hY k hk => waysArc (GV.out Y hY) hxn HSM.out ha ha2 hb hb2 _ (KP.out Y hY _ _ kC0 (by omega)) (KP.out Y hY _ _ kC1 (by omega)) k hk) (fun Y hY k hk => colArc (GV.out Y hY) hxn HSM.out ha ha2 hb hb2 _ (KP.out Y hY _ _ kC0 (by omega)) (KP.out Y hY _ _ kC1 (by omega)) k hk)
  have HGO := hid (show ∀ k, k < 3 → ∃ gf lb wa wn wc L, Goes bk AW k W8 gf lb wa wn wc L from fun k hk => by
    rcases (show k = 0 ∨ k = 1 ∨ k = 2 by omega) with rfl | rfl | rfl
    · exact ⟨_, _, _, _, _, _, G0⟩
    · exact ⟨_, _, _, _, _, _, G1⟩
    · exact ⟨_, _, _, _, _, _, G2⟩)
  have HB0 := hid (show BkAt (fun j => j = bk) W8 bk 0 W8 from ⟨Chg.refl _ _, .slice none 0 0, .slice none 0 0, [], fun k => one bk k, ⟨(hXb8.block _ hbkl).trans HBK0.out, World.ownsRow_nil _ _ _ _, World.ownsRow_nil _ _ _ _, fun q hq => (by cases hq), fun k => by rw [blk_nil]; rfl, fun k => one_le bk k⟩, rfl, fun j _ h => one_ne h⟩)
  have HK8 := hid ((hX18.block _ (lt_of_heap HC.out)).trans HC.out)
  have hwb : w.heap.size ≠ bk := by have := lt_of_heap HC.out; omega
  have HW8 := hid (show Below w.heap.size w W8 from HSH.out.1.trans (hX18.mono HSH.out.ge))
  have hAl := lt_of_heap h8
  have HAL := hid hAl
  have HCW := hid (fun (Y : World) (hY : Chg (fun j => j = bk) W8 Y) => show Below w.heap.size w Y from HW8.out.trans (hY.below HW8.out.size (fun k hk => by have := HSH.out.ge; omega)))
  clear G0 G1 G2 KP GV kA kD0 kD1 kD2 kC0 kC1 h8 hX8 hX68 hX58 hX48 hX38 hXb8 hX18 zb z3 z4 z5 z6 z7 hAW hbn HO5 HO7 HX4 HX5 HX6 HX7 HA0 HD0 HD1 HD2 HC0 HC1 HB3 HB4 HB5 HB6 HB7 hxn hsf hst hbkl
  obtain ⟨mm, hmm⟩ : ∃ mm : Nat, max most 1 = (mm : Int) := ⟨(max most 1).toNat, by omega⟩
  have hm1 : 1 ≤ mm := by omega
  have HMM := hid hmm
  go_wp2_with fail
  go_loopw [71] (fun i wr => ∃ k : Nat, k ≤ 3 ∧ i = .int .i64 k ∧ Hid (BkAt (fun j => j = bk) W8 bk (2 * k) wr)) (fun i _ => 3 - (intOf i).toNat)
  case atStart => exact ⟨0, by omega, rfl, HB0⟩
  case round =>
    obtain ⟨k, hk, rfl, HR⟩ := hrel
    by_cases hlt : k < 3
    · obtain ⟨gf, lb, wa, wn, wc, L, hg⟩ := HGO.out k hlt
      have e0 := hg.c0 wr HR.out.1
      have e1 := hg.c1 wr HR.out.1
      have lA := Nat.lt_of_lt_of_le HAL.out HR.out.1.size
      have hnf := fun w => eql_func_nil gf lb w
      have HGK := hid hg
      have hb15 : Below wr.heap.size wr (wr.alloc (.cells #[.func (.func gf) #[] lb, .slice wa wn wc] 45)) := (Below.refl _ wr).alloc (Nat.le_refl _) _
      have h15 : (wr.alloc (.cells #[.func (.func gf) #[] lb, .slice wa wn wc] 45)).heap[wr.heap.size]? = some (.cells #[.func (.func gf) #[] lb, .slice wa wn wc] 45) := heap_alloc_at _ _ _ rfl
      have dk : decide ((k : Int) < 3) = true := by simp; omega
      have HRX := hid (HR.out.on hb15)
      obtain ⟨T', hbt, hT15⟩ := HR.out.rebase hb15
      have HBT := hid hbt
      have H15 := hid h15
      clear hg hb15 h15 hbt
      go_wp2_with fail
      generalize (wr.alloc (.cells #[.func (.func gf) #[] lb, .slice wa wn wc] 45)) = X0 at HRX H15 HBT ⊢
      generalize wr.heap.size = B15 at H15 hT15 ⊢
      have HT15 := hid hT15
      clear e0 e1 lA hnf hT15
      go_loopw [16] (fun j wx => ∃ q : Nat, q ≤ 2 ∧ j = .int .i64 q ∧ Hid (Below X0.heap.size X0 wx)) (fun j _ => 2 - (intOf j).toNat)
      case atStart => exact ⟨0, by omega, rfl, hid (Below.refl _ _)⟩
      case round =>
        obtain ⟨q, hq, rfl, HX⟩ := hrel
        have HRX1 := hid (HRX.out.on HX.out)
        have HK15 := hid (fun (Y : World) (hY : Below X0.heap.size X0 Y) => (hY.block _ (lt_of_heap H15.out)).trans H15.out)
        have e15 := fun i => cell_of_row wr B15 i _ _ (0, 0) (HK15.out wr HX.out)
        have l15 := lt_of_heap (HK15.out wr HX.out)
        by_cases hlt2 : q < 2
        · have HWY := hid (HGK.out.ways wr HRX1.out.1 mm hm1)
          go_wp2_with fail
          refine HWY.out.mono ?_
          rintro _ W4 ⟨ax, nx, cx, rfl, hs4, hn4, hb4⟩
          have hx4 := HX.out.trans (hb4.mono HX.out.size)
          have e15' := fun i => cell_of_row W4 B15 i _ _ (0, 0) (HK15.out W4 hx4)
          have l15' := lt_of_heap (HK15.out W4 hx4)
          have hwl := HGK.out.len
          rw [take_min, ← hn4] at hs4
          have HS4 := hid hs4
          have HW4 := hid (slice_pre (m := nx) (HGK.out.src W4 (HRX.out.on hx4).1) (by omega) hwl)
          have HLN := hid (show (L.take nx).length = nx by rw [List.length_take]; omega)
          have HX4 := hid hx4
          have hkk : min (max (mm : Int) 0) (wn : Int) = (nx : Int) := by omega
          have HKK := hid hkk
          have HN9 := hid (show nx ≤ 900 by have := HGK.out.le; omega)
          clear e15 l15 hs4 hn4 hb4 hx4 hwl hkk
          go_wp2_with fail
          (((with_reducible refine (first_is _ wa wn wc (mm : Int) HGK.out.cap HGK.out.le nx HKK.out).mono ?_)); rintro _ _ ⟨rfl, u5, rfl⟩)
          go_wp2_with fail
          (((with_reducible refine (same_is _ _ _ (L.take nx) nx HLN.out (by have := HN9.out; omega) (HS4.out.heap u5.below) (HW4.out.heap u5.below)).mono ?_)); rintro _ _ ⟨rfl, u6, rfl⟩)
          have HX6 := hid (show Below X0.heap.size X0 u6.val from HX4.out.trans (Below.mono (B := W4.heap.size) (by repeat' (first | exact Below.refl _ _ | with_reducible assumption | omega | with_reducible refine below_put_fut ?_ ?_ _ | with_reducible refine below_to_put ?_ | with_reducible refine Below.alloc ?_ ?_ _ | with_reducible refine Below.fut ?_ ?_ _ | with_reducible refine Below.drew ?_ | with_reducible refine Below.setCell ?_ ?_ _ | with_reducible refine Below.atPut ?_ ?_ _ | (simp [go_sem]; done) | (simp [go_sem]; omega))) HX4.out.size))
          clear e15' l15'
          go_wp2_with fail
          go_roundw
          case rel =>
            exact ⟨q + 1, by omega, by go_num, HX6⟩
          case measure => simp [intOf]; omega
        · obtain rfl : q = 2 := by omega
          obtain ⟨nc, hnc⟩ : ∃ nc, min L.length most.toNat = nc := ⟨_, rfl⟩
          have HNC := hid hnc
          have hwl := HGK.out.len
          have hwe := HGK.out.le
          have hkk : min (max most 0) (wn : Int) = (nc : Int) := by omega
          have hn9 : nc ≤ 900 := by omega
          have HLN := hid (show (L.take nc).length = nc by rw [List.length_take]; omega)
          have HKK := hid hkk
          have hU : Below X0.heap.size X0 wr.drew := HX.out.drew
          have HU := hid hU
          have HUB := hid (HBT.out.on hU)
          have HC15 := hid (fun (Y : World) (hY : Below X0.heap.size X0 Y) => show Y.cell? ⟨B15, 0, none⟩ = some (.func (.func gf) #[] lb) from cell_of_row Y B15 0 _ _ (0, 0) (HK15.out Y hY))
          have HCG := hid (fun (Y : World) (hY : Below X0.heap.size X0 Y) => HGK.out.col Y (HRX.out.on hY).1 most)
          clear hnc hwl hwe hkk hU e15 l15 hlt2
          go_upto_region 16 with fail
          first | (go_region_held3 (fun Y => Y.cell? ⟨B15, 0, none⟩ = some (.func (.func gf) #[] lb)) ((first | exact HC15.out _ HB6.out | exact HC15.out _ HB5.out | exact HC15.out _ HU.out)) ((first
            | (go_at_call 14; have g5 := HR5.out; refine (HCG.out _ HB5.out).mono ?_; rintro _ W6 ⟨a6, n6, c6, rfl, r6, q6, b6, f6⟩; have HB6 := hid (HB5.out.trans (b6.mono HB5.out.size)); obtain rfl : nc = n6 := (q6.trans HNC.out).symm; rw [take_min, HNC.out] at r6; have HR6 := hid r6; have HF6 := hid f6; have HX56 := hid b6; clear r6 q6 b6 f6 g5)
            | (go_at_call 14; refine (HCG.out _ HU.out).mono ?_; rintro _ W5 ⟨a5, n5, c5, rfl, r5, q5, b5, f5⟩; have HB5 := hid (HU.out.trans (b5.mono HU.out.size)); obtain rfl : nc = n5 := (q5.trans HNC.out).symm; rw [take_min, HNC.out] at r5; have HR5 := hid r5; have HF5 := hid f5; have HXU5 := hid b5; clear r5 q5 b5 f5)))) | fail "held3"
          go_wp2_with fail
          refine (book_first (X0 := wr.drew) HUB.out (by omega) HXU5.out HR5.out HLN.out hn9 HF5.out HX56.out HR6.out HF6.out).mono ?_
          rintro _ W7 ⟨rfl, hm7⟩
          have HM7 := hid hm7
          have HNW := hid (show ∀ j, j < X0.heap.size → blk (.slice a6 nc c6) j = 0 from fun j hj => HF6.out j (by have z1 := HU.out.size; have z2 := HXU5.out.size; omega))
          clear hm7 HF5 HF6 HR5 HR6 HXU5 HX56 HUB HB5 HB6
          go_wp2_with fail
          refine (book_second HM7.out (by omega) HLN.out hn9 HNW.out).mono ?_
          rintro _ W9 ⟨rfl, hb9, hc9, hd9⟩
          have hbk9 : BkAt (fun j => j = bk) W8 bk (2 * k + 1 + 1) W9 := hb9.back HRX.out.1 (fun j hj ht => (HT15.out j ht).2 hj)
          have hk15 := (hb9.1.block B15 (lt_of_heap H15.out) (fun ht => Nat.lt_irrefl _ (HT15.out _ ht).1)).trans H15.out
          have e15 := fun i => cell_of_row W9 B15 i _ _ (0, 0) hk15
          have l15 := lt_of_heap hk15
          have hwe := HGK.out.le
          have hwl := HGK.out.len
          have HC9 := hid hc9
          have HD9 := hid hd9
          have HW9 := hid (slice_pre (m := nc) (HGK.out.src W9 hbk9.1) (by have := HNC.out; omega) hwl)
          have HBK9 := hid hbk9
          have dk2 : decide ((2 : Int) < k) = false := by simp; omega
          clear hc9 hd9 hb9 hbk9 hk15 HM7 HNW hwe hwl
          go_wp2_with fail
          (((with_reducible refine (first_is _ wa wn wc most HGK.out.cap HGK.out.le nc HKK.out).mono ?_)); rintro _ _ ⟨rfl, u5, rfl⟩)
          go_wp2_with fail
          (((with_reducible refine (same_is _ _ _ (L.take nc) nc HLN.out (by omega) (HC9.out.heap u5.below) (HW9.out.heap u5.below)).mono ?_)); rintro _ _ ⟨rfl, u6, rfl⟩)
          go_wp2_with fail
          (((with_reducible refine (same_is _ _ _ (L.take nc) nc HLN.out (by omega) (HD9.out.heap (u5.below.trans (Below.mono (B := u5.val.heap.size) (by repeat' (first | exact Below.refl _ _ | with_reducible assumption | omega | with_reducible refine below_put_fut ?_ ?_ _ | with_reducible refine below_to_put ?_ | with_reducible refine Below.alloc ?_ ?_ _ | with_reducible refine Below.fut ?_ ?_ _ | with_reducible refine Below.drew ?_ | with_reducible refine Below.setCell ?_ ?_ _ | with_reducible refine Below.atPut ?_ ?_ _ | (simp [go_sem]; done) | (simp [go_sem]; omega))) u5.below.size))) (HC9.out.heap (u5.below.trans (Below.mono (B := u5.val.heap.size) (by repeat' (first | exact Below.refl _ _ | with_reducible assumption | omega | with_reducible refine below_put_fut ?_ ?_ _ | with_reducible refine below_to_put ?_ | with_reducible refine Below.alloc ?_ ?_ _ | with_reducible refine Below.fut ?_ ?_ _ | with_reducible refine Below.drew ?_ | with_reducible refine Below.setCell ?_ ?_ _ | with_reducible refine Below.atPut ?_ ?_ _ | (simp [go_sem]; done) | (simp [go_sem]; omega))) u5.below.size)))).mono ?_)); rintro _ _ ⟨rfl, u7, rfl⟩)
          have HBK := hid (HBK9.out.on (X := u7.val) (by repeat' (first | exact Below.refl _ _ | with_reducible assumption | omega | with_reducible refine below_put_fut ?_ ?_ _ | with_reducible refine below_to_put ?_ | with_reducible refine Below.alloc ?_ ?_ _ | with_reducible refine Below.fut ?_ ?_ _ | with_reducible refine Below.drew ?_ | with_reducible refine Below.setCell ?_ ?_ _ | with_reducible refine Below.atPut ?_ ?_ _ | (simp [go_sem]; done) | (simp [go_sem]; omega))))
          clear e15
          go_wp2_with fail
          go_roundw
          case rel =>
            exact ⟨k + 1, by omega, by go_num, HBK⟩
          case measure => simp [intOf]; omega
    · obtain rfl : k = 3 := by omega
      clear HGO HAL HMM hmm hm1
      have HC8 := hid (fun (Y : World) (hY : Chg (fun j => j = bk) W8 Y) => show Y.cell? ⟨w.heap.size, 0, none⟩ = some (.int .u64 a) ∧ Y.cell? ⟨w.heap.size, 1, none⟩ = some (.int .u64 b) from by
        have h2 := (hY.block _ (lt_of_heap HK8.out) hwb).trans HK8.out
        exact ⟨cell_of_row Y w.heap.size 0 _ _ (0, 0) h2, cell_of_row Y w.heap.size 1 _ _ (0, 0) h2⟩)
      have HY0 := hid (show Below wr.heap.size wr wr.drew from (Below.refl _ wr).drew)
      go_wp2_with fail
      go_region_held3 (fun Y => Y.cell? ⟨w.heap.size, 0, none⟩ = some (.int .u64 a) ∧ Y.cell? ⟨w.heap.size, 1, none⟩ = some (.int .u64 b)) ((first | exact HC8.out _ HG8.out | exact HC8.out _ (HR.out.on HY7.out).1 | exact HC8.out _ (HR.out.on HY6.out).1 | exact HC8.out _ (HR.out.on HY5.out).1 | exact HC8.out _ (HR.out.on HY4.out).1 | exact HC8.out _ (HR.out.on HY3.out).1 | exact HC8.out _ (HR.out.on HY2.out).1 | exact HC8.out _ (HR.out.on HY1.out).1 | exact HC8.out _ (HR.out.on HY0.out).1)) ((first
        | (go_at_call 16; refine (bk_apart (HR.out.on HY7.out) (by omega)).mono ?_; rintro _ Y8 ⟨rfl, hy8⟩; have HY8 := hid (HCW.out _ hy8); have HG8 := hid hy8; clear hy8)
        | (go_at_call 14; (with_reducible refine (collect_nilb _ 5).mono ?_); rintro _ Y1 ⟨rfl, hy1⟩; have HY1 := hid (HY0.out.trans (hy1.mono HY0.out.size)); clear hy1)
        | (go_at_call 6; refine (walkAll_is (.pointer none) _ rfl).mono ?_; rintro _ Y2 ⟨rfl, hy2⟩; have HY2 := hid (show Below wr.heap.size wr Y2 from by rw [hy2]; exact HY1.out.alloc HY1.out.size _); have HN2 := hid (show Y2.heap[Y1.heap.size]? = some (.cells #[.pointer none] 27) from by rw [hy2]; exact heap_alloc_at _ _ _ rfl); clear hy2)
        | (go_at_call 14; (with_reducible refine (nilAll_is _ _ HN2.out).mono ?_); rintro _ Y3 ⟨o3, c3, rfl, hy3⟩; have HY3 := hid (HY2.out.trans (hy3.mono HY2.out.size)); clear hy3)
        | (go_at_call 7; refine (walkRange_is none ⟨#[]⟩ ⟨#[]⟩ _).mono ?_; rintro _ Y4 ⟨rfl, hy4⟩; have HX4 := hid (show Below Y3.heap.size Y3 Y4 from by rw [hy4]; exact (((Below.refl _ Y3).alloc (Nat.le_refl _) _).alloc (by simp) _).alloc (by simp <;> omega) _); have HY4 := hid (show Below wr.heap.size wr Y4 from HY3.out.trans (Below.mono HX4.out HY3.out.size)); have HD0 := hid (show Y4.heap[Y3.heap.size]? = some (.cells #[.pointer none] 27) from by rw [hy4]; exact (heap_alloc_other _ _ _ (by simp; omega)).trans ((heap_alloc_other _ _ _ (by simp)).trans (heap_alloc_at _ _ _ rfl))); have HD1 := hid (show Y4.heap[Y3.heap.size + 1]? = some (.cells #[.string ⟨#[]⟩] 9) from by rw [hy4]; exact (heap_alloc_other _ _ _ (by simp)).trans (heap_alloc_at _ _ _ (by simp))); have HD2 := hid (show Y4.heap[Y3.heap.size + 1 + 1]? = some (.cells #[.string ⟨#[]⟩] 9) from by rw [hy4]; exact heap_alloc_at _ _ _ (by simp)); clear hy4)
        | (go_at_call 14; (with_reducible refine (nilRange_is _ _ _ _ HD0.out HD1.out HD2.out).mono ?_); rintro _ Y5 ⟨o5, c5, rfl, hy5⟩; have HY5 := hid (HY4.out.trans (hy5.mono HY4.out.size)); clear hy5)
        | (go_at_call 9; refine (walkArc_is none a b _).mono ?_; rintro _ Y6 ⟨rfl, hy6⟩; have HY6 := hid (show Below wr.heap.size wr Y6 from by rw [hy6]; exact (HY5.out.alloc HY5.out.size _).alloc (by have := HY5.out.size; simp; omega) _); have HE0 := hid (show Y6.heap[Y5.heap.size]? = some (.cells #[.pointer none] 27) from by rw [hy6]; exact (heap_alloc_other _ _ _ (by simp)).trans (heap_alloc_at _ _ _ rfl)); have HE1 := hid (show Y6.heap[Y5.heap.size + 1]? = some (.cells #[.int .u64 a, .int .u64 b] 25) from by rw [hy6]; exact heap_alloc_at _ _ _ (by simp)); clear hy6)
        | (go_at_call 14; (with_reducible refine (nilArc_is _ _ a b ha ha2 hb hb2 HE0.out HE1.out).mono ?_); rintro _ Y7 ⟨o7, c7, rfl, hy7⟩; have HY7 := hid (HY6.out.trans (hy7.mono HY6.out.size)); clear hy7)))
      clear HC8
      go_wp2_with fail
      go_ret
      exact .mk rfl HY8.out
theorem walkTells_walk (W : World) (sl : Value) (l : List It) (hl : ItemsAt W sl l) (f : ByteArray) (hf : f.size ≤ maxLen) (t : ByteArray) (ht : t.size ≤ maxLen) (a : Int) (wa : (Lit.int .u64 a).wf = true) (b : Int) (wb : (Lit.int .u64 b).wf = true) (most : Int) (wm : (Lit.int .i64 most).wf = true) :
    Calls Tryz.prog 3 #[sl, .string f, .string t, .agg #[.int .u64 a, .int .u64 b], .int .i64 most] W (Makes (.bool true) W) := by
  have hs := hl.src
  have ha := U64.bd wa
  have hb := U64.bd wb
  obtain ⟨n, hn⟩ : ∃ n, l.length = n := ⟨_, rfl⟩
  rw [hn] at hs
  obtain ⟨ao, cap, rfl⟩ := hs.slice_of
  clear wa wb wm hl
  rcases Nat.lt_or_ge 60 n with c | c
  · have d1 : decide ((60 : Int) < n) = true := by simp; omega
    clear c hn hs ha hb hf ht
    go_enter Tryz.func3, Tryz.ntmps3
    go_wp2_with (first | (go_at_call 4; ((with_reducible refine (wkAlive_any _).mono ?_)); rintro _ _ ⟨rfl, u, rfl⟩; (try (rw [Fut.put_self u (by first | assumption | (simp [go_sem]; done) | (simp [go_sem]; omega))]))) | (((with_reducible refine wp_region_fut_lit (by kernel_rfl) (by kernel_rfl) ?_)); (repeat (go_big_quiet_step ((first | (go_at_call 4; with_reducible exact Calls.fut_of (wkAlive_any _)))))); ((with_reducible refine wpQuiet_nil ?_)); rintro _ ⟨u, rfl⟩; (try (rw [Fut.put_self u (by first | assumption | (simp [go_sem]; done) | (simp [go_sem]; omega))]))))
    go_ret; exact .mk (by first | rfl | (simp; done) | (simp; omega)) (by repeat' (first | exact Below.refl _ _ | with_reducible assumption | omega | with_reducible refine below_put_fut ?_ ?_ _ | with_reducible refine below_to_put ?_ | with_reducible refine Below.alloc ?_ ?_ _ | with_reducible refine Below.fut ?_ ?_ _ | with_reducible refine Below.drew ?_ | with_reducible refine Below.setCell ?_ ?_ _ | with_reducible refine Below.atPut ?_ ?_ _ | (simp [go_sem]; done) | (simp [go_sem]; omega)))
  have d1 : decide ((60 : Int) < n) = false := by simp; omega
  rcases Nat.lt_or_ge 40 f.size with c2 | c2
  · have d2 : decide ((40 : Int) < f.size) = true := by simp; omega
    clear c c2 hn hs ha hb hf ht
    go_enter Tryz.func3, Tryz.ntmps3
    go_wp2_with (first | (go_at_call 4; ((with_reducible refine (wkAlive_any _).mono ?_)); rintro _ _ ⟨rfl, u, rfl⟩; (try (rw [Fut.put_self u (by first | assumption | (simp [go_sem]; done) | (simp [go_sem]; omega))]))) | (((with_reducible refine wp_region_fut_lit (by kernel_rfl) (by kernel_rfl) ?_)); (repeat (go_big_quiet_step ((first | (go_at_call 4; with_reducible exact Calls.fut_of (wkAlive_any _)))))); ((with_reducible refine wpQuiet_nil ?_)); rintro _ ⟨u, rfl⟩; (try (rw [Fut.put_self u (by first | assumption | (simp [go_sem]; done) | (simp [go_sem]; omega))]))))
    go_ret; exact .mk (by first | rfl | (simp; done) | (simp; omega)) (by repeat' (first | exact Below.refl _ _ | with_reducible assumption | omega | with_reducible refine below_put_fut ?_ ?_ _ | with_reducible refine below_to_put ?_ | with_reducible refine Below.alloc ?_ ?_ _ | with_reducible refine Below.fut ?_ ?_ _ | with_reducible refine Below.drew ?_ | with_reducible refine Below.setCell ?_ ?_ _ | with_reducible refine Below.atPut ?_ ?_ _ | (simp [go_sem]; done) | (simp [go_sem]; omega)))
  have d2 : decide ((40 : Int) < f.size) = false := by simp; omega
  rcases Nat.lt_or_ge 40 t.size with c3 | c3
  · have d3 : decide ((40 : Int) < t.size) = true := by simp; omega
    clear c c2 c3 hn hs ha hb hf ht
    go_enter Tryz.func3, Tryz.ntmps3
    go_wp2_with (first | (go_at_call 4; ((with_reducible refine (wkAlive_any _).mono ?_)); rintro _ _ ⟨rfl, u, rfl⟩; (try (rw [Fut.put_self u (by first | assumption | (simp [go_sem]; done) | (simp [go_sem]; omega))]))) | (((with_reducible refine wp_region_fut_lit (by kernel_rfl) (by kernel_rfl) ?_)); (repeat (go_big_quiet_step ((first | (go_at_call 4; with_reducible exact Calls.fut_of (wkAlive_any _)))))); ((with_reducible refine wpQuiet_nil ?_)); rintro _ ⟨u, rfl⟩; (try (rw [Fut.put_self u (by first | assumption | (simp [go_sem]; done) | (simp [go_sem]; omega))]))))
    go_ret; exact .mk (by first | rfl | (simp; done) | (simp; omega)) (by repeat' (first | exact Below.refl _ _ | with_reducible assumption | omega | with_reducible refine below_put_fut ?_ ?_ _ | with_reducible refine below_to_put ?_ | with_reducible refine Below.alloc ?_ ?_ _ | with_reducible refine Below.fut ?_ ?_ _ | with_reducible refine Below.drew ?_ | with_reducible refine Below.setCell ?_ ?_ _ | with_reducible refine Below.atPut ?_ ?_ _ | (simp [go_sem]; done) | (simp [go_sem]; omega)))
  exact walkTells_good W _ l n hn c hs f t c2 c3 a b ha.1 (by omega) hb.1 (by omega) most
end Go.Proofs.YthknenhcnpgkcaaGreat
