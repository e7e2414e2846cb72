/- ViewWhole answers true for every arc and every point. No condition. -/
import Derived.Test.YthgajbfgolcpkaaVwG
import Derived.Test.YthgajbfgolcpkaaVwH
import Derived.Test.YthgajbfgolcpkaaOws
import Derived.Test.YthgajbfgolcpkaaFrame
import Derived.IntWalk
namespace Go.Proofs.Ythgajbfgolcpkaa
open Go.ChangeShapes Go.WideShapes Go.ChangeAt Go.RowKit Go.Joins
set_option linter.unusedVariables false
set_option linter.unusedSimpArgs false
theorem vw_nodes {w0 : Base} {g : Nat} {l : List Pt} {W : World} (h : Vw w0 g l W) (hl : l.length ≤ 900) (x y : Int) (hxy : x < y) (hL : (arcsL l).map (fun o => o.2.2.1) = [x, y] ∨ (arcsL l).map (fun o => o.2.2.1) = [y, x]) :
    Calls Try.prog 44 #[.pointer (some ⟨g, 0, none⟩)] W fun e W' => (∃ r c, e = .returned (.slice (some ⟨r, 0, none⟩) 2 c) ∧ Two W' r x y) ∧ Below W.heap.size W W' := by
  obtain ⟨v, h⟩ := h
  exact nodes_is h hl x y hxy hL
set_option maxRecDepth 100000 in
set_option maxHeartbeats 4000000 in
theorem viewWhole_walk (p : Int) (wp : (Lit.int .u64 p).wf = true) (q : Int) (wq : (Lit.int .u64 q).wf = true) (x : Int) (wx : (Lit.int .u64 x).wf = true) (w : World) :
    Calls Try.prog 16 #[.agg #[.int .u64 p, .int .u64 q], .int .u64 x] w (Makes (.bool true) w) := by
  have HOK := hid (u64_ok wp wq)
  clear wp wq wx
  go_enter Try.func16, Try.ntmps16
  go_wp2_with (first | (go_at_call 34; ((with_reducible refine (viewAlive_any _).mono ?_)); rintro _ _ ⟨rfl, u, rfl⟩; (try (rw [Fut.put_self u (by first | assumption | (simp [go_sem]; done) | (simp [go_sem]; omega))]))) | (((with_reducible refine wp_region_fut_lit (by kernel_rfl) (by kernel_rfl) ?_)); (repeat (go_big_quiet_step ((first | (go_at_call 34; with_reducible exact Calls.fut_of (viewAlive_any _)))))); ((with_reducible refine wpQuiet_nil ?_)); rintro _ ⟨u, rfl⟩; (try (rw [Fut.put_self u (by first | assumption | (simp [go_sem]; done) | (simp [go_sem]; omega))]))))
  obtain ⟨B, hB⟩ : ∃ B : Base, B = ⟨u.val, fun _ => none⟩ := ⟨_, rfl⟩
  have hg : u.val.heap.size = w.heap.size + 1 + u.n := by simp [go_sem]
  have h0 : Vw B (w.heap.size + 1 + u.n) [] (u.val.alloc (viewObj (.slice none 0 0))) := vw_new (by rw [hB]; exact fun _ => rfl) (by rw [hB]; exact (by repeat' (first | exact Below.refl _ _ | with_reducible assumption | omega | with_reducible refine below_put_fut ?_ ?_ _ | with_reducible refine below_to_put ?_ | with_reducible refine Below.alloc ?_ ?_ _ | with_reducible refine Below.fut ?_ ?_ _ | with_reducible refine Below.drew ?_ | with_reducible refine Below.setCell ?_ ?_ _ | with_reducible refine Below.atPut ?_ ?_ _ | (simp [go_sem]; done) | (simp [go_sem]; omega)))) (by rw [hB]; exact Nat.le_of_eq hg) (heap_alloc_at _ _ _ (by rw [hg]))
  have HBW := hid (show Below w.heap.size w B.toWorld by rw [hB]; exact (by repeat' (first | exact Below.refl _ _ | with_reducible assumption | omega | with_reducible refine below_put_fut ?_ ?_ _ | with_reducible refine below_to_put ?_ | with_reducible refine Below.alloc ?_ ?_ _ | with_reducible refine Below.fut ?_ ?_ _ | with_reducible refine Below.drew ?_ | with_reducible refine Below.setCell ?_ ?_ _ | with_reducible refine Below.atPut ?_ ?_ _ | (simp [go_sem]; done) | (simp [go_sem]; omega))))
  have HBX := hid (show B.heap[w.heap.size]? = some (.cells #[.int .u64 p, .int .u64 q] 34) by rw [hB]; exact (by repeat' (first | rfl | assumption | (with_reducible refine (heap_drew_eq _ _).trans ?_) | (refine (Fut.heap _ _ ?_).trans ?_ ; focus (first | assumption | omega | (simp [go_sem]; done) | (simp [go_sem]; omega))) | (refine (heap_put_at _ _ _ ?_).trans ?_ ; focus (first | assumption | omega | (simp [go_sem]; done) | (simp [go_sem]; omega))) | (refine (heap_put_other _ _ _ _ ?_).trans ?_ ; focus (first | assumption | omega | (simp [go_sem]; done) | (simp [go_sem]; omega))) | (refine (heap_alloc_other _ _ _ ?_).trans ?_ ; focus (first | assumption | omega | (simp [go_sem]; done) | (simp [go_sem]; omega))) | (refine (heap_alloc_at _ _ _ ?_).trans ?_ ; focus (first | assumption | omega | (simp [go_sem]; done) | (simp [go_sem]; omega))) | (simp [go_sem]; done) | (simp [go_sem]; omega))))
  have hBs : w.heap.size < B.heap.size := lt_of_heap HBX.out
  clear hB hg
  generalize w.heap.size + 1 + u.n = g at h0 ⊢
  (((with_reducible refine (vw_learn h0 (by decide) (x, x, 4, 2) [(0, 4, 2)] true (learn_whole0 x)).mono ?_)); rintro _ W1 ⟨rfl, h1⟩)
  go_wp2_with fail
  (((with_reducible refine (vw_all h1 (by decide)).mono ?_)); rintro _ W2 ⟨av, rfl, ha, hb2⟩)
  have h2 := h1.on hb2
  have ha1 : ArcsAt W1.heap.size W2 av [(0, 0, 4, 2)] := ha
  obtain ⟨a1, c1, rfl⟩ := ha1.form
  obtain ⟨r, o, rfl, hr0, c0, c1', c2, c3⟩ := ha1.cells (k := 0) rfl
  simp only [Nat.zero_mul, Nat.add_zero] at c0 c1' c2 c3
  have hbx := fun (W : World) (h : Vw B g [(0, 4, 2)] W) => (h.below.block _ hBs).trans HBX.out
  have hx2 := hbx _ h2
  have hl2 := lt_of_heap hx2
  have hc2 := fun i => cell_of_row W2 w.heap.size i _ _ (0, 0) hx2
  have H2 := hid h2
  clear h0 h1 h2 ha ha1 hb2 hbx hx2
  go_wp2_with fail
  by_cases e : p = q
  · subst e
    have hq : (p == p) = true := by simp
    (((with_reducible refine (vw_learn (H2.out.on (by repeat' (first | exact Below.refl _ _ | with_reducible assumption | omega | with_reducible refine below_put_fut ?_ ?_ _ | with_reducible refine below_to_put ?_ | with_reducible refine Below.alloc ?_ ?_ _ | with_reducible refine Below.fut ?_ ?_ _ | with_reducible refine Below.drew ?_ | with_reducible refine Below.setCell ?_ ?_ _ | with_reducible refine Below.atPut ?_ ?_ _ | (simp [go_sem]; done) | (simp [go_sem]; omega)))) (by decide) (p, p, 5, 3) [(0, 5, 3)] true (learn_whole1 p)).mono ?_)); rintro _ W3 ⟨rfl, h3⟩)
    go_wp2_with fail
    (((with_reducible refine (vw_all h3 (by decide)).mono ?_)); rintro _ W4 ⟨av, rfl, ha, hb4⟩)
    have h4 := h3.on hb4
    have ha1 : ArcsAt W3.heap.size W4 av [(0, 0, 5, 3)] := ha
    obtain ⟨a1, c1, rfl⟩ := ha1.form
    obtain ⟨r, o, rfl, hr, d0, d1, d2, d3⟩ := ha1.cells (k := 0) rfl
    simp only [Nat.zero_mul, Nat.add_zero] at d0 d1 d2 d3
    have hx4 := (h4.below.block _ hBs).trans HBX.out
    have hl4 := lt_of_heap hx4
    have hc4 := fun i => cell_of_row W4 w.heap.size i _ _ (0, 0) hx4
    have hbw := HBW.out.trans (h4.below.mono HBW.out.size)
    have hz := hbw.size
    clear h3 h4 ha ha1 hb4 hx4 c0 c1' c2 c3 hc2 hl2 hr0
    go_wp2_with fail
    (((with_reducible refine (whole_any _ _ true hq _).mono ?_)); rintro _ _ ⟨rfl, u5, rfl⟩)
    go_wp2_with fail
    go_ret; exact .mk (by first | rfl | (simp; done) | (simp; omega)) (by repeat' (first | exact Below.refl _ _ | with_reducible assumption | omega | with_reducible refine below_put_fut ?_ ?_ _ | with_reducible refine below_to_put ?_ | with_reducible refine Below.alloc ?_ ?_ _ | with_reducible refine Below.fut ?_ ?_ _ | with_reducible refine Below.drew ?_ | with_reducible refine Below.setCell ?_ ?_ _ | with_reducible refine Below.atPut ?_ ?_ _ | (simp [go_sem]; done) | (simp [go_sem]; omega)))
  · have hq : (p == q) = false := by simp [e]
    obtain ⟨T, b, X, Y, hT, hTl, hXY, hn⟩ := learn_part HOK.out e
    (((with_reducible refine (vw_learn (H2.out.on (by repeat' (first | exact Below.refl _ _ | with_reducible assumption | omega | with_reducible refine below_put_fut ?_ ?_ _ | with_reducible refine below_to_put ?_ | with_reducible refine Below.alloc ?_ ?_ _ | with_reducible refine Below.fut ?_ ?_ _ | with_reducible refine Below.drew ?_ | with_reducible refine Below.setCell ?_ ?_ _ | with_reducible refine Below.atPut ?_ ?_ _ | (simp [go_sem]; done) | (simp [go_sem]; omega)))) (by decide) (p, q, 5, 3) T b hT).mono ?_)); rintro _ W3 ⟨rfl, h3⟩)
    have HXY := hid hXY
    have HLEN := hid (show (arcsL T).length = 2 by rw [hXY]; rfl)
    have HN := hid hn
    clear hT hXY hn
    go_wp2_with fail
    (((with_reducible refine (vw_all h3 hTl).mono ?_)); rintro _ W4 ⟨av, rfl, ha, hb4⟩)
    have h4 := h3.on hb4
    rw [HXY.out] at ha
    obtain ⟨a1, c1, rfl⟩ := ha.form
    have hx4 := (h4.below.block _ hBs).trans HBX.out
    have hl4 := lt_of_heap hx4
    have hc4 := fun i => cell_of_row W4 w.heap.size i _ _ (0, 0) hx4
    have H4 := hid h4
    clear h3 h4 ha hb4 hx4 c0 c1' c2 c3 hc2 hl2 hr0
    go_wp2_with fail
    (((with_reducible refine (whole_any _ _ false hq _).mono ?_)); rintro _ _ ⟨rfl, u5, rfl⟩)
    have H5 := hid (H4.out.on u5.below)
    go_wp2_with fail
    (((with_reducible refine (vw_nodes H5.out hTl 4 5 (by decide) (by rw [HXY.out]; exact HN.out)).mono ?_)); rintro _ W6 ⟨⟨r6, c6, rfl, ht6⟩, hb6⟩)
    obtain ⟨z0, z1⟩ := ht6.cells
    have hl6 := World.block_lt_of_cell? _ _ z0
    have H6 := hid (H5.out.on hb6)
    have HT6 := hid ht6
    clear hb6 ht6
    go_wp2_with fail
    (((with_reducible refine (vw_len H6.out hTl 2 HLEN.out).mono ?_)); rintro _ W7 ⟨rfl, hb7⟩)
    obtain ⟨y0, y1⟩ := (HT6.out.on hb7).cells
    have hl7 := World.block_lt_of_cell? _ _ y0
    have h7 := H6.out.on hb7
    have hbw := HBW.out.trans (h7.below.mono HBW.out.size)
    have hz := hbw.size
    clear hb7 h7
    go_wp2_with fail
    go_ret; exact .mk (by first | rfl | (simp; done) | (simp; omega)) (by repeat' (first | exact Below.refl _ _ | with_reducible assumption | omega | with_reducible refine below_put_fut ?_ ?_ _ | with_reducible refine below_to_put ?_ | with_reducible refine Below.alloc ?_ ?_ _ | with_reducible refine Below.fut ?_ ?_ _ | with_reducible refine Below.drew ?_ | with_reducible refine Below.setCell ?_ ?_ _ | with_reducible refine Below.atPut ?_ ?_ _ | (simp [go_sem]; done) | (simp [go_sem]; omega)))
set_option maxRecDepth 100000 in
theorem viewWhole_lifted (os : Os) (started : os.Started) (H : Type) (enc : TypeId × Value → H) :
    ReturnsInHanded {} Try.checked os 16 .any (Rows.viewWholeSpec.pre6 enc Try.prog Try.f16 Rows.viewWholeRow.domain false) (Rows.viewWholeSpec.post enc Try.prog Try.f16 false true false false) := by
  refine returnsInHanded_of_change (C := Try.checked) own started (by kernel_rfl) Try.func16
    (ChangeSpec.witness6 (enc := enc) (C := Try.checked) false ⟨#[], #[.agg #[.int .u64 0, .int .u64 0], .int .u64 0], []⟩ 8 (by kernel_rfl) (by kernel_rfl) (by kernel_rfl) (by kernel_rfl)) ?_
  intro W base args ds gs before hval0 hW hcnd _
  have hval : ∀ (j : Nat) t v, Try.f16.params[j]? = some t → args[j]? = some v → Value.okWide Try.prog W .any base t v := hval0
  have hW' := hW
  obtain ⟨p, q, hA0, hV, rfl, hfz, hnd⟩ := hW
  have hA : DataW.TrodAll enc Try.prog W 0 (fun _ => true) true Try.f16.params.toList args.toList ds p := hA0
  rw [Try.params16] at hA hval
  obtain ⟨v0, vs0, d0, ds0, p0, q0, hargs, rfl, rfl, h0, r0⟩ := trodAll_cons hA
  obtain ⟨v1, vs1, d1, ds1, p1, q1, rfl, rfl, rfl, h1, r1⟩ := trodAll_cons r0
  obtain ⟨rfl, rfl, rfl⟩ := trodAll_nil r1
  obtain rfl : args = #[v0, v1] := by cases args; simp_all
  obtain ⟨rfl, rfl⟩ := trodVars_none hV
  have k0 := h0
  have lt0 : ∀ x ∈ p0, x.block < W.heap.size := by obtain ⟨m, hm⟩ := k0; exact DataW.trod_lt m _ _ _ hm
  obtain ⟨c0, c1, y0, y1, m, rfl, -, -, hy0, hy1⟩ := open_agg2 Try.underlying34 (by kernel_rfl) (by kernel_rfl) (hval 0 34 v0 rfl rfl) h0
  obtain ⟨a0, e0, -, w0⟩ := DataW.trod_int Try.underlying32 hy0
  obtain ⟨b0, e1, -, z0⟩ := DataW.trod_int Try.underlying32 hy1
  simp at e0 e1
  subst e0 e1
  have k1 := h1
  have lt1 : ∀ x ∈ p1, x.block < W.heap.size := by obtain ⟨m, hm⟩ := k1; exact DataW.trod_lt m _ _ _ hm
  obtain ⟨a1, rfl, -, -, w1⟩ := open_int Try.underlying32 (hval 1 32 v1 rfl rfl) h1
  clear hA0 hval0
  refine (viewWhole_walk a0 w0 b0 z0 a1 w1 W).mono fun e W' ⟨he, u, hu⟩ => ?_
  subst he; subst hu
  have bel := u.below
  exact ⟨_, rfl, _, _, _, [], _, [], hW', trodAll_mk1 (shut_bool Try.underlying4 _), (trodAll_cons_mk (Below.trod laidOut (by kernel_rfl) (of_decide_eq_true (by kernel_rfl)) k0 bel lt0) (trodAll_cons_mk (Below.trod laidOut (by kernel_rfl) (of_decide_eq_true (by kernel_rfl)) k1 bel lt1) trodAll_mk0)), rfl, bel.frame _, fun h => by cases h⟩
/-- The statement. -/
theorem viewWhole_holds : Rows.ViewWholeSaid :=
  OpenClaim.holds_of_wide 16 Try.f16 rfl rfl rfl rfl rfl rfl rfl ⟨rfl, rfl, rfl, rfl, rfl⟩ rfl rfl rfl rfl rfl (by kernel_rfl) Try.func16 (by kernel_rfl)
    (of_decide_eq_true (by kernel_rfl)) (by unfold Func.isWrapper; first | (rw [if_pos (by decide +kernel)]; kernel_rfl) | (rw [if_neg (by decide +kernel)]; exact ⟨rfl, rfl⟩))
    (fun os started H enc _ => viewWhole_lifted os started H enc)
#print axioms viewWhole_holds
end Go.Proofs.Ythgajbfgolcpkaa
