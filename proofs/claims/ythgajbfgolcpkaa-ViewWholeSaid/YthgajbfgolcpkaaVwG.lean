import Derived.Test.YthgajbfgolcpkaaVwE
import Derived.Test.YthgajbfgolcpkaaVwF
/- Contracts of package view: Nodes, where there are two. -/
namespace Go.Proofs.Ythgajbfgolcpkaa
open Go.RowKit Go.Shelf
attribute [local go_sem] Oper.semAt_some
set_option linter.unusedVariables false
set_option linter.unusedSimpArgs false
set_option maxRecDepth 100000 in
set_option maxHeartbeats 4000000 in
theorem nodes_is {w0 : Base} {g : Nat} {l : List Pt} {W : World} {v : Value} (h : ViewAt w0 g l W v) (hl : l.length ≤ 900) (x y : Int) (hxy : x < y) (hL : (arcsL l).map (fun o => o.2.2.1) = [x, y] ∨ (arcsL l).map (fun o => o.2.2.1) = [y, x]) :
    Calls Try.prog 44 #[.pointer (some ⟨g, 0, none⟩)] W fun e W' => (∃ r c, e = .returned (.slice (some ⟨r, 0, none⟩) 2 c) ∧ Two W' r x y) ∧ Below W.heap.size W W' := by
  refine callsIn_wide.1 (callsIn_of_wp_marks (n := 9) Try.func44 rfl trivial ?_ rfl)
  rw [wpIn_wide]
  simp only [Try.ntmps44, List.size_toArray, List.length_cons, List.length_nil, Nat.reduceAdd, Nat.reduceSub, Array.replicate_succ, Array.replicate_zero, List.push_toArray, List.append_toArray, List.nil_append, List.cons_append]
  go_wp2_with fail
  (((with_reducible refine (viewAll_is g _).mono ?_)); rintro _ _ ⟨rfl, rfl⟩)
  go_wp2_with fail
  have h3 : ((W.alloc (.cells #[.slice none 0 0] 47)).alloc (.cells #[.pointer (some ⟨g, 0, none⟩)] 72)).heap[W.heap.size]? = some (.cells #[.slice none 0 0] 47) := (by repeat' (first | rfl | assumption | (with_reducible refine (heap_drew_eq _ _).trans ?_) | (refine (Fut.heap _ _ ?_).trans ?_ ; focus (first | assumption | omega | (simp [go_sem]; done) | (simp [go_sem]; omega))) | (refine (heap_put_at _ _ _ ?_).trans ?_ ; focus (first | assumption | omega | (simp [go_sem]; done) | (simp [go_sem]; omega))) | (refine (heap_put_other _ _ _ _ ?_).trans ?_ ; focus (first | assumption | omega | (simp [go_sem]; done) | (simp [go_sem]; omega))) | (refine (heap_alloc_other _ _ _ ?_).trans ?_ ; focus (first | assumption | omega | (simp [go_sem]; done) | (simp [go_sem]; omega))) | (refine (heap_alloc_at _ _ _ ?_).trans ?_ ; focus (first | assumption | omega | (simp [go_sem]; done) | (simp [go_sem]; omega))) | (simp [go_sem]; done) | (simp [go_sem]; omega)))
  have hBx : ((W.alloc (.cells #[.slice none 0 0] 47)).alloc (.cells #[.pointer (some ⟨g, 0, none⟩)] 72)).heap[W.heap.size + 1]? = some (.cells #[.pointer (some ⟨g, 0, none⟩)] 72) := (by repeat' (first | rfl | assumption | (with_reducible refine (heap_drew_eq _ _).trans ?_) | (refine (Fut.heap _ _ ?_).trans ?_ ; focus (first | assumption | omega | (simp [go_sem]; done) | (simp [go_sem]; omega))) | (refine (heap_put_at _ _ _ ?_).trans ?_ ; focus (first | assumption | omega | (simp [go_sem]; done) | (simp [go_sem]; omega))) | (refine (heap_put_other _ _ _ _ ?_).trans ?_ ; focus (first | assumption | omega | (simp [go_sem]; done) | (simp [go_sem]; omega))) | (refine (heap_alloc_other _ _ _ ?_).trans ?_ ; focus (first | assumption | omega | (simp [go_sem]; done) | (simp [go_sem]; omega))) | (refine (heap_alloc_at _ _ _ ?_).trans ?_ ; focus (first | assumption | omega | (simp [go_sem]; done) | (simp [go_sem]; omega))) | (simp [go_sem]; done) | (simp [go_sem]; omega)))
  have hbV : Below W.heap.size W ((W.alloc (.cells #[.slice none 0 0] 47)).alloc (.cells #[.pointer (some ⟨g, 0, none⟩)] 72)) := (by repeat' (first | exact Below.refl _ _ | with_reducible assumption | omega | with_reducible refine below_put_fut ?_ ?_ _ | with_reducible refine below_to_put ?_ | with_reducible refine Below.alloc ?_ ?_ _ | with_reducible refine Below.fut ?_ ?_ _ | with_reducible refine Below.drew ?_ | with_reducible refine Below.setCell ?_ ?_ _ | with_reducible refine Below.atPut ?_ ?_ _ | (simp [go_sem]; done) | (simp [go_sem]; omega)))
  generalize ((W.alloc (.cells #[.slice none 0 0] 47)).alloc (.cells #[.pointer (some ⟨g, 0, none⟩)] 72)) = V at h3 hBx hbV ⊢
  have hV3 := lt_of_heap hBx
  have hVs := hbV.size
  refine wpIn_wide.1 (wpIn_rangeFunc_ownH (F := Fence.wide) (n := 9) rfl (by omega) (gf := 69) (lb := #[.pointer (some ⟨W.heap.size + 1, 0, none⟩)]) rfl trivial (enters_of Try.func69 (by kernel_rfl) rfl)
    (viewAll1_stopsO 8 (h.on hbV) hl (W.heap.size + 1) (cell_of_row _ _ 0 _ _ (0, 0) hBx) W.heap.size (by omega) (by unfold ownOf; rw [h3]; rfl)) (fun h k => h.trans k) (fun X q o o' hq hX hc _ => KpO.putObj _ hX hc (by omega)) (Below.refl _ _) (fun _ => rfl)
    (fun pre X => (∃ v, IntsIn W.heap.size (pre.map fun o => o.2.2.1) X v) ∧ Below W.heap.size W X)
    (fun c pre X => False)
    (OwnFrom.and (IntsIn.from _ _) (ownFrom_below (Nat.le_refl _) hVs))
    (fun c s X Y row hs _ _ => hs)
    ⟨⟨_, ⟨h3, World.ownsRow_nil _ _ _ _⟩⟩, hbV⟩
    (fun y a' X => ∃ Bx, W.heap.size < Bx ∧ X.heap[Bx]? = some (.cells (owA y) 71) ∧ a' = { tmps := #[.pointer (some ⟨g, 0, none⟩), undef, .slice none 0 0, .pointer (some ⟨W.heap.size, 0, none⟩), .pointer (some ⟨Bx, 0, none⟩), .pointer (some ⟨g, 0, none⟩), .func (.func 69) #[] #[.pointer (some ⟨W.heap.size + 1, 0, none⟩)], .agg (owA y), undef, undef, undef, undef, undef, undef, undef, undef, undef], defers := [] })
    (fun x a' s X Y row hs hg hr => by
      obtain ⟨Bx, h1, h2, h3⟩ := hs
      exact ⟨Bx, h1, (grownBy_keeps_cells hg (fun r e => (hr r e).2) h2 rfl).trans h2, h3⟩) ?assign ?body ?done ?stop)
  case assign =>
    rintro ll pre y X K ⟨⟨vi, i3⟩, iB⟩ hK
    refine wpIn_region_lit ?_
    refine wpListIn_runTo (fun _ => trivial) rfl (fun _ h => by cases h) (some 4) rfl (.pointer (some ⟨X.heap.size, 0, none⟩)) (X.alloc (.cells (owA (0, 0, 0, 0)) 71)) (by kernel_rfl) ?_
    refine wpListIn_skipTo (fun _ => trivial) rfl (fun _ h => by cases h) rfl _ (run_store_row 71 (.tmp 4) (.tmp 7) rfl X.heap.size (owA y) (owA (0, 0, 0, 0)) (by simp [Act.eval, Act.put]) (by simp [Act.eval, Act.put]) (heap_alloc_at _ _ _ rfl) (by kernel_rfl) rfl (by simp [Value.oneCell'])) ?_
    refine wpListIn_nil ?_
    rw [put_alloc]
    have hx3 := lt_of_heap i3.heap
    have hXs := iB.size
    refine hK _ _ ((KeepsOthers.alloc _ _).from _) (KpO.below hx3 ((Below.refl _ _).alloc (Nat.le_refl _) _)) ⟨⟨vi, ⟨(heap_alloc_other _ _ _ hx3).trans i3.heap, owns_below i3.row ((Below.refl _ _).alloc (Nat.le_refl _) _)⟩⟩, iB.alloc hXs _⟩ ⟨X.heap.size, hx3, heap_alloc_at _ _ _ rfl, ?_⟩
    simp [Act.put]
  case body =>
    rintro ll pre y a' X hll hr ⟨⟨vi, i3⟩, iB⟩ ⟨Bx, hBx, hxx, rfl⟩ hlen
    have hx3 := lt_of_heap i3.heap
    have hxB := lt_of_heap hxx
    have hXs := iB.size
    have e3 := fun i => cell_of_row X W.heap.size i _ _ (0, 0) i3.heap
    have eB := fun i => cell_of_row X Bx i _ _ (0, 0) hxx
    have HI3 := hid i3
    have HB := hid iB
    have hpl : (pre.map fun o : Ow => o.2.2.1).length ≤ 900 := by
      have := arcsL_len l
      rw [List.length_map]; omega
    clear hr i3 iB hxx
    obtain ⟨ao, cc, rfl⟩ := owns_slice HI3.out.row
    have HPL := hid hpl
    generalize hnl : (pre.map fun o : Ow => o.2.2.1).length = n at HI3 hpl e3 ⊢
    clear hnl
    gi_wp2_with (first | (gi_at_builtin; refine wpListIn_append_ex (by rfl) _ _ _ (by rfl) _ _ (by rfl) (by rfl) (HI3.out.app (by repeat' (first | exact Below.refl _ _ | with_reducible assumption | omega | with_reducible refine below_put_fut ?_ ?_ _ | with_reducible refine below_to_put ?_ | with_reducible refine Below.alloc ?_ ?_ _ | with_reducible refine Below.fut ?_ ?_ _ | with_reducible refine Below.drew ?_ | with_reducible refine Below.setCell ?_ ?_ _ | with_reducible refine Below.atPut ?_ ?_ _ | (simp [go_sem]; done) | (simp [go_sem]; omega))) HPL.out y.2.2.1 (by repeat' (first | rfl | assumption | (with_reducible refine (heap_drew_eq _ _).trans ?_) | (refine (Fut.heap _ _ ?_).trans ?_ ; focus (first | assumption | omega | (simp [go_sem]; done) | (simp [go_sem]; omega))) | (refine (heap_put_at _ _ _ ?_).trans ?_ ; focus (first | assumption | omega | (simp [go_sem]; done) | (simp [go_sem]; omega))) | (refine (heap_put_other _ _ _ _ ?_).trans ?_ ; focus (first | assumption | omega | (simp [go_sem]; done) | (simp [go_sem]; omega))) | (refine (heap_alloc_other _ _ _ ?_).trans ?_ ; focus (first | assumption | omega | (simp [go_sem]; done) | (simp [go_sem]; omega))) | (refine (heap_alloc_at _ _ _ ?_).trans ?_ ; focus (first | assumption | omega | (simp [go_sem]; done) | (simp [go_sem]; omega))) | (simp [go_sem]; done) | (simp [go_sem]; omega)))) ?_; rintro v4 w4 ⟨hAb, hAl, hin, hkp, hbl, hkf⟩; obtain ⟨ao4, cc4, rfl⟩ := owns_slice hin.row; generalize (List.map (fun o : Ow => o.2.2.1) pre ++ [y.2.2.1]).length = n4 at hin hkp hbl hkf ⊢; have HIN := hid hin; have HKP := hid hkp; have HBL := hid hbl; have HKF := hid hkf; clear hin hkp hbl hkf; rw [← put_self hAb]; clear hAb))
    exact ⟨HKF.out _, HKP.out, ⟨_, by rw [List.map_append]; exact HIN.out⟩, HB.out.trans HBL.out⟩
  case done =>
    rintro D ys X hD rfl ⟨⟨vi, i3⟩, iB⟩ hK
    have hx3 := lt_of_heap i3.heap
    obtain ⟨a, b, hab, hm⟩ : ∃ a b, ((a = x ∧ b = y) ∨ (a = y ∧ b = x)) ∧ (arcsL l).map (fun o => o.2.2.1) = [a, b] := by
      rcases hL with e | e
      · exact ⟨x, y, .inl ⟨rfl, rfl⟩, e⟩
      · exact ⟨y, x, .inr ⟨rfl, rfl⟩, e⟩
    rw [hm] at i3
    obtain ⟨r, c, rfl, hrb, hrl⟩ := World.ownsRow.form i3.row (by simp)
    have h2 : Two X r a b := by
      obtain ⟨cur, _, hnc, hh, hcs, htk⟩ := row_open (owns_zero i3.row)
      refine ⟨cur, hh, ?_, ?_⟩
      · have := congrArg (fun l : List Value => l[0]?) htk
        rw [List.getElem?_take] at this
        simpa using this
      · have := congrArg (fun l : List Value => l[1]?) htk
        rw [List.getElem?_take] at this
        simpa using this
    have hDl := lt_of_heap hK
    have e3 := fun i => cell_of_row X W.heap.size i _ _ (0, 0) i3.heap
    have hrD : D ≠ r := fun e => by
      obtain ⟨cs, hh, _⟩ := h2
      rw [← e, hK] at hh; cases hh
    have HK := hid hK
    have H2 := hid h2
    have HB := hid iB
    have HI3 := hid i3.heap
    clear i3 iB hK h2 hL hm
    go_wp2_with fail
    refine (sort2 X r c x y a b H2.out hab hxy).mono ?_
    rintro _ X2 ⟨⟨v2, rfl⟩, h3, hc3⟩
    have HT3 := hid h3
    have j3 : X2.heap[W.heap.size]? = some (.cells #[.slice (some ⟨r, 0, none⟩) 2 c] 47) := (hc3.block _ hx3 (by omega)).trans HI3.out
    have jK : X2.heap[D]? = some (.deferred (some [])) := (hc3.block _ hDl hrD).trans HK.out
    have HB2 := hid (HB.out.trans (hc3.below (B := W.heap.size) HB.out.size (fun i e => by subst e; omega)))
    have f3 := fun i => cell_of_row X2 W.heap.size i _ _ (0, 0) j3
    have g3 := lt_of_heap j3
    have JK := hid jK
    clear hc3 h3 j3 jK e3
    go_wp2_with fail
    refine (compact2 X2 r c x y HT3.out hxy).mono ?_
    rintro _ _ ⟨rfl, u4, rfl⟩
    have HT4 := hid (HT3.out.on u4.below)
    have jK4 := (u4.below.block _ (lt_of_heap JK.out)).trans JK.out
    have JK4 := hid jK4
    have HB4 := hid (HB2.out.trans (u4.below.mono HB2.out.size))
    clear jK4
    go_wp2_with fail
    refine ⟨by simp, .inl ⟨_, _, rfl, run_takeDeferred JK4.out, ?_⟩⟩
    refine ⟨.slice (some ⟨r, 0, none⟩) 2 c, by simp [results, Try.results44, go_sem], ⟨r, c, rfl, ?_⟩, HB4.out.trans (belowK_b (w := W) (Nat.le_refl _) u4.val D _ _ (by omega) JK4.out rfl rfl)⟩
    obtain ⟨cs, hh, q1, q2⟩ := HT4.out
    exact ⟨cs, (World.putObj_heap_other (by omega)).trans hh, q1, q2⟩
  case stop =>
    rintro D c pre X hD hp hx hK
    exact hx.elim
end Go.Proofs.Ythgajbfgolcpkaa
