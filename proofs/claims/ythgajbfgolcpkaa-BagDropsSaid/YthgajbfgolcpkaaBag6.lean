import Derived.Test.YthgajbfgolcpkaaBag5
import Derived.IntWalk
/- Contracts of package bag: On. -/
namespace Go.Proofs.Ythgajbfgolcpkaa
open Go.RowKit Go.Shelf
attribute [local go_sem] Oper.semAt_some
set_option linter.unusedVariables false
set_option linter.unusedSimpArgs false
def isOn (a b : Int) (p : Pk) : Bool := p.1 == a && p.2.1 == b
/-- How many are on a link. -/
def cntOn (a b : Int) (l : List Pk) : Nat := (l.filter (isOn a b)).length
theorem cntOn_le (a b : Int) (l : List Pk) : cntOn a b l ≤ l.length := List.length_filter_le _ _
def cntT (a b : Int) (pre : List (Pk × Nat)) : Nat := cntOn a b (pre.map (·.1))
theorem cntT_le (a b : Int) (pre : List (Pk × Nat)) : cntT a b pre ≤ pre.length := by have := cntOn_le a b (pre.map (·.1)); simpa [cntT] using this
theorem cntT_snoc (a b : Int) (pre : List (Pk × Nat)) (x : Pk × Nat) : cntT a b (pre ++ [x]) = cntT a b pre + if isOn a b x.1 = true then 1 else 0 := by
  unfold cntT cntOn
  rw [List.map_append, List.filter_append, List.length_append]
  cases h : isOn a b x.1 <;> simp [h]
theorem cntT_told (a b : Int) (l : List Pk) : cntT a b (told l) = cntOn a b l := by
  unfold cntT told
  congr 1
  apply List.ext_getElem?
  intro i
  simp
theorem ownFrom_heap {β : Type} (B k : Nat) (f : β → Array Value) (t : TypeId) (fr : Nat × Nat) : OwnFrom B (fun s X => X.heap[k]? = some (.cells (f s) t fr)) :=
  fun s X Y row hs hg hr => (grownBy_keeps_cells hg (fun r e => (hr r e).2) hs rfl).trans hs
theorem KeepsFrom.chg {S : Nat → Prop} {B : Nat} {X Y : World} (h : Chg S X Y) (hS : ∀ k, S k → k < B) : KeepsFrom B X Y :=
  ⟨h.size, fun k o hB hk _ => (h.block k (lt_of_heap hk) (fun hs => by have := hS k hs; omega)).trans hk⟩
set_option maxRecDepth 100000 in
set_option maxHeartbeats 4000000 in
theorem bagOn_is {most : Int} {w0 : Base} {g : Nat} {l : List Pk} {W : World} {v : Value} (h : BagAt most w0 g l.length (flatP l) W v) (hl : l.length ≤ 1000) (a b : Int) :
    Calls Try.prog 25 #[.pointer (some ⟨g, 0, none⟩), .int .i64 a, .int .i64 b] W fun e W' => e = .returned (.int .i64 (cntOn a b l)) ∧ Below W.heap.size W W' := by
  refine callsIn_wide.1 (callsIn_of_wp_marks (n := 9) Try.func25 rfl trivial ?_ rfl)
  rw [wpIn_wide]
  simp only [Try.ntmps25, List.size_toArray, List.length_cons, List.length_nil, Nat.reduceAdd, Nat.reduceSub, Array.replicate_succ, Array.replicate_zero, List.push_toArray, List.append_toArray, List.nil_append, List.cons_append]
  go_wp2_with fail
  (((with_reducible refine (bagAll_is g _).mono ?_)); rintro _ _ ⟨rfl, rfl⟩)
  go_wp2_with fail
  obtain ⟨s, hs⟩ : ∃ s, s = W.heap.size := ⟨_, rfl⟩
  have h4 : ((((W.alloc (.cells #[.int .i64 a] 3)).alloc (.cells #[.int .i64 b] 3)).alloc (.cells #[.int .i64 0] 3)).alloc (.cells #[.pointer (some ⟨g, 0, none⟩)] 23)).heap[W.heap.size]? = some (.cells #[.int .i64 a] 3) := (by repeat' (first | rfl | assumption | (with_reducible refine (heap_drew_eq _ _).trans ?_) | (refine (Fut.heap _ _ ?_).trans ?_ ; focus (first | assumption | omega | (simp [go_sem]; done) | (simp [go_sem]; omega))) | (refine (heap_put_at _ _ _ ?_).trans ?_ ; focus (first | assumption | omega | (simp [go_sem]; done) | (simp [go_sem]; omega))) | (refine (heap_put_other _ _ _ _ ?_).trans ?_ ; focus (first | assumption | omega | (simp [go_sem]; done) | (simp [go_sem]; omega))) | (refine (heap_alloc_other _ _ _ ?_).trans ?_ ; focus (first | assumption | omega | (simp [go_sem]; done) | (simp [go_sem]; omega))) | (refine (heap_alloc_at _ _ _ ?_).trans ?_ ; focus (first | assumption | omega | (simp [go_sem]; done) | (simp [go_sem]; omega))) | (simp [go_sem]; done) | (simp [go_sem]; omega)))
  have h5 : ((((W.alloc (.cells #[.int .i64 a] 3)).alloc (.cells #[.int .i64 b] 3)).alloc (.cells #[.int .i64 0] 3)).alloc (.cells #[.pointer (some ⟨g, 0, none⟩)] 23)).heap[W.heap.size + 1]? = some (.cells #[.int .i64 b] 3) := (by repeat' (first | rfl | assumption | (with_reducible refine (heap_drew_eq _ _).trans ?_) | (refine (Fut.heap _ _ ?_).trans ?_ ; focus (first | assumption | omega | (simp [go_sem]; done) | (simp [go_sem]; omega))) | (refine (heap_put_at _ _ _ ?_).trans ?_ ; focus (first | assumption | omega | (simp [go_sem]; done) | (simp [go_sem]; omega))) | (refine (heap_put_other _ _ _ _ ?_).trans ?_ ; focus (first | assumption | omega | (simp [go_sem]; done) | (simp [go_sem]; omega))) | (refine (heap_alloc_other _ _ _ ?_).trans ?_ ; focus (first | assumption | omega | (simp [go_sem]; done) | (simp [go_sem]; omega))) | (refine (heap_alloc_at _ _ _ ?_).trans ?_ ; focus (first | assumption | omega | (simp [go_sem]; done) | (simp [go_sem]; omega))) | (simp [go_sem]; done) | (simp [go_sem]; omega)))
  have hM : ((((W.alloc (.cells #[.int .i64 a] 3)).alloc (.cells #[.int .i64 b] 3)).alloc (.cells #[.int .i64 0] 3)).alloc (.cells #[.pointer (some ⟨g, 0, none⟩)] 23)).heap[W.heap.size + 1 + 1]? = some (.cells #[.int .i64 0] 3) := (by repeat' (first | rfl | assumption | (with_reducible refine (heap_drew_eq _ _).trans ?_) | (refine (Fut.heap _ _ ?_).trans ?_ ; focus (first | assumption | omega | (simp [go_sem]; done) | (simp [go_sem]; omega))) | (refine (heap_put_at _ _ _ ?_).trans ?_ ; focus (first | assumption | omega | (simp [go_sem]; done) | (simp [go_sem]; omega))) | (refine (heap_put_other _ _ _ _ ?_).trans ?_ ; focus (first | assumption | omega | (simp [go_sem]; done) | (simp [go_sem]; omega))) | (refine (heap_alloc_other _ _ _ ?_).trans ?_ ; focus (first | assumption | omega | (simp [go_sem]; done) | (simp [go_sem]; omega))) | (refine (heap_alloc_at _ _ _ ?_).trans ?_ ; focus (first | assumption | omega | (simp [go_sem]; done) | (simp [go_sem]; omega))) | (simp [go_sem]; done) | (simp [go_sem]; omega)))
  have hBx : ((((W.alloc (.cells #[.int .i64 a] 3)).alloc (.cells #[.int .i64 b] 3)).alloc (.cells #[.int .i64 0] 3)).alloc (.cells #[.pointer (some ⟨g, 0, none⟩)] 23)).heap[W.heap.size + 1 + 1 + 1]? = some (.cells #[.pointer (some ⟨g, 0, none⟩)] 23) := (by repeat' (first | rfl | assumption | (with_reducible refine (heap_drew_eq _ _).trans ?_) | (refine (Fut.heap _ _ ?_).trans ?_ ; focus (first | assumption | omega | (simp [go_sem]; done) | (simp [go_sem]; omega))) | (refine (heap_put_at _ _ _ ?_).trans ?_ ; focus (first | assumption | omega | (simp [go_sem]; done) | (simp [go_sem]; omega))) | (refine (heap_put_other _ _ _ _ ?_).trans ?_ ; focus (first | assumption | omega | (simp [go_sem]; done) | (simp [go_sem]; omega))) | (refine (heap_alloc_other _ _ _ ?_).trans ?_ ; focus (first | assumption | omega | (simp [go_sem]; done) | (simp [go_sem]; omega))) | (refine (heap_alloc_at _ _ _ ?_).trans ?_ ; focus (first | assumption | omega | (simp [go_sem]; done) | (simp [go_sem]; omega))) | (simp [go_sem]; done) | (simp [go_sem]; omega)))
  have hbV : Below W.heap.size W ((((W.alloc (.cells #[.int .i64 a] 3)).alloc (.cells #[.int .i64 b] 3)).alloc (.cells #[.int .i64 0] 3)).alloc (.cells #[.pointer (some ⟨g, 0, none⟩)] 23)) := (by repeat' (first | exact Below.refl _ _ | with_reducible assumption | omega | with_reducible refine below_put_fut ?_ ?_ _ | with_reducible refine below_to_put ?_ | with_reducible refine Below.alloc ?_ ?_ _ | with_reducible refine Below.fut ?_ ?_ _ | with_reducible refine Below.drew ?_ | with_reducible refine Below.setCell ?_ ?_ _ | with_reducible refine Below.atPut ?_ ?_ _ | (simp [go_sem]; done) | (simp [go_sem]; omega)))
  generalize ((((W.alloc (.cells #[.int .i64 a] 3)).alloc (.cells #[.int .i64 b] 3)).alloc (.cells #[.int .i64 0] 3)).alloc (.cells #[.pointer (some ⟨g, 0, none⟩)] 23)) = V at h4 h5 hM hBx hbV ⊢
  have hV4 := lt_of_heap hBx
  have hVs := hbV.size
  refine wpIn_wide.1 (wpIn_rangeFunc_ownH (F := Fence.wide) (n := 9) rfl (by omega) (gf := 46) (lb := #[.pointer (some ⟨W.heap.size + 1 + 1 + 1, 0, none⟩)]) rfl trivial (enters_of Try.func46 (by kernel_rfl) rfl)
    (bagAll1_stops 8 (h.on hbV) hl (W.heap.size + 1 + 1 + 1) (cell_of_row _ _ 0 _ _ (0, 0) hBx) (fun k => k = W.heap.size + 1 + 1) (fun k hk => by omega)) (fun h k => h.trans k) (fun X q o o' hq hX hc _ => KpS.putObj _ X q o o' hX hc) (Below.refl _ _) (fun _ => rfl)
    (fun pre X => ((X.heap[W.heap.size]? = some (.cells #[.int .i64 a] 3) ∧ X.heap[W.heap.size + 1]? = some (.cells #[.int .i64 b] 3)) ∧ X.heap[W.heap.size + 1 + 1]? = some (.cells #[.int .i64 (cntT a b pre)] 3)) ∧ Below W.heap.size W X)
    (fun _ _ _ => False)
    (OwnFrom.and (OwnFrom.and (OwnFrom.and (ownFrom_heap _ _ (fun _ => #[.int .i64 a]) _ _) (ownFrom_heap _ _ (fun _ => #[.int .i64 b]) _ _)) (ownFrom_heap _ _ (fun pre => #[.int .i64 (cntT a b pre)]) _ _)) (ownFrom_below (Nat.le_refl _) hVs))
    (fun _ _ _ _ _ hs _ _ => hs)
    ⟨⟨⟨h4, h5⟩, hM⟩, hbV⟩
    (fun x a' X => ∃ Bx, W.heap.size + 1 + 1 < Bx ∧ X.heap[Bx]? = some (.cells (pk x.1.1 x.1.2.1 x.1.2.2.1 x.1.2.2.2) 38) ∧ a' = { tmps := #[.pointer (some ⟨g, 0, none⟩), .int .i64 a, .int .i64 b, undef, .pointer (some ⟨W.heap.size, 0, none⟩), .pointer (some ⟨W.heap.size + 1, 0, none⟩), .int .i64 0, .pointer (some ⟨W.heap.size + 1 + 1, 0, none⟩), undef, .pointer (some ⟨Bx, 0, none⟩), .pointer (some ⟨g, 0, none⟩), .func (.func 46) #[] #[.pointer (some ⟨W.heap.size + 1 + 1 + 1, 0, none⟩)], .int .i64 (x.2 : Int), .agg (pk x.1.1 x.1.2.1 x.1.2.2.1 x.1.2.2.2), undef, undef, undef, undef, undef, undef, undef, undef, undef, undef, undef, undef, undef], defers := [] })
    (fun x a' s X Y row hs hg hr => by
      obtain ⟨Bx, h1, h2, h3⟩ := hs
      exact ⟨Bx, h1, (grownBy_keeps_cells hg (fun r e => (hr r e).2) h2 rfl).trans h2, h3⟩) ?assign ?body ?done ?stop)
  case assign =>
    rintro ll pre x X K ⟨⟨⟨i4, i5⟩, iM⟩, iB⟩ hK
    refine wpIn_region_lit ?_
    refine wpListIn_runTo (fun _ => trivial) rfl (fun _ h => by cases h) (some 9) rfl (.pointer (some ⟨X.heap.size, 0, none⟩)) (X.alloc (.cells (pk 0 0 0 0) 38)) (by kernel_rfl) ?_
    refine wpListIn_skipTo (fun _ => trivial) rfl (fun _ h => by cases h) rfl _ (run_store_row 38 (.tmp 9) (.tmp 13) rfl X.heap.size (pk x.1.1 x.1.2.1 x.1.2.2.1 x.1.2.2.2) (pk 0 0 0 0) (by simp [Act.eval, Act.put]) (by simp [Act.eval, Act.put]) (heap_alloc_at _ _ _ rfl) (by kernel_rfl) rfl (by simp [Value.oneCell'])) ?_
    refine wpListIn_nil ?_
    rw [put_alloc]
    have hx4 := lt_of_heap i4
    have hx5 := lt_of_heap i5
    have hxM := lt_of_heap iM
    have hXs := iB.size
    refine hK _ _ ((KeepsOthers.alloc _ _).from _) (KpS.chg (Chg.of_below ((Below.refl _ _).alloc (Nat.le_refl _) _))) ⟨⟨⟨(heap_alloc_other _ _ _ hx4).trans i4, (heap_alloc_other _ _ _ hx5).trans i5⟩, (heap_alloc_other _ _ _ hxM).trans iM⟩, iB.alloc hXs _⟩ ⟨X.heap.size, ?_, heap_alloc_at _ _ _ rfl, ?_⟩
    · exact hxM
    · simp [Act.put]
  case body =>
    rintro ll pre x a' X hll hr ⟨⟨⟨i4, i5⟩, iM⟩, iB⟩ ⟨Bx, hBx, hxx, rfl⟩ hlen
    have hcl := cntT_le a b pre
    have hsn := hid (cntT_snoc a b pre x)
    have hx4 := lt_of_heap i4
    have hxM := lt_of_heap iM
    have hXs := iB.size
    have n1 : ((⟨W.heap.size, 0, none⟩ : Addr) = ⟨W.heap.size + 1 + 1, 0, none⟩) = False := by simp only [Addr.mk.injEq, eq_iff_iff, iff_false]; omega
    have n2 : ((⟨W.heap.size + 1, 0, none⟩ : Addr) = ⟨W.heap.size + 1 + 1, 0, none⟩) = False := by simp only [Addr.mk.injEq, eq_iff_iff, iff_false]; omega
    have n3 : ((⟨Bx, 0, none⟩ : Addr) = ⟨W.heap.size + 1 + 1, 0, none⟩) = False := by simp only [Addr.mk.injEq, eq_iff_iff, iff_false]; omega
    have e4 := fun i => cell_of_row X W.heap.size i _ _ (0, 0) i4
    have e5 := fun i => cell_of_row X (W.heap.size + 1) i _ _ (0, 0) i5
    have eB := fun i => cell_of_row X Bx i _ _ (0, 0) hxx
    have I4 := hid i4
    have I5 := hid i5
    have IM := hid iM
    have IB := hid iB
    have hfin : ∀ q, KeepsFrom V.heap.size X (put X (W.heap.size + 1 + 1) (.cells #[.int .i64 q] 3)) ∧ KpS (fun k => k = W.heap.size + 1 + 1) X (put X (W.heap.size + 1 + 1) (.cells #[.int .i64 q] 3)) ∧ Below W.heap.size W (put X (W.heap.size + 1 + 1) (.cells #[.int .i64 q] 3)) := by
      intro q
      have hch : Chg (fun k => k = W.heap.size + 1 + 1) X (put X (W.heap.size + 1 + 1) (.cells #[.int .i64 q] 3)) := (Chg.refl (fun k => k = W.heap.size + 1 + 1) X).put (g := W.heap.size + 1 + 1) (fun _ => rfl) _
      exact ⟨KeepsFrom.chg hch (fun k hk => by omega), KpS.chg hch, Below.atPut iB (by omega) _⟩
    have HFIN := hid hfin
    have hadd : IntKind.i64.wrap ((cntT a b pre : Int) + 1) = (cntT a b pre : Int) + 1 := IntWalk.i64_in _ (by omega)
    clear hr hxx hfin hBx
    rw [← put_self iM]
    clear iM i4 i5 iB
    cases h1 : (x.1.1 == a)
    · have e0 := hid (show isOn a b x.1 = false by simp [isOn, h1])
      gi_wp2_with fail
      rw [put_self IM.out]
      exact ⟨KeepsFrom.refl _ _, KpS.refl _ _, ⟨⟨I4.out, I5.out⟩, by rw [hsn.out, e0.out]; simpa using IM.out⟩, IB.out⟩
    · cases h2 : (x.1.2.1 == b)
      · have e0 := hid (show isOn a b x.1 = false by simp [isOn, h2])
        gi_wp2_with fail
        rw [put_self IM.out]
        exact ⟨KeepsFrom.refl _ _, KpS.refl _ _, ⟨⟨I4.out, I5.out⟩, by rw [hsn.out, e0.out]; simpa using IM.out⟩, IB.out⟩
      · have e0 := hid (show isOn a b x.1 = true by simp [isOn, h1, h2])
        gi_wp2_with fail
        rw [put_self IM.out]
        obtain ⟨f1, f2, f3⟩ := HFIN.out ((cntT a b pre : Int) + 1)
        exact ⟨f1, f2, ⟨⟨(heap_put_other _ _ _ _ (by omega)).trans I4.out, (heap_put_other _ _ _ _ (by omega)).trans I5.out⟩, by rw [hsn.out, e0.out]; simpa using heap_put_at X _ (.cells #[.int .i64 ((cntT a b pre : Int) + 1)] 3) hxM⟩, f3⟩
  case done =>
    rintro D ys X hD rfl ⟨⟨⟨i4, i5⟩, iM⟩, iB⟩ hK
    have eM := cell_of_row X (W.heap.size + 1 + 1) 0 _ _ (0, 0) iM
    rw [cntT_told] at eM
    have IB := hid iB
    clear i4 i5 iM iB
    go_wp2_with fail
    refine ⟨by simp, .inl ⟨_, _, rfl, run_takeDeferred hK, ?_⟩⟩
    exact ⟨_, results_tmp rfl _ _ _, rfl, IB.out.trans (belowK_b (w := W) (Nat.le_refl _) X D _ _ (by omega) hK rfl rfl)⟩
  case stop =>
    rintro D c pre W _ _ h _
    exact h.elim
end Go.Proofs.Ythgajbfgolcpkaa
