import Derived.Test.YthgajbfgolcpkaaVw7
/- Contracts of package view: Owner, Next. -/
namespace Go.Proofs.Ythgajbfgolcpkaa
open Go.RowKit Go.Shelf
attribute [local go_sem] Oper.semAt_some
set_option linter.unusedVariables false
set_option linter.unusedSimpArgs false
theorem results_row_cell {fn : Func} {p q : Tmp} {ty : TypeId} (h : fn.results = #[.cell p ty, .cell q 4]) (tmps : Array Value) (w : World) (g b : Nat) (cs : Array Value) (v : Value)
    (hp : tmps.getD p undef = .pointer (some ⟨g, 0, none⟩)) (hq : tmps.getD q undef = .pointer (some ⟨b, 0, none⟩)) (hb : w.heap[b]? = some (.cells #[v] 4))
    (hl : (loadVar ty ⟨g, 0, none⟩).run Try.prog w = .ok (.agg cs) w) :
    (results fn tmps).run Try.prog w = .ok (.tuple #[.agg cs, v]) w := by
  have hp' : tmps[p]?.getD undef = .pointer (some ⟨g, 0, none⟩) := by simpa using hp
  have hq' : tmps[q]?.getD undef = .pointer (some ⟨b, 0, none⟩) := by simpa using hq
  have hc := cell_of_row w b 0 _ _ _ hb
  have h1 : (loadVar 4 ⟨b, 0, none⟩).run Try.prog w = .ok v w := by
    simp [loadVar, isAgg, Sem.run_bind, run_underlying Try.underlying4, go_sem, hc]
  simp [results, h, hp', hq', asAddr, hl, h1]
/-- The arc in which a point is. -/
def ownerL (x : Int) (L : List Ow) : Option Ow := L.find? fun y => hasA y.1 y.2.1 x
set_option maxRecDepth 100000 in
set_option maxHeartbeats 4000000 in
theorem owner_is {w0 : Base} {g : Nat} {l : List Pt} {W : World} {v : Value} (h : ViewAt w0 g l W v) (hl : l.length ≤ 900) (x : Int) :
    Calls Try.prog 36 #[.pointer (some ⟨g, 0, none⟩), .int .u64 x] W fun e W' => (e = .returned (.tuple #[.agg (owA ((ownerL x (arcsL l)).getD (0, 0, 0, 0))), .bool (ownerL x (arcsL l)).isSome])) ∧ Below W.heap.size W W' := by
  refine callsIn_wide.1 (callsIn_of_wp_marks (n := 9) Try.func36 rfl trivial ?_ rfl)
  rw [wpIn_wide]
  simp only [Try.ntmps36, List.size_toArray, List.length_cons, List.length_nil, Nat.reduceAdd, Nat.reduceSub, Array.replicate_succ, Array.replicate_zero, List.push_toArray, List.append_toArray, List.nil_append, List.cons_append]
  go_wp2_with fail
  (((with_reducible refine (viewAll_is g _).mono ?_)); rintro _ _ ⟨rfl, rfl⟩)
  go_wp2_with fail
  have h4 : (((((W.alloc (.cells #[.int .u64 x] 32)).alloc (.cells (owA (0, 0, 0, 0)) 71)).alloc (.cells #[.bool false] 4)).alloc (.cells #[.pointer (some ⟨g, 0, none⟩)] 72))).heap[W.heap.size]? = some (.cells #[.int .u64 x] 32) := (by repeat' (first | rfl | assumption | (with_reducible refine (heap_drew_eq _ _).trans ?_) | (refine (Fut.heap _ _ ?_).trans ?_ ; focus (first | assumption | omega | (simp [go_sem]; done) | (simp [go_sem]; omega))) | (refine (heap_put_at _ _ _ ?_).trans ?_ ; focus (first | assumption | omega | (simp [go_sem]; done) | (simp [go_sem]; omega))) | (refine (heap_put_other _ _ _ _ ?_).trans ?_ ; focus (first | assumption | omega | (simp [go_sem]; done) | (simp [go_sem]; omega))) | (refine (heap_alloc_other _ _ _ ?_).trans ?_ ; focus (first | assumption | omega | (simp [go_sem]; done) | (simp [go_sem]; omega))) | (refine (heap_alloc_at _ _ _ ?_).trans ?_ ; focus (first | assumption | omega | (simp [go_sem]; done) | (simp [go_sem]; omega))) | (simp [go_sem]; done) | (simp [go_sem]; omega)))
  have h5 : (((((W.alloc (.cells #[.int .u64 x] 32)).alloc (.cells (owA (0, 0, 0, 0)) 71)).alloc (.cells #[.bool false] 4)).alloc (.cells #[.pointer (some ⟨g, 0, none⟩)] 72))).heap[W.heap.size + 1]? = some (.cells (owA (0, 0, 0, 0)) 71) := (by repeat' (first | rfl | assumption | (with_reducible refine (heap_drew_eq _ _).trans ?_) | (refine (Fut.heap _ _ ?_).trans ?_ ; focus (first | assumption | omega | (simp [go_sem]; done) | (simp [go_sem]; omega))) | (refine (heap_put_at _ _ _ ?_).trans ?_ ; focus (first | assumption | omega | (simp [go_sem]; done) | (simp [go_sem]; omega))) | (refine (heap_put_other _ _ _ _ ?_).trans ?_ ; focus (first | assumption | omega | (simp [go_sem]; done) | (simp [go_sem]; omega))) | (refine (heap_alloc_other _ _ _ ?_).trans ?_ ; focus (first | assumption | omega | (simp [go_sem]; done) | (simp [go_sem]; omega))) | (refine (heap_alloc_at _ _ _ ?_).trans ?_ ; focus (first | assumption | omega | (simp [go_sem]; done) | (simp [go_sem]; omega))) | (simp [go_sem]; done) | (simp [go_sem]; omega)))
  have hM : (((((W.alloc (.cells #[.int .u64 x] 32)).alloc (.cells (owA (0, 0, 0, 0)) 71)).alloc (.cells #[.bool false] 4)).alloc (.cells #[.pointer (some ⟨g, 0, none⟩)] 72))).heap[W.heap.size + 1 + 1]? = some (.cells #[.bool false] 4) := (by repeat' (first | rfl | assumption | (with_reducible refine (heap_drew_eq _ _).trans ?_) | (refine (Fut.heap _ _ ?_).trans ?_ ; focus (first | assumption | omega | (simp [go_sem]; done) | (simp [go_sem]; omega))) | (refine (heap_put_at _ _ _ ?_).trans ?_ ; focus (first | assumption | omega | (simp [go_sem]; done) | (simp [go_sem]; omega))) | (refine (heap_put_other _ _ _ _ ?_).trans ?_ ; focus (first | assumption | omega | (simp [go_sem]; done) | (simp [go_sem]; omega))) | (refine (heap_alloc_other _ _ _ ?_).trans ?_ ; focus (first | assumption | omega | (simp [go_sem]; done) | (simp [go_sem]; omega))) | (refine (heap_alloc_at _ _ _ ?_).trans ?_ ; focus (first | assumption | omega | (simp [go_sem]; done) | (simp [go_sem]; omega))) | (simp [go_sem]; done) | (simp [go_sem]; omega)))
  have hBx : (((((W.alloc (.cells #[.int .u64 x] 32)).alloc (.cells (owA (0, 0, 0, 0)) 71)).alloc (.cells #[.bool false] 4)).alloc (.cells #[.pointer (some ⟨g, 0, none⟩)] 72))).heap[W.heap.size + 1 + 1 + 1]? = some (.cells #[.pointer (some ⟨g, 0, none⟩)] 72) := (by repeat' (first | rfl | assumption | (with_reducible refine (heap_drew_eq _ _).trans ?_) | (refine (Fut.heap _ _ ?_).trans ?_ ; focus (first | assumption | omega | (simp [go_sem]; done) | (simp [go_sem]; omega))) | (refine (heap_put_at _ _ _ ?_).trans ?_ ; focus (first | assumption | omega | (simp [go_sem]; done) | (simp [go_sem]; omega))) | (refine (heap_put_other _ _ _ _ ?_).trans ?_ ; focus (first | assumption | omega | (simp [go_sem]; done) | (simp [go_sem]; omega))) | (refine (heap_alloc_other _ _ _ ?_).trans ?_ ; focus (first | assumption | omega | (simp [go_sem]; done) | (simp [go_sem]; omega))) | (refine (heap_alloc_at _ _ _ ?_).trans ?_ ; focus (first | assumption | omega | (simp [go_sem]; done) | (simp [go_sem]; omega))) | (simp [go_sem]; done) | (simp [go_sem]; omega)))
  have hbV : Below W.heap.size W (((((W.alloc (.cells #[.int .u64 x] 32)).alloc (.cells (owA (0, 0, 0, 0)) 71)).alloc (.cells #[.bool false] 4)).alloc (.cells #[.pointer (some ⟨g, 0, none⟩)] 72))) := (by repeat' (first | exact Below.refl _ _ | with_reducible assumption | omega | with_reducible refine below_put_fut ?_ ?_ _ | with_reducible refine below_to_put ?_ | with_reducible refine Below.alloc ?_ ?_ _ | with_reducible refine Below.fut ?_ ?_ _ | with_reducible refine Below.drew ?_ | with_reducible refine Below.setCell ?_ ?_ _ | with_reducible refine Below.atPut ?_ ?_ _ | (simp [go_sem]; done) | (simp [go_sem]; omega)))
  generalize (((((W.alloc (.cells #[.int .u64 x] 32)).alloc (.cells (owA (0, 0, 0, 0)) 71)).alloc (.cells #[.bool false] 4)).alloc (.cells #[.pointer (some ⟨g, 0, none⟩)] 72))) = V at h4 h5 hM hBx hbV ⊢
  have hV4 := lt_of_heap hBx
  have hVs := hbV.size
  refine wpIn_wide.1 (wpIn_rangeFunc_ownH (F := Fence.wide) (n := 9) rfl (by omega) (gf := 69) (lb := #[.pointer (some ⟨W.heap.size + 1 + 1 + 1, 0, none⟩)]) rfl trivial (enters_of Try.func69 (by kernel_rfl) rfl)
    (viewAll1_stops 8 (h.on hbV) hl (W.heap.size + 1 + 1 + 1) (cell_of_row _ _ 0 _ _ (0, 0) hBx) (fun _ => False) (fun k hk => hk.elim)) (fun h k => h.trans k) (fun X q o o' hq hX hc _ => KpS.putObj _ X q o o' hX hc) (Below.refl _ _) (fun _ => rfl)
    (fun pre X => (((X.heap[W.heap.size]? = some (.cells #[.int .u64 x] 32) ∧ X.heap[W.heap.size + 1]? = some (.cells (owA (0, 0, 0, 0)) 71)) ∧ X.heap[W.heap.size + 1 + 1]? = some (.cells #[.bool false] 4)) ∧ Below W.heap.size W X) ∧ ownerL x pre = none)
    (fun c pre X => (c = .ret ∧ ∃ y, ownerL x pre = some y ∧ X.heap[W.heap.size + 1]? = some (.cells (owA y) 71)) ∧ X.heap[W.heap.size + 1 + 1]? = some (.cells #[.bool true] 4) ∧ Below W.heap.size W X)
    (OwnFrom.and (OwnFrom.and (OwnFrom.and (OwnFrom.and (ownFrom_heap _ _ (fun _ => #[.int .u64 x]) _ _) (ownFrom_heap _ _ (fun _ => owA (0, 0, 0, 0)) _ _)) (ownFrom_heap _ _ (fun _ => #[.bool false]) _ _)) (ownFrom_below (Nat.le_refl _) hVs)) (fun _ _ _ _ hs _ _ => hs))
    (fun c => OwnFrom.and (fun s X Y row hs hg hr => by
      obtain ⟨h1, y, h2, h3⟩ := hs
      exact ⟨h1, y, h2, (grownBy_keeps_cells hg (fun r e => (hr r e).2) h3 rfl).trans h3⟩) (OwnFrom.and (ownFrom_heap _ _ (fun _ => #[.bool true]) _ _) (ownFrom_below (Nat.le_refl _) hVs)))
    ⟨⟨⟨⟨h4, h5⟩, hM⟩, hbV⟩, rfl⟩
    (fun y a' X => ∃ Bx, W.heap.size + 1 + 1 < Bx ∧ X.heap[Bx]? = some (.cells (owA y) 71) ∧ a' = { tmps := #[.pointer (some ⟨g, 0, none⟩), .int .u64 x, undef, .pointer (some ⟨W.heap.size, 0, none⟩), .pointer (some ⟨W.heap.size + 1, 0, none⟩), .pointer (some ⟨W.heap.size + 1 + 1, 0, none⟩), .pointer (some ⟨Bx, 0, none⟩), .pointer (some ⟨g, 0, none⟩), .func (.func 69) #[] #[.pointer (some ⟨W.heap.size + 1 + 1 + 1, 0, none⟩)], .agg (owA y), undef, undef, undef, undef, undef, undef], defers := [] })
    (fun x a' s X Y row hs hg hr => by
      obtain ⟨Bx, h1, h2, h3⟩ := hs
      exact ⟨Bx, h1, (grownBy_keeps_cells hg (fun r e => (hr r e).2) h2 rfl).trans h2, h3⟩) ?assign ?body ?done ?stop)
  case assign =>
    rintro ll pre y X K ⟨⟨⟨⟨i4, i5⟩, iM⟩, iB⟩, iO⟩ hK
    refine wpIn_region_lit ?_
    refine wpListIn_runTo (fun _ => trivial) rfl (fun _ h => by cases h) (some 6) rfl (.pointer (some ⟨X.heap.size, 0, none⟩)) (X.alloc (.cells (owA (0, 0, 0, 0)) 71)) (by kernel_rfl) ?_
    refine wpListIn_skipTo (fun _ => trivial) rfl (fun _ h => by cases h) rfl _ (run_store_row 71 (.tmp 6) (.tmp 9) rfl X.heap.size (owA y) (owA (0, 0, 0, 0)) (by simp [Act.eval, Act.put]) (by simp [Act.eval, Act.put]) (heap_alloc_at _ _ _ rfl) (by kernel_rfl) rfl (by simp [Value.oneCell'])) ?_
    refine wpListIn_nil ?_
    rw [put_alloc]
    have hx4 := lt_of_heap i4
    have hx5 := lt_of_heap i5
    have hxM := lt_of_heap iM
    have hXs := iB.size
    refine hK _ _ ((KeepsOthers.alloc _ _).from _) (KpS.chg (Chg.of_below ((Below.refl _ _).alloc (Nat.le_refl _) _))) ⟨⟨⟨⟨(heap_alloc_other _ _ _ hx4).trans i4, (heap_alloc_other _ _ _ hx5).trans i5⟩, (heap_alloc_other _ _ _ hxM).trans iM⟩, iB.alloc hXs _⟩, iO⟩ ⟨X.heap.size, ?_, heap_alloc_at _ _ _ rfl, ?_⟩
    · exact hxM
    · simp [Act.put]
  case body =>
    rintro ll pre y a' X hll hr ⟨⟨⟨⟨i4, i5⟩, iM⟩, iB⟩, iO⟩ ⟨Bx, hBx, hxx, rfl⟩ hlen
    have hx4 := lt_of_heap i4
    have hx5 := lt_of_heap i5
    have hxM := lt_of_heap iM
    have hxB := lt_of_heap hxx
    have hXs := iB.size
    have e4 := fun i => cell_of_row X W.heap.size i _ _ (0, 0) i4
    have eB := fun i => cell_of_row X Bx i _ _ (0, 0) hxx
    have I4 := hid i4
    have I5 := hid i5
    have IM := hid iM
    have IB := hid iB
    have IO := hid iO
    have IX := hid hxx
    clear hr i4 i5 iM iB iO hxx
    gi_wp2_with fail
    refine ⟨trivial, CallsIn.inRound _ (callsIn_wide.2 ((has_is y.1 y.2.1 x _).mono ?_))⟩
    rintro _ _ ⟨rfl, u, rfl⟩
    have HU := hid u.below
    have hu := u.below.size
    cases hh : hasA y.1 y.2.1 x
    · have HO := hid (show ownerL x (pre ++ [y]) = none from by
        have := IO.out
        unfold ownerL at this ⊢
        rw [List.find?_append, this]
        simp [hh])
      gi_wp2_with fail
      exact ⟨KeepsFrom.chg (S := fun _ => False) (Chg.of_below u.below) (fun k hk => hk.elim), KpS.chg (Chg.of_below u.below), ⟨⟨⟨⟨(HU.out.block _ hx4).trans I4.out, (HU.out.block _ hx5).trans I5.out⟩, (HU.out.block _ hxM).trans IM.out⟩, IB.out.trans (HU.out.mono hXs)⟩, HO.out⟩⟩
    · have HO := hid (show ownerL x (pre ++ [y]) = some y from by
        have := IO.out
        unfold ownerL at this ⊢
        rw [List.find?_append, this]
        simp [hh])
      have j5 : u.val.heap[W.heap.size + 1]? = some (.cells (owA (0, 0, 0, 0)) 71) := (HU.out.block _ hx5).trans I5.out
      have jM : u.val.heap[W.heap.size + 1 + 1]? = some (.cells #[.bool false] 4) := (HU.out.block _ hxM).trans IM.out
      have n1 : ((⟨Bx, 0, none⟩ : Addr) = ⟨W.heap.size + 1, 0, none⟩) = False := by simp only [Addr.mk.injEq, eq_iff_iff, iff_false]; omega
      have n2 : ((⟨Bx, 0, none⟩ : Addr) = ⟨W.heap.size + 1 + 1, 0, none⟩) = False := by simp only [Addr.mk.injEq, eq_iff_iff, iff_false]; omega
      have n3 : ((⟨W.heap.size + 1, 0, none⟩ : Addr) = ⟨W.heap.size + 1 + 1, 0, none⟩) = False := by simp only [Addr.mk.injEq, eq_iff_iff, iff_false]; omega
      have n4 : ((⟨W.heap.size + 1 + 1, 0, none⟩ : Addr) = ⟨W.heap.size + 1, 0, none⟩) = False := by simp only [Addr.mk.injEq, eq_iff_iff, iff_false]; omega
      have hch : Chg (fun k => k = W.heap.size + 1 ∨ k = W.heap.size + 1 + 1) X (put (put u.val (W.heap.size + 1) (.cells (owA y) 71)) (W.heap.size + 1 + 1) (.cells #[.bool true] 4)) :=
        (((Chg.of_below (S := fun k => k = W.heap.size + 1 ∨ k = W.heap.size + 1 + 1) u.below).put (fun _ => .inl rfl) _).put (fun _ => .inr rfl) _)
      have HCH := hid hch
      have h5u := lt_of_heap j5
      have hMu := lt_of_heap jM
      have hbl : Below W.heap.size W (put (put u.val (W.heap.size + 1) (.cells (owA y) 71)) (W.heap.size + 1 + 1) (.cells #[.bool true] 4)) :=
        Below.atPut (Below.atPut (IB.out.trans (HU.out.mono hXs)) (by omega) _) (by omega) _
      have HBL := hid hbl
      clear hch hbl
      rw [← put_self jM, ← put_self j5]
      clear j5 jM
      gi_wp2_with fail
      refine ⟨KeepsFrom.chg HCH.out (fun k hk => by rcases hk with rfl | rfl <;> omega), ⟨rfl, y, HO.out, ?_⟩, ?_, HBL.out⟩
      · exact (heap_put_other _ _ _ _ (by omega)).trans (heap_put_at _ _ _ h5u)
      · exact heap_put_at _ _ _ (by rw [size_put]; exact hMu)
  case done =>
    rintro D ys X hD rfl ⟨⟨⟨⟨i4, i5⟩, iM⟩, iB⟩, iO⟩ hK
    have hx5 := lt_of_heap i5
    have hxM := lt_of_heap iM
    have IB := hid iB
    have IO := hid iO
    have HK := hid hK
    have I5 := hid i5
    have IM := hid iM
    clear i4 iB iO hK
    rw [← put_self iM, ← put_self i5]
    clear i5 iM
    go_wp2_with fail
    have ex : put (put X (W.heap.size + 1) (.cells (owA (0, 0, 0, 0)) 71)) (W.heap.size + 1 + 1) (.cells #[.bool false] 4) = X := by rw [put_self I5.out, put_self IM.out]
    dsimp only [owA] at ex
    rw [ex]
    refine ⟨by simp, .inl ⟨_, _, rfl, run_takeDeferred HK.out, ?_⟩⟩
    refine ⟨_, results_row_cell rfl _ _ (W.heap.size + 1) (W.heap.size + 1 + 1) (owA (0, 0, 0, 0)) (.bool false) rfl rfl ((World.putObj_heap_other (by omega)).trans IM.out) (run_loadVar_row _ _ 71 _ _ (0, 0) _ ((World.putObj_heap_other (by omega)).trans I5.out) Try.underlying71 rfl (by kernel_rfl)), by rw [IO.out]; rfl, IB.out.trans (belowK_b (w := W) (Nat.le_refl _) X D _ _ (by omega) HK.out rfl rfl)⟩
  case stop =>
    rintro D c pre X hD ⟨k, hk, rfl⟩ ⟨⟨rfl, y, hy, i5⟩, iM, iB⟩ hK
    have hx5 := lt_of_heap i5
    have hxM := lt_of_heap iM
    have hy2 : ownerL x (arcsL l) = some y := by
      unfold ownerL at hy ⊢
      rw [← List.take_append_drop k (arcsL l), List.find?_append, hy]
      rfl
    have HY2 := hid hy2
    have IB := hid iB
    have HK := hid hK
    have I5 := hid i5
    have IM := hid iM
    clear i5 iM iB hK hy hy2
    rw [wpIn_wide]
    go_wp2_with fail
    refine ⟨by simp, .inl ⟨_, _, rfl, run_takeDeferred HK.out, ?_⟩⟩
    refine ⟨_, results_row_cell rfl _ _ (W.heap.size + 1) (W.heap.size + 1 + 1) (owA y) (.bool true) rfl rfl ((World.putObj_heap_other (by omega)).trans IM.out) (run_loadVar_row _ _ 71 _ _ (0, 0) _ ((World.putObj_heap_other (by omega)).trans I5.out) Try.underlying71 rfl (by kernel_rfl)), by rw [HY2.out]; rfl, IB.out.trans (belowK_b (w := W) (Nat.le_refl _) X D _ _ (by omega) HK.out rfl rfl)⟩
set_option maxRecDepth 100000 in
theorem next_is {w0 : Base} {g : Nat} {l : List Pt} {W : World} {v : Value} (h : ViewAt w0 g l W v) (hl : l.length ≤ 900) (x : Int) :
    Calls Try.prog 40 #[.pointer (some ⟨g, 0, none⟩), .int .u64 x] W fun e W' => e = .returned (.tuple #[.int .u64 ((ownerL x (arcsL l)).getD (0, 0, 0, 0)).2.1, .bool (ownerL x (arcsL l)).isSome]) ∧ Below W.heap.size W W' := by
  have ho := owner_is h hl x
  generalize (ownerL x (arcsL l)).isSome = b at ho ⊢
  generalize (ownerL x (arcsL l)).getD (0, 0, 0, 0) = y at ho ⊢
  clear h hl
  go_enter Try.func40, Try.ntmps40
  go_wp2_with fail
  refine ho.mono ?_
  rintro _ W1 ⟨rfl, hb⟩
  have hz := hb.size
  go_wp2_with fail
  refine bodyPost_ret (v := .tuple #[.int .u64 y.2.1, .bool b]) (by simp [results, Try.results40, go_sem]) rfl ⟨rfl, (by repeat' (first | exact Below.refl _ _ | with_reducible assumption | omega | with_reducible refine below_put_fut ?_ ?_ _ | with_reducible refine below_to_put ?_ | with_reducible refine Below.alloc ?_ ?_ _ | with_reducible refine Below.fut ?_ ?_ _ | with_reducible refine Below.drew ?_ | with_reducible refine Below.setCell ?_ ?_ _ | with_reducible refine Below.atPut ?_ ?_ _ | (simp [go_sem]; done) | (simp [go_sem]; omega)))⟩
set_option maxRecDepth 100000 in
theorem learn_not {w0 : Base} {g : Nat} {l : List Pt} {W : World} {v : Value} (h : ViewAt w0 g l W v) (a b n e : Int) (hn : e < 0 ∨ n < 0 ∨ 255 < n) :
    Calls Try.prog 35 #[.pointer (some ⟨g, 0, none⟩), .agg #[.int .u64 a, .int .u64 b, .int .i64 n, .int .i64 e]] W fun en W' => en = .returned (.bool (learnAll l (a, b, n, e)).2) ∧ ∃ v', ViewAt w0 g (learnAll l (a, b, n, e)).1 W' v' := by
  have hq : learnAll l (a, b, n, e) = (l, false) := by unfold learnAll; rw [if_pos hn]
  rw [hq]
  have H := hid h
  clear h hq
  by_cases h1 : e < 0
  · have e1 : decide (e < 0) = true := by simp [h1]
    clear hn h1
    go_enter Try.func35, Try.ntmps35
    go_wp2_with fail
    go_ret
    exact ⟨rfl, v, H.out.on (by repeat' (first | exact Below.refl _ _ | with_reducible assumption | omega | with_reducible refine below_put_fut ?_ ?_ _ | with_reducible refine below_to_put ?_ | with_reducible refine Below.alloc ?_ ?_ _ | with_reducible refine Below.fut ?_ ?_ _ | with_reducible refine Below.drew ?_ | with_reducible refine Below.setCell ?_ ?_ _ | with_reducible refine Below.atPut ?_ ?_ _ | (simp [go_sem]; done) | (simp [go_sem]; omega)))⟩
  · have e1 : decide (e < 0) = false := by simp; omega
    by_cases h2 : n < 0
    · have e2 : decide (n < 0) = true := by simp [h2]
      clear hn h1 h2
      go_enter Try.func35, Try.ntmps35
      go_wp2_with fail
      go_ret
      exact ⟨rfl, v, H.out.on (by repeat' (first | exact Below.refl _ _ | with_reducible assumption | omega | with_reducible refine below_put_fut ?_ ?_ _ | with_reducible refine below_to_put ?_ | with_reducible refine Below.alloc ?_ ?_ _ | with_reducible refine Below.fut ?_ ?_ _ | with_reducible refine Below.drew ?_ | with_reducible refine Below.setCell ?_ ?_ _ | with_reducible refine Below.atPut ?_ ?_ _ | (simp [go_sem]; done) | (simp [go_sem]; omega)))⟩
    · have e2 : decide (n < 0) = false := by simp; omega
      have e3 : decide (255 < n) = true := by simp; omega
      clear hn h1 h2
      go_enter Try.func35, Try.ntmps35
      go_wp2_with fail
      go_ret
      exact ⟨rfl, v, H.out.on (by repeat' (first | exact Below.refl _ _ | with_reducible assumption | omega | with_reducible refine below_put_fut ?_ ?_ _ | with_reducible refine below_to_put ?_ | with_reducible refine Below.alloc ?_ ?_ _ | with_reducible refine Below.fut ?_ ?_ _ | with_reducible refine Below.drew ?_ | with_reducible refine Below.setCell ?_ ?_ _ | with_reducible refine Below.atPut ?_ ?_ _ | (simp [go_sem]; done) | (simp [go_sem]; omega)))⟩
/-- Learn, whatever is told. -/
theorem learn_any {w0 : Base} {g : Nat} {l : List Pt} {W : World} {v : Value} (h : ViewAt w0 g l W v) (hl : l.length ≤ 800) (o : Ow) :
    Calls Try.prog 35 #[.pointer (some ⟨g, 0, none⟩), .agg (owA o)] W fun en W' => en = .returned (.bool (learnAll l o).2) ∧ ∃ v', ViewAt w0 g (learnAll l o).1 W' v' := by
  obtain ⟨a, b, n, e⟩ := o
  by_cases hn : e < 0 ∨ n < 0 ∨ 255 < n
  · exact learn_not h a b n e hn
  · exact learn_is h hl a b n e (by omega) (by omega) (by omega)
end Go.Proofs.Ythgajbfgolcpkaa
