import Derived.Test.YthknenhcnpgkcaaWk5
/- Package walk: Arc (what it gives), Count. -/
namespace Go.Proofs.Ythknenhcnpgkcaa
open Go.RowKit Go.Shelf
attribute [local go_sem] Oper.semAt_some
set_option linter.unusedVariables false
set_option linter.unusedSimpArgs false
theorem walkArc_is (g : Option Addr) (a b : Int) (W : World) : Calls Try.prog 47 #[.pointer g, .agg #[.int .u64 a, .int .u64 b]] W fun e W' => e = .returned (.func (.func 80) #[] #[.pointer (some ⟨W.heap.size, 0, none⟩), .pointer (some ⟨W.heap.size + 1, 0, none⟩)]) ∧ W' = (W.alloc (.cells #[.pointer g] 23)).alloc (.cells #[.int .u64 a, .int .u64 b] 38) := by
  go_enter Try.func47, Try.ntmps47
  go_wp2_with fail
  go_ret
  exact ⟨by simp, rfl⟩
set_option maxRecDepth 100000 in
set_option maxHeartbeats 4000000 in
theorem count_is {α : Type} (L : List α) (f : α → It) (hL : L.length ≤ 900) (g : Option Addr) (a b : Int) (W : World)
    (hseq : ∀ (V : World) (s C : Nat), Below W.heap.size W V → V.heap[s]? = some (.cells #[.pointer g] 23) → V.heap[s + 1]? = some (.cells #[.int .u64 a, .int .u64 b] 38) → C < V.heap.size → W.heap.size ≤ C → C ≠ s → C ≠ s + 1 →
      SeqStopsK Fence.wide 8 Try.prog 80 #[.pointer (some ⟨s, 0, none⟩), .pointer (some ⟨s + 1, 0, none⟩)] (fun x : α => #[.string (f x).1, .string (f x).2]) (KpS fun k => k = C) (fun ys => ys = L) (fun pre => ∃ k, k ≤ L.length ∧ pre = L.take k) L.length V) :
    Calls Try.prog 40 #[.pointer g, .agg #[.int .u64 a, .int .u64 b]] W (Makes (.int .i64 (L.length : Nat)) W) := by
  refine callsIn_wide.1 (callsIn_of_wp_marks (n := 9) Try.func40 rfl trivial ?_ rfl)
  rw [wpIn_wide]
  simp only [Try.ntmps40, List.size_toArray, List.length_cons, List.length_nil, Nat.reduceAdd, Nat.reduceSub, Array.replicate_succ, Array.replicate_zero, List.push_toArray, List.append_toArray, List.nil_append, List.cons_append]
  go_wp2_with fail
  (((with_reducible refine (walkArc_is g a b _).mono ?_)); rintro _ _ ⟨rfl, rfl⟩)
  go_wp2_with fail
  have h5 : (((((W.alloc (.cells #[.int .u64 a, .int .u64 b] 38)).alloc (.cells #[.int .i64 0] 3)).alloc (.cells #[.pointer g] 23)).alloc (.cells #[.int .u64 a, .int .u64 b] 38))).heap[W.heap.size + 1]? = some (.cells #[.int .i64 0] 3) := (by repeat' (first | rfl | assumption | (with_reducible refine (heap_drew_eq _ _).trans ?_) | (refine (Fut.heap _ _ ?_).trans ?_ ; focus (first | assumption | omega | (simp [go_sem]; done) | (simp [go_sem]; omega))) | (refine (heap_put_at _ _ _ ?_).trans ?_ ; focus (first | assumption | omega | (simp [go_sem]; done) | (simp [go_sem]; omega))) | (refine (heap_put_other _ _ _ _ ?_).trans ?_ ; focus (first | assumption | omega | (simp [go_sem]; done) | (simp [go_sem]; omega))) | (refine (heap_alloc_other _ _ _ ?_).trans ?_ ; focus (first | assumption | omega | (simp [go_sem]; done) | (simp [go_sem]; omega))) | (refine (heap_alloc_at _ _ _ ?_).trans ?_ ; focus (first | assumption | omega | (simp [go_sem]; done) | (simp [go_sem]; omega))) | (simp [go_sem]; done) | (simp [go_sem]; omega)))
  have hS1 : (((((W.alloc (.cells #[.int .u64 a, .int .u64 b] 38)).alloc (.cells #[.int .i64 0] 3)).alloc (.cells #[.pointer g] 23)).alloc (.cells #[.int .u64 a, .int .u64 b] 38))).heap[W.heap.size + 1 + 1]? = some (.cells #[.pointer g] 23) := (by repeat' (first | rfl | assumption | (with_reducible refine (heap_drew_eq _ _).trans ?_) | (refine (Fut.heap _ _ ?_).trans ?_ ; focus (first | assumption | omega | (simp [go_sem]; done) | (simp [go_sem]; omega))) | (refine (heap_put_at _ _ _ ?_).trans ?_ ; focus (first | assumption | omega | (simp [go_sem]; done) | (simp [go_sem]; omega))) | (refine (heap_put_other _ _ _ _ ?_).trans ?_ ; focus (first | assumption | omega | (simp [go_sem]; done) | (simp [go_sem]; omega))) | (refine (heap_alloc_other _ _ _ ?_).trans ?_ ; focus (first | assumption | omega | (simp [go_sem]; done) | (simp [go_sem]; omega))) | (refine (heap_alloc_at _ _ _ ?_).trans ?_ ; focus (first | assumption | omega | (simp [go_sem]; done) | (simp [go_sem]; omega))) | (simp [go_sem]; done) | (simp [go_sem]; omega)))
  have hS2 : (((((W.alloc (.cells #[.int .u64 a, .int .u64 b] 38)).alloc (.cells #[.int .i64 0] 3)).alloc (.cells #[.pointer g] 23)).alloc (.cells #[.int .u64 a, .int .u64 b] 38))).heap[W.heap.size + 1 + 1 + 1]? = some (.cells #[.int .u64 a, .int .u64 b] 38) := (by repeat' (first | rfl | assumption | (with_reducible refine (heap_drew_eq _ _).trans ?_) | (refine (Fut.heap _ _ ?_).trans ?_ ; focus (first | assumption | omega | (simp [go_sem]; done) | (simp [go_sem]; omega))) | (refine (heap_put_at _ _ _ ?_).trans ?_ ; focus (first | assumption | omega | (simp [go_sem]; done) | (simp [go_sem]; omega))) | (refine (heap_put_other _ _ _ _ ?_).trans ?_ ; focus (first | assumption | omega | (simp [go_sem]; done) | (simp [go_sem]; omega))) | (refine (heap_alloc_other _ _ _ ?_).trans ?_ ; focus (first | assumption | omega | (simp [go_sem]; done) | (simp [go_sem]; omega))) | (refine (heap_alloc_at _ _ _ ?_).trans ?_ ; focus (first | assumption | omega | (simp [go_sem]; done) | (simp [go_sem]; omega))) | (simp [go_sem]; done) | (simp [go_sem]; omega)))
  have hbV : Below W.heap.size W (((((W.alloc (.cells #[.int .u64 a, .int .u64 b] 38)).alloc (.cells #[.int .i64 0] 3)).alloc (.cells #[.pointer g] 23)).alloc (.cells #[.int .u64 a, .int .u64 b] 38))) := (by repeat' (first | exact Below.refl _ _ | with_reducible assumption | omega | with_reducible refine below_put_fut ?_ ?_ _ | with_reducible refine below_to_put ?_ | with_reducible refine Below.alloc ?_ ?_ _ | with_reducible refine Below.fut ?_ ?_ _ | with_reducible refine Below.drew ?_ | with_reducible refine Below.setCell ?_ ?_ _ | with_reducible refine Below.atPut ?_ ?_ _ | (simp [go_sem]; done) | (simp [go_sem]; omega)))
  generalize ((((W.alloc (.cells #[.int .u64 a, .int .u64 b] 38)).alloc (.cells #[.int .i64 0] 3)).alloc (.cells #[.pointer g] 23)).alloc (.cells #[.int .u64 a, .int .u64 b] 38)) = V at h5 hS1 hS2 hbV ⊢
  have hV4 := lt_of_heap hS2
  have hVs := hbV.size
  refine wpIn_wide.1 (wpIn_rangeFunc_ownH (F := Fence.wide) (n := 9) rfl (by omega) (gf := 80) (lb := #[.pointer (some ⟨W.heap.size + 1 + 1, 0, none⟩), .pointer (some ⟨W.heap.size + 1 + 1 + 1, 0, none⟩)]) rfl trivial (enters_of Try.func80 (by kernel_rfl) rfl)
    (hseq V (W.heap.size + 1 + 1) (W.heap.size + 1) hbV hS1 hS2 (by omega) (by omega) (by omega) (by omega)) (fun h k => h.trans k) (fun X q o o' hq hX hc _ => KpS.putObj _ X q o o' hX hc) (Below.refl _ _) (fun _ => rfl)
    (fun pre X => (X.heap[W.heap.size + 1]? = some (.cells #[.int .i64 (pre.length : Nat)] 3) ∧ Below W.heap.size W X))
    (fun c pre X => False)
    ?hI (fun c s X Y row hs _ _ => hs) ⟨h5, hbV⟩
    (fun y a' X => a' = { tmps := #[.pointer g, .agg #[.int .u64 a, .int .u64 b], undef, .pointer (some ⟨W.heap.size, 0, none⟩), .int .i64 0, .pointer (some ⟨W.heap.size + 1, 0, none⟩), .pointer g, .agg #[.int .u64 a, .int .u64 b], .func (.func 80) #[] #[.pointer (some ⟨W.heap.size + 1 + 1, 0, none⟩), .pointer (some ⟨W.heap.size + 1 + 1 + 1, 0, none⟩)], .string (f y).1, .string (f y).2, undef, undef, undef], defers := [] })
    (fun x a' s X Y row hs hg hr => hs) ?assign ?body ?done ?stop)
  case hI => exact OwnFrom.and (ownFrom_heap _ _ (fun pre : List α => #[.int .i64 (pre.length : Nat)]) _ _) (ownFrom_below (Nat.le_refl _) hVs)
  case assign =>
    rintro ll pre y X K ⟨i5, iB⟩ hK
    have HK := hid hK
    have HI5 := hid i5
    have HIB := hid iB
    clear hK i5 iB
    gi_wp2_with fail
    exact HK.out _ _ (KeepsFrom.chg (S := fun _ => False) (Chg.refl _ _) (fun k hk => hk.elim)) (KpS.refl _ _) ⟨HI5.out, HIB.out⟩ (by simp)
  case body =>
    rintro ll pre y a' X hll hr ⟨i5, iB⟩ rfl hlen
    have hx5 := lt_of_heap i5
    have hXs := iB.size
    have IB := hid iB
    have HCH := hid ((Chg.refl (fun k => k = W.heap.size + 1) X).put (fun _ => rfl) (.cells #[.int .i64 ((pre.length : Int) + 1)] 3))
    have HBL := hid (show Below W.heap.size W (put X (W.heap.size + 1) (.cells #[.int .i64 ((pre.length : Int) + 1)] 3)) from Below.atPut iB (by omega) _)
    have e1 : IntKind.i64.wrap ((pre.length : Int) + 1) = (pre.length : Int) + 1 := IntWalk.i64_in _ (by omega)
    have I5 := hid i5
    clear hr iB
    rw [← put_self i5]
    clear i5
    gi_wp2_with fail
    rw [put_self I5.out]
    exact ⟨KeepsFrom.chg HCH.out (fun k hk => by subst hk; omega), KpS.chg HCH.out, by rw [List.length_append]; exact heap_put_at _ _ _ hx5, HBL.out⟩
  case done =>
    rintro D ys X hD hys ⟨i5, iB⟩ hK
    have hys : L = ys := hys.symm
    subst hys
    have hx5 := lt_of_heap i5
    have e5 := fun i => cell_of_row X (W.heap.size + 1) i _ _ (0, 0) i5
    have IB := hid iB
    have HK := hid hK
    clear iB hK i5
    go_wp2_with fail
    refine ⟨by simp, .inl ⟨_, _, rfl, run_takeDeferred HK.out, ?_⟩⟩
    exact ⟨.int .i64 (L.length : Nat), by simp [results, Try.results40, go_sem], .mk rfl (IB.out.trans (belowK_b (w := W) (Nat.le_refl _) X D _ _ (by omega) HK.out rfl rfl))⟩
  case stop =>
    rintro D c pre X hD ⟨q, hq, rfl⟩ hx hK
    exact hx.elim
end Go.Proofs.Ythknenhcnpgkcaa
