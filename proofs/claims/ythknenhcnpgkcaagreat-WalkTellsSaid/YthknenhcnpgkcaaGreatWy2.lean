/- rosarylaw5.Ways, of any sequence; of All, Range, Arc. -/
import Derived.Test.YthknenhcnpgkcaaGreatWy1
namespace Go.Proofs.YthknenhcnpgkcaaGreat
open Go.RowKit Go.Shelf
set_option linter.unusedVariables false
set_option linter.unusedSimpArgs false
attribute [local go_sem] Oper.semAt_some
/-- What Ways says: the first so many, and none told behind the end. -/
def Wayed (L : List It) (most : Nat) (W : World) (e : Ending) (W' : World) : Prop := ∃ ao n c, e = .returned (.tuple #[.slice ao n c, .int .i64 0]) ∧ Src W' 2 (.slice ao n c) n (flat (L.take most)) ∧ n = min L.length most ∧ Below W.heap.size W W'
/-- How a sequence ends that is gone through with Ways' function. -/
def WayEnd (L : List It) (W : World) (M most : Nat) (e : Ending) (W' : World) : Prop :=
  (∃ v, e = .returned v) ∧ ((WayS W M most false L W' ∧ L.length < most) ∨ ∃ k, k < L.length ∧ (WayS W M most true (L.take (k + 1)) W' ∧ (L.take (k + 1)).length = most))
set_option maxRecDepth 100000 in
set_option maxHeartbeats 4000000 in
theorem ways_is (L : List It) (gf : Nat) (lb : Array Value) (W : World) (heg : ∀ args w, (callFunc gf args).run Tryz.prog w = .ok (.enter gf args) w) (most : Nat) (hm : 1 ≤ most)
    (hseq : ∀ (V : World) (M : Nat), Below W.heap.size W V → M + 3 < V.heap.size → WayS W M most false [] V → ownOf (M + 1) V = none →
      Calls Tryz.prog gf (#[.func (.func 33) #[] #[.pointer (some ⟨M + 3, 0, none⟩), .pointer (some ⟨M + 2, 0, none⟩), .pointer (some ⟨M + 1, 0, none⟩), .pointer (some ⟨M, 0, none⟩)]] ++ lb) V (WayEnd L W M most)) :
    Calls Tryz.prog 11 #[.func (.func gf) #[] lb, .int .i64 most] W (Wayed L most W) := by
  have hnf := fun w => eql_func_nil gf lb w
  have HSEQ := hid hseq
  have HM := hid hm
  clear hseq hm
  go_enter Tryz.func11, Tryz.ntmps11
  go_wp2_with fail
  have hb : Below W.heap.size W ((((W.alloc (.cells #[.int .i64 most] 3)).alloc (.cells #[.slice none 0 0] 22)).alloc (.cells #[.int .i64 0] 3)).alloc (.cells #[.bool false] 4)) := (by repeat' (first | exact Below.refl _ _ | with_reducible assumption | omega | with_reducible refine below_put_fut ?_ ?_ _ | with_reducible refine below_to_put ?_ | with_reducible refine Below.alloc ?_ ?_ _ | with_reducible refine Below.fut ?_ ?_ _ | with_reducible refine Below.drew ?_ | with_reducible refine Below.setCell ?_ ?_ _ | with_reducible refine Below.atPut ?_ ?_ _ | (simp [go_sem]; done) | (simp [go_sem]; omega)))
  have h0 : ((((W.alloc (.cells #[.int .i64 most] 3)).alloc (.cells #[.slice none 0 0] 22)).alloc (.cells #[.int .i64 0] 3)).alloc (.cells #[.bool false] 4)).heap[W.heap.size]? = some (.cells #[.int .i64 most] 3) := (by repeat' (first | rfl | assumption | (with_reducible refine (heap_drew_eq _ _).trans ?_) | (refine (Fut.heap _ _ ?_).trans ?_ ; focus (first | assumption | omega | (simp [go_sem]; done) | (simp [go_sem]; omega))) | (refine (heap_put_at _ _ _ ?_).trans ?_ ; focus (first | assumption | omega | (simp [go_sem]; done) | (simp [go_sem]; omega))) | (refine (heap_put_other _ _ _ _ ?_).trans ?_ ; focus (first | assumption | omega | (simp [go_sem]; done) | (simp [go_sem]; omega))) | (refine (heap_alloc_other _ _ _ ?_).trans ?_ ; focus (first | assumption | omega | (simp [go_sem]; done) | (simp [go_sem]; omega))) | (refine (heap_alloc_at _ _ _ ?_).trans ?_ ; focus (first | assumption | omega | (simp [go_sem]; done) | (simp [go_sem]; omega))) | (simp [go_sem]; done) | (simp [go_sem]; omega)))
  have h1 : ((((W.alloc (.cells #[.int .i64 most] 3)).alloc (.cells #[.slice none 0 0] 22)).alloc (.cells #[.int .i64 0] 3)).alloc (.cells #[.bool false] 4)).heap[W.heap.size + 1]? = some (.cells #[.slice none 0 0] 22) := (by repeat' (first | rfl | assumption | (with_reducible refine (heap_drew_eq _ _).trans ?_) | (refine (Fut.heap _ _ ?_).trans ?_ ; focus (first | assumption | omega | (simp [go_sem]; done) | (simp [go_sem]; omega))) | (refine (heap_put_at _ _ _ ?_).trans ?_ ; focus (first | assumption | omega | (simp [go_sem]; done) | (simp [go_sem]; omega))) | (refine (heap_put_other _ _ _ _ ?_).trans ?_ ; focus (first | assumption | omega | (simp [go_sem]; done) | (simp [go_sem]; omega))) | (refine (heap_alloc_other _ _ _ ?_).trans ?_ ; focus (first | assumption | omega | (simp [go_sem]; done) | (simp [go_sem]; omega))) | (refine (heap_alloc_at _ _ _ ?_).trans ?_ ; focus (first | assumption | omega | (simp [go_sem]; done) | (simp [go_sem]; omega))) | (simp [go_sem]; done) | (simp [go_sem]; omega)))
  have h2 : ((((W.alloc (.cells #[.int .i64 most] 3)).alloc (.cells #[.slice none 0 0] 22)).alloc (.cells #[.int .i64 0] 3)).alloc (.cells #[.bool false] 4)).heap[W.heap.size + 2]? = some (.cells #[.int .i64 0] 3) := (by repeat' (first | rfl | assumption | (with_reducible refine (heap_drew_eq _ _).trans ?_) | (refine (Fut.heap _ _ ?_).trans ?_ ; focus (first | assumption | omega | (simp [go_sem]; done) | (simp [go_sem]; omega))) | (refine (heap_put_at _ _ _ ?_).trans ?_ ; focus (first | assumption | omega | (simp [go_sem]; done) | (simp [go_sem]; omega))) | (refine (heap_put_other _ _ _ _ ?_).trans ?_ ; focus (first | assumption | omega | (simp [go_sem]; done) | (simp [go_sem]; omega))) | (refine (heap_alloc_other _ _ _ ?_).trans ?_ ; focus (first | assumption | omega | (simp [go_sem]; done) | (simp [go_sem]; omega))) | (refine (heap_alloc_at _ _ _ ?_).trans ?_ ; focus (first | assumption | omega | (simp [go_sem]; done) | (simp [go_sem]; omega))) | (simp [go_sem]; done) | (simp [go_sem]; omega)))
  have h3 : ((((W.alloc (.cells #[.int .i64 most] 3)).alloc (.cells #[.slice none 0 0] 22)).alloc (.cells #[.int .i64 0] 3)).alloc (.cells #[.bool false] 4)).heap[W.heap.size + 3]? = some (.cells #[.bool false] 4) := (by repeat' (first | rfl | assumption | (with_reducible refine (heap_drew_eq _ _).trans ?_) | (refine (Fut.heap _ _ ?_).trans ?_ ; focus (first | assumption | omega | (simp [go_sem]; done) | (simp [go_sem]; omega))) | (refine (heap_put_at _ _ _ ?_).trans ?_ ; focus (first | assumption | omega | (simp [go_sem]; done) | (simp [go_sem]; omega))) | (refine (heap_put_other _ _ _ _ ?_).trans ?_ ; focus (first | assumption | omega | (simp [go_sem]; done) | (simp [go_sem]; omega))) | (refine (heap_alloc_other _ _ _ ?_).trans ?_ ; focus (first | assumption | omega | (simp [go_sem]; done) | (simp [go_sem]; omega))) | (refine (heap_alloc_at _ _ _ ?_).trans ?_ ; focus (first | assumption | omega | (simp [go_sem]; done) | (simp [go_sem]; omega))) | (simp [go_sem]; done) | (simp [go_sem]; omega)))
  generalize ((((W.alloc (.cells #[.int .i64 most] 3)).alloc (.cells #[.slice none 0 0] 22)).alloc (.cells #[.int .i64 0] 3)).alloc (.cells #[.bool false] 4)) = V at hb h0 h1 h2 h3 ⊢
  have hw : WayS W W.heap.size most false [] V := ⟨hb, Nat.le_refl _, h0, ⟨_, h1, World.ownsRow_nil _ _ _ _⟩, h2, h3⟩
  refine (HSEQ.out V W.heap.size hb (lt_of_heap h3) hw (by unfold ownOf; rw [h1]; rfl)).mono ?_
  rintro _ W6 ⟨⟨rv, rfl⟩, hor⟩
  obtain ⟨fin, hw6, hl6⟩ : ∃ fin, WayS W W.heap.size most fin (L.take most) W6 ∧ (L.take most).length = min L.length most := by
    have hlen : (L.take most).length = min L.length most := by rw [List.length_take, Nat.min_comm]
    rcases hor with ⟨k1, k2⟩ | ⟨k, k1, k2, k3⟩
    · exact ⟨false, by rw [List.take_of_length_le (by omega)]; exact k1, hlen⟩
    · have : k + 1 = most := by rw [List.length_take] at k3; omega
      subst this
      exact ⟨true, k2, hlen⟩
  clear hor hw h0 h1 h2 h3 hb
  obtain ⟨v6, hv6⟩ := hw6.out
  have e1 := fun i => cell_of_row W6 (W.heap.size + 1) i _ _ (0, 0) hv6.heap
  have e2 : ∀ i, W6.cell? ⟨W.heap.size + 1 + 1, i, none⟩ = #[Value.int .i64 0][i]? := fun i => cell_of_row W6 (W.heap.size + 2) i _ _ (0, 0) hw6.over
  have l1 := lt_of_heap hv6.heap
  have l2 : W.heap.size + 1 + 1 < W6.heap.size := lt_of_heap hw6.over
  have HS := hid ((owns_zero hv6.row).src (flat_one _))
  obtain ⟨ao, c, rfl⟩ := owns_slice hv6.row
  have HL := hid hl6
  have HB := hid hw6.base
  rw [hl6] at HS e1
  have hz6 := hw6.base.size
  obtain ⟨nn, hnn⟩ : ∃ nn, min L.length most = nn := ⟨_, rfl⟩
  rw [hnn] at HS e1
  have HNN := hid hnn
  clear hw6 hv6 hl6 hnn HL
  go_wp2_with (first | (((with_reducible refine wp_region_fut_lit (by kernel_rfl) (by kernel_rfl) ?_)); (repeat (go_big_quiet_step ((first | fail)))); ((with_reducible refine wpQuiet_nil ?_)); rintro _ ⟨u, rfl⟩; (try (rw [Fut.put_self u (by first | assumption | (simp [go_sem]; done) | (simp [go_sem]; omega))]))))
  go_ret2
  exact ⟨ao, nn, c, by simp, HS.out.heap (by repeat' (first | exact Below.refl _ _ | with_reducible assumption | omega | with_reducible refine below_put_fut ?_ ?_ _ | with_reducible refine below_to_put ?_ | with_reducible refine Below.alloc ?_ ?_ _ | with_reducible refine Below.fut ?_ ?_ _ | with_reducible refine Below.drew ?_ | with_reducible refine Below.setCell ?_ ?_ _ | with_reducible refine Below.atPut ?_ ?_ _ | (simp [go_sem]; done) | (simp [go_sem]; omega))), HNN.out.symm, HB.out.trans (Below.mono (B := W6.heap.size) (by repeat' (first | exact Below.refl _ _ | with_reducible assumption | omega | with_reducible refine below_put_fut ?_ ?_ _ | with_reducible refine below_to_put ?_ | with_reducible refine Below.alloc ?_ ?_ _ | with_reducible refine Below.fut ?_ ?_ _ | with_reducible refine Below.drew ?_ | with_reducible refine Below.setCell ?_ ?_ _ | with_reducible refine Below.atPut ?_ ?_ _ | (simp [go_sem]; done) | (simp [go_sem]; omega))) hz6)⟩
/-- All, Range, Arc, gone through by Ways. -/
theorem fen_way {M : Nat} : Fen (KpW M) (fun r X => M + 1 < X.heap.size ∧ r ≠ M + 1 ∧ ¬ (r = M + 3) ∧ ownOf (M + 1) X ≠ some r) := fen_OS (M + 1) (fun k => k = M + 3)
theorem fresh_way {M : Nat} {V : World} (hM : M + 3 < V.heap.size) (ho : ownOf (M + 1) V = none) (X : World) (r : Nat) (hb : Below V.heap.size V X) (hr : V.heap.size ≤ r) : M + 1 < X.heap.size ∧ r ≠ M + 1 ∧ ¬ (r = M + 3) ∧ ownOf (M + 1) X ≠ some r :=
  ⟨by have := hb.size; omega, by omega, by omega, by rw [ownOf_same (hb.block (M + 1) (by omega)), ho]; exact fun e => by cases e⟩
section
variable {xs : List It} {g : Option Addr} {W : World}
theorem waysAll (h : Gives g xs W) (hn : xs.length ≤ 900) (s : Nat) (hS : W.heap[s]? = some (.cells #[.pointer g] 27)) (most : Nat) (hm : 1 ≤ most) :
    Calls Tryz.prog 11 #[.func (.func 24) #[] #[.pointer (some ⟨s, 0, none⟩)], .int .i64 most] W (Wayed xs most W) := by
  refine ways_is xs 24 _ W (enters_of Tryz.func24 (by kernel_rfl) rfl) most hm fun V M hbV hM hway hown => ?_
  have hS1 := (hbV.block _ (lt_of_heap hS)).trans hS
  refine (walkAll1_calls (h.on hbV) hn s (cell_of_row _ _ 0 _ _ (0, 0) hS1) (fen_way (M := M)) 33 _ (enters_of Tryz.func33 (by kernel_rfl) rfl)
    (fun i X => WayS W M most false (xs.take i) X ∧ (xs.take i).length < most) (fun i X => WayS W M most true (xs.take i) X ∧ (xs.take i).length = most) (fun i X Y h hb => ⟨h.1.below hb, h.2⟩) V (Below.refl _ _) (fun X r hb hr => fresh_way hM hown X r hb hr) (fun i x X hx hJ => ?_) ⟨hway, by simp; omega⟩).mono ?_
  · rw [take_snoc hx]
    refine (ways1_is hJ.1 hJ.2 (by rw [List.length_take]; omega) x).mono ?_
    rintro e X' ⟨_, h⟩
    exact h
  · rintro e W' ⟨h1, h2⟩
    refine ⟨h1, ?_⟩
    rcases h2 with h2 | ⟨i, h2, h3⟩
    · rw [List.take_length] at h2; exact .inl h2
    · exact .inr ⟨i, h2, h3⟩
theorem waysArc (h : Gives g xs W) (hn : xs.length ≤ 900) (hsm : ∀ x ∈ xs, x.1.size ≤ maxLen) {a b : Int} (ha : 0 ≤ a) (ha2 : a < 18446744073709551616) (hb : 0 ≤ b) (hb2 : b < 18446744073709551616) (s : Nat) (hS : W.heap[s]? = some (.cells #[.pointer g] 27)) (hab : W.heap[s + 1]? = some (.cells #[.int .u64 a, .int .u64 b] 25)) (most : Nat) (hm : 1 ≤ most) :
    Calls Tryz.prog 11 #[.func (.func 28) #[] #[.pointer (some ⟨s, 0, none⟩), .pointer (some ⟨s + 1, 0, none⟩)], .int .i64 most] W (Wayed (arcL a b xs) most W) := by
  have hle := arcL_len_le ha ha2 hb hb2 xs
  refine ways_is (arcL a b xs) 28 _ W (enters_of Tryz.func28 (by kernel_rfl) rfl) most hm fun V M hbV hM hway hown => ?_
  exact walkArc1_calls (h.on hbV) hn hsm s ((hbV.block _ (lt_of_heap hS)).trans hS) a b hb ((hbV.block _ (lt_of_heap hab)).trans hab) (fenA_OS (S := fun k => k = M + 3) (A := M + 1) (by omega) (fun k hk => by omega)) (fun X r hb hr => fresh_way hM hown X r hb (Nat.le_trans hb.size hr)) 33 _ (enters_of Tryz.func33 (by kernel_rfl) rfl)
    (fun pre X => WayS W M most false pre X ∧ pre.length < most) (fun pre X => WayS W M most true pre X ∧ pre.length = most) (fun i X Y h hb => ⟨h.1.below hb, h.2⟩)
    (fun pre x X hJ hl => (ways1_is hJ.1 hJ.2 (by omega) x).mono fun e X' h => h.2) ⟨hway, by simp; omega⟩
theorem waysRange (h : Gives g xs W) (hn : xs.length ≤ 900) (hr : Rises xs) (hsm : ∀ x ∈ xs, x.1.size ≤ maxLen) (u v : ByteArray) (hu : u.size ≤ maxLen) (hv : v.size ≤ maxLen) (s t r : Nat) (hS : W.heap[s]? = some (.cells #[.pointer g] 27)) (hU : W.heap[t]? = some (.cells #[.string u] 9)) (hV : W.heap[r]? = some (.cells #[.string v] 9)) (most : Nat) (hm : 1 ≤ most) :
    Calls Tryz.prog 11 #[.func (.func 26) #[] #[.pointer (some ⟨s, 0, none⟩), .pointer (some ⟨t, 0, none⟩), .pointer (some ⟨r, 0, none⟩)], .int .i64 most] W (Wayed (rangeL u v xs) most W) := by
  have hle : (rangeL u v xs).length ≤ xs.length := List.length_filter_le _ _
  refine ways_is (rangeL u v xs) 26 _ W (enters_of Tryz.func26 (by kernel_rfl) rfl) most hm fun V M hbV hM hway hown => ?_
  have hz := hbV.size
  have hMW := hway.ge
  have hl1 := lt_of_heap hU
  have hl2 := lt_of_heap hV
  have hF : FenZ V.heap.size (fun k => k = t ∨ k = r) (KpW M) (fun r X => M + 1 < X.heap.size ∧ r ≠ M + 1 ∧ ¬ (r = M + 3) ∧ ownOf (M + 1) X ≠ some r) := fenZ_OS (S := fun k => k = M + 3) (A := M + 1) (by omega) (fun k hk => by omega) (fun k hk => by omega)
  exact walkRange1_calls (h.on hbV) hn hr hsm s t r ((hbV.block _ (lt_of_heap hS)).trans hS) u v hu hv ((hbV.block _ (lt_of_heap hU)).trans hU) ((hbV.block _ (lt_of_heap hV)).trans hV) hF (fun X r hb hr => fresh_way hM hown X r hb (Nat.le_trans hb.size hr)) 33 _ (enters_of Tryz.func33 (by kernel_rfl) rfl)
    (fun pre X => WayS W M most false pre X ∧ pre.length < most) (fun pre X => WayS W M most true pre X ∧ pre.length = most) (OwnFrom.and (WayS.from (by omega)) (fun _ _ _ _ hs _ _ => hs)) (OwnFrom.and (WayS.from (by omega)) (fun _ _ _ _ hs _ _ => hs))
    (fun pre x X hJ hl => (ways1_is hJ.1 hJ.2 (by omega) x).mono fun e X' h => ⟨h.1 _ hM, h.2⟩) ⟨hway, by simp; omega⟩
end
end Go.Proofs.YthknenhcnpgkcaaGreat
