/- Texts of this proof, merged: Dl1, Dl2. -/
import Derived.Test.YthknenhcnpgkcaaGreatSh2
import Derived.Test.YthknenhcnpgkcaaGreatMp
import Derived.BigRegion
import Derived.IntWalk
/- Nodes side by side whose items and children have been shared out anew. -/
namespace Go.Proofs.YthknenhcnpgkcaaGreat
set_option linter.unusedVariables false
set_option linter.unusedSimpArgs false
open Go.RowKit
/-- Children M have become M': what is below them (K) is as it was; own, own': the blocks that are their own. -/
theorem Node.regroup {W W' : World} {p : Nat} {iv bv iv' bv' : Value} {its its' : List It} {L M M' R K : List Kid} {c own own' : Cnt} (h : Node W p iv bv its (L ++ (M ++ R)) c) (hlt : ∀ k, c k ≠ 0 → k < W.heap.size)
    (ho : ∀ k, sumC M k = own k + sumC K k) (ho' : ∀ k, sumC M' k = own' k + sumC K k)
    (h1 : ∀ k, k < W.heap.size → blk iv' k + (blk bv' k + own' k) ≤ blk iv k + (blk bv k + own k)) (h2 : ∀ k, W.heap.size ≤ k → blk iv' k + (blk bv' k + own' k) ≤ 1)
    (hch : Chg (fun k => blk iv k ≠ 0 ∨ blk bv k ≠ 0 ∨ own k ≠ 0 ∨ k = p) W W') (hp : W'.heap[p]? = some (.cells #[iv', bv'] 101))
    (hi : Row W' 59 2 iv' its'.length (flat its')) (hb : Row W' 92 1 bv' (L ++ (M' ++ R)).length (ptrs (L ++ (M' ++ R)))) :
    Node W' p iv' bv' its' (L ++ (M' ++ R)) (fun k => one p k + (blk iv' k + (blk bv' k + sumC (L ++ (M' ++ R)) k))) ∧ Upd W W' c (fun k => one p k + (blk iv' k + (blk bv' k + sumC (L ++ (M' ++ R)) k))) ∧
      ∀ k, sumC L k + (sumC K k + sumC R k) ≠ 0 → W'.heap[k]? = W.heap[k]? := by
  have hc : ∀ k, c k = one p k + (blk iv k + (blk bv k + (sumC L k + (own k + sumC K k + sumC R k)))) := fun k => by rw [h.cnt k, sumC_append, sumC_append, ho k]
  have hs : ∀ k, sumC (L ++ (M' ++ R)) k = sumC L k + (own' k + sumC K k + sumC R k) := fun k => by rw [sumC_append, sumC_append, ho' k]
  have hz : ∀ k, W.heap.size ≤ k → c k = 0 := fun k hk => by
    rcases Nat.eq_zero_or_pos (c k) with e | e
    · exact e
    · exact absurd (hlt k (by omega)) (by omega)
  have hpl := h.lt
  have hle : ∀ k, one p k + (blk iv' k + (blk bv' k + sumC (L ++ (M' ++ R)) k)) ≤ 1 := fun k => by
    have q1 := hc k; have q2 := h.le k; have q3 := hs k
    rcases Nat.lt_or_ge k W.heap.size with hk | hk
    · have := h1 k hk; omega
    · have := h2 k hk; have := hz k hk; omega
  refine ⟨⟨hp, hi, hb, fun k => rfl, hle⟩, ⟨hch.mono fun k hk hn => ?_, hle, fun k hk => ?_⟩, fun k hk => ?_⟩
  · have q1 := hc k
    rcases hn with e | e | e | e
    · omega
    · omega
    · omega
    · rw [e, one_self] at q1; rw [e]; omega
  · show one p k + _ ≤ _
    have q1 := hc k; have q3 := hs k; have := h1 k hk; omega
  · have q1 := hc k; have q2 := h.le k
    refine hch.block k (hlt k (by omega)) fun hn => ?_
    rcases hn with e | e | e | e
    · omega
    · omega
    · omega
    · rw [e, one_self] at q1; rw [e] at hk q2; omega
theorem take_snoc' {α : Type} {L : List α} {k : Nat} {x : α} (h : L[k]? = some x) : L.take (k + 1) = L.take k ++ [x] := by
  obtain ⟨hl, rfl⟩ := List.getElem?_eq_some_iff.1 h
  exact List.take_succ_eq_append_getElem hl
/-- The last item of a list. -/
theorem last_at {its : List It} {n : Nat} (h : its.length = n + 1) : ∃ A x, its = A ++ [x] ∧ A.length = n ∧ its[n]? = some x := by
  obtain ⟨x, hx⟩ : ∃ x, its[n]? = some x := ⟨_, List.getElem?_eq_getElem (by omega)⟩
  refine ⟨its.take n, x, ?_, by rw [List.length_take]; omega, hx⟩
  have := take_snoc' hx
  rw [List.take_of_length_le (by omega)] at this
  exact this
end Go.Proofs.YthknenhcnpgkcaaGreat

/- Contracts of package shelf: fromLeft. -/
namespace Go.Proofs.YthknenhcnpgkcaaGreat
set_option linter.unusedVariables false
set_option linter.unusedSimpArgs false
open Go.RowKit
/-- Block p is a node of n items. -/
structure Nd (W : World) (p : Nat) (iv bv : Value) (n : Nat) (its : List It) (m : Nat) (ks : List Kid) : Prop where
  heap : W.heap[p]? = some (.cells #[iv, bv] 101)
  items : Row W 59 2 iv n (flat its)
  below : Row W 92 1 bv m (ptrs ks)
  li : its.length = n
  lk : ks.length = m
theorem Node.nd {W : World} {p : Nat} {iv bv : Value} {its : List It} {kids : List Kid} {c : Cnt} (h : Node W p iv bv its kids c) : Nd W p iv bv its.length its kids.length kids := ⟨h.heap, h.items, h.below, rfl, rfl⟩
theorem Nd.keep {W W' : World} {p : Nat} {iv bv : Value} {n m : Nat} {its : List It} {ks : List Kid} (h : Nd W p iv bv n its m ks) (hp : W'.heap[p]? = W.heap[p]?) (hi : ∀ k, blk iv k ≠ 0 → W'.heap[k]? = W.heap[k]?) (hb : ∀ k, blk bv k ≠ 0 → W'.heap[k]? = W.heap[k]?) : Nd W' p iv bv n its m ks := ⟨hp.trans h.heap, h.items.keep hi, h.below.keep hb, h.li, h.lk⟩
theorem Nd.on {W W' : World} {p : Nat} {iv bv : Value} {n m : Nat} {its : List It} {ks : List Kid} (h : Nd W p iv bv n its m ks) (hb : Below W.heap.size W W') : Nd W' p iv bv n its m ks :=
  h.keep (hb.block p (lt_of_heap h.heap)) (fun k hk => hb.block k (h.items.lt hk)) (fun k hk => hb.block k (h.below.lt hk))
theorem Nd.chg {W W' : World} {p : Nat} {iv bv : Value} {n m : Nat} {its : List It} {ks : List Kid} {S : Nat → Prop} (h : Nd W p iv bv n its m ks) (hc : Chg S W W') (hs : ∀ k, one p k + (blk iv k + blk bv k) ≠ 0 → ¬ S k) : Nd W' p iv bv n its m ks :=
  h.keep (hc.block p (lt_of_heap h.heap) (hs p (by rw [one_self]; omega))) (fun k hk => hc.block k (h.items.lt hk) (hs k (by omega))) (fun k hk => hc.block k (h.below.lt hk) (hs k (by omega)))
theorem Nd.out {W : World} {p : Nat} {iv bv : Value} {n m : Nat} {its : List It} {ks : List Kid} (h : Nd W p iv bv n its m ks) {k : Nat} (hk : W.heap.size ≤ k) : one p k + (blk iv k + blk bv k) = 0 := by
  have hp := lt_of_heap h.heap
  have h1 : one p k = 0 := by unfold one; rw [if_neg (by omega)]
  rcases Nat.eq_zero_or_pos (blk iv k) with e | e
  · rcases Nat.eq_zero_or_pos (blk bv k) with e2 | e2
    · omega
    · have := h.below.lt (k := k) (by omega); omega
  · have := h.items.lt (k := k) (by omega); omega
/-- The cell of a child. -/
theorem kid_cell {W : World} {ao : Option Addr} {n c : Nat} {ks : List Kid} (h : Row W 92 1 (.slice ao n c) n (ptrs ks)) {i : Nat} {q : Kid} (hq : ks[i]? = some q) (hn : ks.length = n) : ∃ r, ao = some ⟨r, 0, none⟩ ∧ W.cell? ⟨r, i, none⟩ = some (.pointer (some ⟨q.p, 0, none⟩)) ∧ r < W.heap.size := by
  have hi : i < n := by rw [← hn]; exact (List.getElem?_eq_some_iff.1 hq).1
  obtain ⟨r, c', hv, _, hr⟩ := World.ownsRow.form h (by omega)
  obtain rfl : ao = some ⟨r, 0, none⟩ := by injection hv
  refine ⟨r, rfl, ?_, hr⟩
  rw [h.cellAt i (by omega)]
  simp [ptrs, hq, Kid.v]
theorem item_cell {W : World} {ao : Option Addr} {n c : Nat} {its : List It} (h : Row W 59 2 (.slice ao n c) n (flat its)) {i : Nat} {x : It} (hx : its[i]? = some x) (hn : its.length = n) : ∃ r, ao = some ⟨r, 0, none⟩ ∧ W.cell? ⟨r, i * 2, none⟩ = some (.string x.1) ∧ W.cell? ⟨r, i * 2 + 1, none⟩ = some (.string x.2) ∧ r < W.heap.size := by
  have hi : i < n := by rw [← hn]; exact (List.getElem?_eq_some_iff.1 hx).1
  obtain ⟨r, c', hv, _, hr⟩ := World.ownsRow.form h (by omega)
  obtain rfl : ao = some ⟨r, 0, none⟩ := by injection hv
  have hf := flat_at its i x hx
  refine ⟨r, rfl, ?_, ?_, hr⟩
  · rw [h.cellAt _ (by omega), ← hf.1]; congr 1; omega
  · rw [h.cellAt _ (by omega), ← hf.2]; congr 1; omega
theorem store_item2 {W : World} {r n c : Nat} {its : List It} (h : Row W 59 2 (.slice (some ⟨r, 0, none⟩) n c) n (flat its)) (hl : its.length = n) (i : Nat) (x : It) (hi : i < n) :
    ∃ cur, (W.setCell ⟨r, i * 2, none⟩ (.string x.1)).setCell ⟨r, i * 2 + 1, none⟩ (.string x.2) = put W r (.cells cur 59) ∧ Row (put W r (.cells cur 59)) 59 2 (.slice (some ⟨r, 0, none⟩) n c) n (flat (its.set i x)) := by
  obtain ⟨cur, hcap, hnc, hr, hcs, htk⟩ := row_open h
  have hrl := lt_of_heap hr
  refine ⟨(cur.setIfInBounds (i * 2) (.string x.1)).setIfInBounds (i * 2 + 1) (.string x.2), ?_, by rw [flat_length, List.length_set, hl], .inr ⟨r, c, _, rfl, Nat.zero_le _, heap_put_at _ _ _ hrl, hnc, hcap, by simp [hcs], ?_⟩⟩
  · rw [setCell_row hr, setCell_row (heap_put_at _ _ _ hrl), put_put]
  · rw [flat_set _ _ _ (by omega), ← htk, Nat.mul_comm 2 i]
    simp only [Array.toList_setIfInBounds, List.take_set]
theorem row_take {W : World} {e : TypeId} {size n c m : Nat} {ao : Option Addr} {xs : List Value} (h : Row W e size (.slice ao n c) n xs) (hm : m ≤ n) : Row W e size (.slice ao m c) m (xs.take (m * size)) := by
  have hms : m * size ≤ n * size := Nat.mul_le_mul_right _ hm
  refine ⟨by rw [List.length_take, h.1, Nat.min_eq_left hms], ?_⟩
  rcases h.2 with ⟨hv, h0⟩ | ⟨g, cap, cur, hv, hb, hg, h1, h2, h3, h4⟩
  · injection hv with e1 e2 e3
    subst e1 e2 e3
    obtain rfl : m = 0 := by omega
    exact .inl ⟨rfl, rfl⟩
  · injection hv with e1 e2 e3
    subst e1 e3
    refine .inr ⟨g, c, cur, rfl, hb, hg, by omega, h2, h3, ?_⟩
    rw [← h4, List.take_take, Nat.min_eq_left hms]
theorem insert_item0 (W : World) (v : Value) (n : Nat) (xs : List Value) (hi : Row W 59 2 v n xs) (hn : n ≤ 1000) (h1 : ∀ u ∈ xs, u.oneCell' = true) (a : Nat) (news : List Value) (hnl : news.length = 2) (hn1 : ∀ u ∈ news, u.oneCell' = true) (ha : W.heap[a]? = some (.cells news.toArray 59)) (hne : blk v a = 0) :
    Calls Tryz.prog 90 #[v, .int .i64 0, .slice (some ⟨a, 0, none⟩) 1 1] W fun en W' => ∃ v', en = .returned v' ∧ Row W' 59 2 v' (n + 1) (news ++ xs) ∧ Chg (fun k => blk v k ≠ 0) W W' ∧ (∀ k, k < W.heap.size → blk v' k ≤ blk v k) := by
  have := insert_item W v n xs hi hn h1 0 (Nat.zero_le _) a news hnl hn1 ha hne
  simpa using this
theorem insert_ptr0 (W : World) (v : Value) (n : Nat) (xs : List Value) (hi : Row W 92 1 v n xs) (hn : n ≤ 1000) (h1 : ∀ u ∈ xs, u.oneCell' = true) (a : Nat) (news : List Value) (hnl : news.length = 1) (hn1 : ∀ u ∈ news, u.oneCell' = true) (ha : W.heap[a]? = some (.cells news.toArray 92)) (hne : blk v a = 0) :
    Calls Tryz.prog 91 #[v, .int .i64 0, .slice (some ⟨a, 0, none⟩) 1 1] W fun en W' => ∃ v', en = .returned v' ∧ Row W' 92 1 v' (n + 1) (news ++ xs) ∧ Chg (fun k => blk v k ≠ 0) W W' ∧ (∀ k, k < W.heap.size → blk v' k ≤ blk v k) := by
  have := insert_ptr W v n xs hi hn h1 0 (Nat.zero_le _) a news hnl hn1 ha hne
  simpa using this
/-- Two neighbours, and the item between them, have been shared out anew: they hold A and B now, their children are ka and kb. -/
def Moved (W W' : World) (p pa pb : Nat) (iv bv ia ba ib bb : Value) (n : Nat) (its' : List It) (nk : Nat) (ks : List Kid) (A B : List It) (ka kb : List Kid) : Prop :=
  ∃ ia' ba' ib' bb' na' nb' ma' mb', Nd W' p iv bv n its' nk ks ∧ Nd W' pa ia' ba' na' A ma' ka ∧ Nd W' pb ib' bb' nb' B mb' kb ∧
    Chg (fun k => blk iv k + (one pa k + (blk ia k + (blk ba k + (one pb k + (blk ib k + blk bb k))))) ≠ 0) W W' ∧ (∀ k, one p k + (blk iv k + (blk bv k + (one pa k + (blk ia' k + (blk ba' k + (one pb k + (blk ib' k + blk bb' k))))))) ≤ 1) ∧
    ∀ k, k < W.heap.size → blk ia' k + (blk ba' k + (blk ib' k + blk bb' k)) ≤ blk ia k + (blk ba k + (blk ib k + blk bb k))
end Go.Proofs.YthknenhcnpgkcaaGreat
