/- Texts of this proof, merged: Dl1, Dl2, Dl3. -/
import Derived.Test.YthknenhcnpgkcaaSh2
import Derived.Test.YthknenhcnpgkcaaMp
import Derived.BigRegion
import Derived.IntWalk
import Derived.Test.YthknenhcnpgkcaaMh
import Derived.Deep.RegionLaw
import Derived.Deep.AppendLies
/- Nodes side by side whose items and children have been shared out anew. -/
namespace Go.Proofs.Ythknenhcnpgkcaa
set_option linter.unusedVariables false
set_option linter.unusedSimpArgs false
open Go.RowKit
/-- Children M have become M': what is below them (K) is as it was; own, own': the blocks that are their own. -/
theorem Node.regroup {W W' : World} {p : Nat} {iv bv iv' bv' : Value} {its its' : List It} {L M M' R K : List Kid} {c own own' : Cnt} (h : Node W p iv bv its (L ++ (M ++ R)) c) (hlt : ∀ k, c k ≠ 0 → k < W.heap.size)
    (ho : ∀ k, sumC M k = own k + sumC K k) (ho' : ∀ k, sumC M' k = own' k + sumC K k)
    (h1 : ∀ k, k < W.heap.size → blk iv' k + (blk bv' k + own' k) ≤ blk iv k + (blk bv k + own k)) (h2 : ∀ k, W.heap.size ≤ k → blk iv' k + (blk bv' k + own' k) ≤ 1)
    (hch : Chg (fun k => blk iv k ≠ 0 ∨ blk bv k ≠ 0 ∨ own k ≠ 0 ∨ k = p) W W') (hp : W'.heap[p]? = some (.cells #[iv', bv'] 118))
    (hi : Row W' 34 2 iv' its'.length (flat its')) (hb : Row W' 110 1 bv' (L ++ (M' ++ R)).length (ptrs (L ++ (M' ++ R)))) :
    Node W' p iv' bv' its' (L ++ (M' ++ R)) (fun k => one p k + (blk iv' k + (blk bv' k + sumC (L ++ (M' ++ R)) k))) ∧ Upd W W' c (fun k => one p k + (blk iv' k + (blk bv' k + sumC (L ++ (M' ++ R)) k))) ∧
      ∀ k, sumC L k + (sumC K k + sumC R k) ≠ 0 → W'.heap[k]? = W.heap[k]? := by
  have hc : ∀ k, c k = one p k + (blk iv k + (blk bv k + (sumC L k + (own k + sumC K k + sumC R k)))) := fun k => by rw [h.cnt k, sumC_append, sumC_append, ho k]
  have hs : ∀ k, sumC (L ++ (M' ++ R)) k = sumC L k + (own' k + sumC K k + sumC R k) := fun k => by rw [sumC_append, sumC_append, ho' k]
  have hz : ∀ k, W.heap.size ≤ k → c k = 0 := fun k hk => by
    rcases Nat.eq_zero_or_pos (c k) with e | e
    · exact e
    · exact absurd (hlt k (by omega)) (by omega)
  have hpl := h.lt
  have hle : ∀ k, one p k + (blk iv' k + (blk bv' k + sumC (L ++ (M' ++ R)) k)) ≤ 1 := fun k => by
    have q1 := hc k; have q2 := h.le k; have q3 := hs k
    rcases Nat.lt_or_ge k W.heap.size with hk | hk
    · have := h1 k hk; omega
    · have := h2 k hk; have := hz k hk; omega
  refine ⟨⟨hp, hi, hb, fun k => rfl, hle⟩, ⟨hch.mono fun k hk hn => ?_, hle, fun k hk => ?_⟩, fun k hk => ?_⟩
  · have q1 := hc k
    rcases hn with e | e | e | e
    · omega
    · omega
    · omega
    · rw [e, one_self] at q1; rw [e]; omega
  · show one p k + _ ≤ _
    have q1 := hc k; have q3 := hs k; have := h1 k hk; omega
  · have q1 := hc k; have q2 := h.le k
    refine hch.block k (hlt k (by omega)) fun hn => ?_
    rcases hn with e | e | e | e
    · omega
    · omega
    · omega
    · rw [e, one_self] at q1; rw [e] at hk q2; omega
theorem take_snoc' {α : Type} {L : List α} {k : Nat} {x : α} (h : L[k]? = some x) : L.take (k + 1) = L.take k ++ [x] := by
  obtain ⟨hl, rfl⟩ := List.getElem?_eq_some_iff.1 h
  exact List.take_succ_eq_append_getElem hl
/-- The last item of a list. -/
theorem last_at {its : List It} {n : Nat} (h : its.length = n + 1) : ∃ A x, its = A ++ [x] ∧ A.length = n ∧ its[n]? = some x := by
  obtain ⟨x, hx⟩ : ∃ x, its[n]? = some x := ⟨_, List.getElem?_eq_getElem (by omega)⟩
  refine ⟨its.take n, x, ?_, by rw [List.length_take]; omega, hx⟩
  have := take_snoc' hx
  rw [List.take_of_length_le (by omega)] at this
  exact this
end Go.Proofs.Ythknenhcnpgkcaa

/- Contracts of package shelf: fromLeft. -/
namespace Go.Proofs.Ythknenhcnpgkcaa
set_option linter.unusedVariables false
set_option linter.unusedSimpArgs false
open Go.RowKit
/-- Block p is a node of n items. -/
structure Nd (W : World) (p : Nat) (iv bv : Value) (n : Nat) (its : List It) (m : Nat) (ks : List Kid) : Prop where
  heap : W.heap[p]? = some (.cells #[iv, bv] 118)
  items : Row W 34 2 iv n (flat its)
  below : Row W 110 1 bv m (ptrs ks)
  li : its.length = n
  lk : ks.length = m
theorem Node.nd {W : World} {p : Nat} {iv bv : Value} {its : List It} {kids : List Kid} {c : Cnt} (h : Node W p iv bv its kids c) : Nd W p iv bv its.length its kids.length kids := ⟨h.heap, h.items, h.below, rfl, rfl⟩
theorem Nd.keep {W W' : World} {p : Nat} {iv bv : Value} {n m : Nat} {its : List It} {ks : List Kid} (h : Nd W p iv bv n its m ks) (hp : W'.heap[p]? = W.heap[p]?) (hi : ∀ k, blk iv k ≠ 0 → W'.heap[k]? = W.heap[k]?) (hb : ∀ k, blk bv k ≠ 0 → W'.heap[k]? = W.heap[k]?) : Nd W' p iv bv n its m ks := ⟨hp.trans h.heap, h.items.keep hi, h.below.keep hb, h.li, h.lk⟩
theorem Nd.on {W W' : World} {p : Nat} {iv bv : Value} {n m : Nat} {its : List It} {ks : List Kid} (h : Nd W p iv bv n its m ks) (hb : Below W.heap.size W W') : Nd W' p iv bv n its m ks :=
  h.keep (hb.block p (lt_of_heap h.heap)) (fun k hk => hb.block k (h.items.lt hk)) (fun k hk => hb.block k (h.below.lt hk))
theorem Nd.chg {W W' : World} {p : Nat} {iv bv : Value} {n m : Nat} {its : List It} {ks : List Kid} {S : Nat → Prop} (h : Nd W p iv bv n its m ks) (hc : Chg S W W') (hs : ∀ k, one p k + (blk iv k + blk bv k) ≠ 0 → ¬ S k) : Nd W' p iv bv n its m ks :=
  h.keep (hc.block p (lt_of_heap h.heap) (hs p (by rw [one_self]; omega))) (fun k hk => hc.block k (h.items.lt hk) (hs k (by omega))) (fun k hk => hc.block k (h.below.lt hk) (hs k (by omega)))
theorem Nd.out {W : World} {p : Nat} {iv bv : Value} {n m : Nat} {its : List It} {ks : List Kid} (h : Nd W p iv bv n its m ks) {k : Nat} (hk : W.heap.size ≤ k) : one p k + (blk iv k + blk bv k) = 0 := by
  have hp := lt_of_heap h.heap
  have h1 : one p k = 0 := by unfold one; rw [if_neg (by omega)]
  rcases Nat.eq_zero_or_pos (blk iv k) with e | e
  · rcases Nat.eq_zero_or_pos (blk bv k) with e2 | e2
    · omega
    · have := h.below.lt (k := k) (by omega); omega
  · have := h.items.lt (k := k) (by omega); omega
/-- The cell of a child. -/
theorem kid_cell {W : World} {ao : Option Addr} {n c : Nat} {ks : List Kid} (h : Row W 110 1 (.slice ao n c) n (ptrs ks)) {i : Nat} {q : Kid} (hq : ks[i]? = some q) (hn : ks.length = n) : ∃ r, ao = some ⟨r, 0, none⟩ ∧ W.cell? ⟨r, i, none⟩ = some (.pointer (some ⟨q.p, 0, none⟩)) ∧ r < W.heap.size := by
  have hi : i < n := by rw [← hn]; exact (List.getElem?_eq_some_iff.1 hq).1
  obtain ⟨r, c', hv, _, hr⟩ := World.ownsRow.form h (by omega)
  obtain rfl : ao = some ⟨r, 0, none⟩ := by injection hv
  refine ⟨r, rfl, ?_, hr⟩
  rw [h.cellAt i (by omega)]
  simp [ptrs, hq, Kid.v]
theorem item_cell {W : World} {ao : Option Addr} {n c : Nat} {its : List It} (h : Row W 34 2 (.slice ao n c) n (flat its)) {i : Nat} {x : It} (hx : its[i]? = some x) (hn : its.length = n) : ∃ r, ao = some ⟨r, 0, none⟩ ∧ W.cell? ⟨r, i * 2, none⟩ = some (.string x.1) ∧ W.cell? ⟨r, i * 2 + 1, none⟩ = some (.string x.2) ∧ r < W.heap.size := by
  have hi : i < n := by rw [← hn]; exact (List.getElem?_eq_some_iff.1 hx).1
  obtain ⟨r, c', hv, _, hr⟩ := World.ownsRow.form h (by omega)
  obtain rfl : ao = some ⟨r, 0, none⟩ := by injection hv
  have hf := flat_at its i x hx
  refine ⟨r, rfl, ?_, ?_, hr⟩
  · rw [h.cellAt _ (by omega), ← hf.1]; congr 1; omega
  · rw [h.cellAt _ (by omega), ← hf.2]; congr 1; omega
theorem store_item2 {W : World} {r n c : Nat} {its : List It} (h : Row W 34 2 (.slice (some ⟨r, 0, none⟩) n c) n (flat its)) (hl : its.length = n) (i : Nat) (x : It) (hi : i < n) :
    ∃ cur, (W.setCell ⟨r, i * 2, none⟩ (.string x.1)).setCell ⟨r, i * 2 + 1, none⟩ (.string x.2) = put W r (.cells cur 34) ∧ Row (put W r (.cells cur 34)) 34 2 (.slice (some ⟨r, 0, none⟩) n c) n (flat (its.set i x)) := by
  obtain ⟨cur, hcap, hnc, hr, hcs, htk⟩ := row_open h
  have hrl := lt_of_heap hr
  refine ⟨(cur.setIfInBounds (i * 2) (.string x.1)).setIfInBounds (i * 2 + 1) (.string x.2), ?_, by rw [flat_length, List.length_set, hl], .inr ⟨r, c, _, rfl, Nat.zero_le _, heap_put_at _ _ _ hrl, hnc, hcap, by simp [hcs], ?_⟩⟩
  · rw [setCell_row hr, setCell_row (heap_put_at _ _ _ hrl), put_put]
  · rw [flat_set _ _ _ (by omega), ← htk, Nat.mul_comm 2 i]
    simp only [Array.toList_setIfInBounds, List.take_set]
theorem row_take {W : World} {e : TypeId} {size n c m : Nat} {ao : Option Addr} {xs : List Value} (h : Row W e size (.slice ao n c) n xs) (hm : m ≤ n) : Row W e size (.slice ao m c) m (xs.take (m * size)) := by
  have hms : m * size ≤ n * size := Nat.mul_le_mul_right _ hm
  refine ⟨by rw [List.length_take, h.1, Nat.min_eq_left hms], ?_⟩
  rcases h.2 with ⟨hv, h0⟩ | ⟨g, cap, cur, hv, hb, hg, h1, h2, h3, h4⟩
  · injection hv with e1 e2 e3
    subst e1 e2 e3
    obtain rfl : m = 0 := by omega
    exact .inl ⟨rfl, rfl⟩
  · injection hv with e1 e2 e3
    subst e1 e3
    refine .inr ⟨g, c, cur, rfl, hb, hg, by omega, h2, h3, ?_⟩
    rw [← h4, List.take_take, Nat.min_eq_left hms]
theorem insert_item0 (W : World) (v : Value) (n : Nat) (xs : List Value) (hi : Row W 34 2 v n xs) (hn : n ≤ 1000) (h1 : ∀ u ∈ xs, u.oneCell' = true) (a : Nat) (news : List Value) (hnl : news.length = 2) (hn1 : ∀ u ∈ news, u.oneCell' = true) (ha : W.heap[a]? = some (.cells news.toArray 34)) (hne : blk v a = 0) :
    Calls Try.prog 117 #[v, .int .i64 0, .slice (some ⟨a, 0, none⟩) 1 1] W fun en W' => ∃ v', en = .returned v' ∧ Row W' 34 2 v' (n + 1) (news ++ xs) ∧ Chg (fun k => blk v k ≠ 0) W W' ∧ (∀ k, k < W.heap.size → blk v' k ≤ blk v k) := by
  have := insert_item W v n xs hi hn h1 0 (Nat.zero_le _) a news hnl hn1 ha hne
  simpa using this
theorem insert_ptr0 (W : World) (v : Value) (n : Nat) (xs : List Value) (hi : Row W 110 1 v n xs) (hn : n ≤ 1000) (h1 : ∀ u ∈ xs, u.oneCell' = true) (a : Nat) (news : List Value) (hnl : news.length = 1) (hn1 : ∀ u ∈ news, u.oneCell' = true) (ha : W.heap[a]? = some (.cells news.toArray 110)) (hne : blk v a = 0) :
    Calls Try.prog 118 #[v, .int .i64 0, .slice (some ⟨a, 0, none⟩) 1 1] W fun en W' => ∃ v', en = .returned v' ∧ Row W' 110 1 v' (n + 1) (news ++ xs) ∧ Chg (fun k => blk v k ≠ 0) W W' ∧ (∀ k, k < W.heap.size → blk v' k ≤ blk v k) := by
  have := insert_ptr W v n xs hi hn h1 0 (Nat.zero_le _) a news hnl hn1 ha hne
  simpa using this
/-- Two neighbours, and the item between them, have been shared out anew: they hold A and B now, their children are ka and kb. -/
def Moved (W W' : World) (p pa pb : Nat) (iv bv ia ba ib bb : Value) (n : Nat) (its' : List It) (nk : Nat) (ks : List Kid) (A B : List It) (ka kb : List Kid) : Prop :=
  ∃ ia' ba' ib' bb' na' nb' ma' mb', Nd W' p iv bv n its' nk ks ∧ Nd W' pa ia' ba' na' A ma' ka ∧ Nd W' pb ib' bb' nb' B mb' kb ∧
    Chg (fun k => blk iv k + (one pa k + (blk ia k + (blk ba k + (one pb k + (blk ib k + blk bb k))))) ≠ 0) W W' ∧ (∀ k, one p k + (blk iv k + (blk bv k + (one pa k + (blk ia' k + (blk ba' k + (one pb k + (blk ib' k + blk bb' k))))))) ≤ 1) ∧
    ∀ k, k < W.heap.size → blk ia' k + (blk ba' k + (blk ib' k + blk bb' k)) ≤ blk ia k + (blk ba k + (blk ib k + blk bb k))
set_option maxRecDepth 100000 in
set_option maxHeartbeats 4000000 in
theorem fromLeft_is (W : World) (p pa pb : Nat) (iv bv ia ba ib bb : Value) (its la lb : List It) (ks ak bk : List Kid) (n na nb nk ma mb : Nat) (hP : Nd W p iv bv n its nk ks) (hA : Nd W pa ia ba (na + 1) la ma ak) (hB : Nd W pb ib bb nb lb mb bk)
    (h1 : ∀ k, one p k + (blk iv k + (blk bv k + (one pa k + (blk ia k + (blk ba k + (one pb k + (blk ib k + blk bb k))))))) ≤ 1)
    (i : Nat) (qa qb : Kid) (hqa : ks[i]? = some qa) (hqb : ks[i + 1]? = some qb) (hpa : qa.p = pa) (hpb : qb.p = pb) (y : It) (hy : its[i]? = some y) (A : List It) (x : It) (hx : la = A ++ [x]) (hni : n ≤ 50) (hna : na ≤ 50) (hnb : nb ≤ 50) (hnk : nk ≤ 50) (hma : ma ≤ 50) (hmb : mb ≤ 50) (lf : Bool) (hlf : ((ma : Int) == 0) = lf) (ka kb : List Kid) (hak : if lf then ak = [] ∧ ka = [] ∧ kb = bk else ∃ z, ak = ka ++ [z] ∧ kb = z :: bk ∧ ka.length = na + 1) :
    Calls Try.prog 142 #[.pointer (some ⟨p, 0, none⟩), .int .i64 ((i : Int) + 1)] W fun e W' => e = .returned (.tuple #[]) ∧ Moved W W' p pa pb iv bv ia ba ib bb n (its.set i x) nk ks A (y :: lb) ka kb := by
  obtain ⟨io, ic, rfl⟩ := owns_slice hP.items
  obtain ⟨bo, bc, rfl⟩ := owns_slice hP.below
  obtain ⟨ao, ac, rfl⟩ := owns_slice hA.items
  obtain ⟨ro, rc, rfl⟩ := owns_slice hA.below
  obtain ⟨vo, vc, rfl⟩ := owns_slice hB.items
  obtain ⟨uo, uc, rfl⟩ := owns_slice hB.below
  have hin : i < n := by rw [← hP.li]; exact (List.getElem?_eq_some_iff.1 hy).1
  have hik : i + 1 < nk := by rw [← hP.lk]; exact (List.getElem?_eq_some_iff.1 hqb).1
  obtain ⟨rk, rfl, c1, l1⟩ := kid_cell hP.below hqa hP.lk
  obtain ⟨rk2, hrk, c2, l2⟩ := kid_cell hP.below hqb hP.lk
  obtain rfl : rk2 = rk := by injection hrk with h; injection h with h; exact h.symm
  rw [hpa] at c1
  rw [hpb] at c2
  have g1 := fun i => cell_of_row W p i _ _ (0, 0) hP.heap
  have m1 := lt_of_heap hP.heap
  have ei : IntKind.i64.wrap ((i : Int) + 1 - 1) = (i : Int) := by rw [show (i : Int) + 1 - 1 = (i : Int) by omega]; exact IntWalk.i64_in _ (by omega)
  have ej : IntKind.i64.wrap (i : Int) = (i : Int) := IntWalk.i64_in _ (by omega)
  have hikI : (i : Int) < (nk : Int) := by omega
  have hikJ : (i : Int) + 1 < (nk : Int) := by omega
  have HLF := hid hlf
  have HAK := hid hak
  clear hlf hak
  have HP := hid hP
  have HA := hid hA
  have HB := hid hB
  have H1 := hid h1
  clear hP hA hB h1
  go_enter Try.func142, Try.ntmps142
  go_wp2_with fail
  go_region
  have hb1 : Below W.heap.size W W.drew := (Below.refl _ _).drew
  generalize W.drew = W1 at hb1 ⊢
  have HP1 := hid (HP.out.on hb1)
  have HA1 := hid (HA.out.on hb1)
  have HB1 := hid (HB.out.on hb1)
  have HBL := hid hb1
  have gA := fun i => cell_of_row W1 pa i _ _ (0, 0) HA1.out.heap
  have mA := lt_of_heap HA1.out.heap
  have gB := fun i => cell_of_row W1 pb i _ _ (0, 0) HB1.out.heap
  have mB := lt_of_heap HB1.out.heap
  have gP := fun i => cell_of_row W1 p i _ _ (0, 0) HP1.out.heap
  have mP := lt_of_heap HP1.out.heap
  obtain ⟨ri, rfl, y1, y2, ly⟩ := item_cell HP1.out.items hy HP.out.li
  have en : IntKind.i64.wrap (((na + 1 : Nat) : Int) - 1) = (na : Int) := by rw [show ((na + 1 : Nat) : Int) - 1 = (na : Int) by omega]; exact IntWalk.i64_in _ (by omega)
  have hiI : (i : Int) < (n : Int) := by omega
  have hBpb : blk (.slice vo nb vc) pb = 0 := by have := H1.out pb; rw [one_self] at this; omega
  have HF := hid (show ∀ a, W1.heap.size ≤ a → blk (.slice vo nb vc) a = 0 from fun a ha => by
    rcases Nat.eq_zero_or_pos (blk (.slice vo nb vc) a) with e | e
    · exact e
    · have := HB1.out.items.lt (k := a) (by omega); omega)
  clear hb1 c1 c2 l1 l2 g1 m1
  have hB1p := HB1.out.heap
  go_upto_region 2 with fail
  go_cut [] (fun wc => ∃ b5 c5, wc.heap[pb]? = some (.cells #[.slice b5 (nb + 1) c5, .slice uo mb uc] 118) ∧ Row wc 34 2 (.slice b5 (nb + 1) c5) (nb + 1) (flat (y :: lb)) ∧ Chg (fun k => blk (.slice vo nb vc) k ≠ 0 ∨ k = pb) W1 wc ∧ ∀ k, k < W1.heap.size → blk (.slice b5 (nb + 1) c5) k ≤ blk (.slice vo nb vc) k)
  case first =>
    go_region_with (go_at_call 117; go_must (((with_reducible refine (insert_item0 _ _ nb _ (HB1.out.on (by repeat' (first | exact Below.refl _ _ | with_reducible assumption | omega | with_reducible refine below_put_fut ?_ ?_ _ | with_reducible refine below_to_put ?_ | with_reducible refine Below.alloc ?_ ?_ _ | with_reducible refine Below.fut ?_ ?_ _ | with_reducible refine Below.drew ?_ | with_reducible refine Below.setCell ?_ ?_ _ | with_reducible refine Below.atPut ?_ ?_ _ | (simp [go_sem]; done) | (simp [go_sem]; omega)))).items (by omega) (flat_one _) _ [.string y.1, .string y.2] rfl (by simp [Value.oneCell']) (by repeat' (first | rfl | assumption | (with_reducible refine (heap_drew_eq _ _).trans ?_) | (refine (Fut.heap _ _ ?_).trans ?_ ; focus (first | assumption | omega | (simp [go_sem]; done) | (simp [go_sem]; omega))) | (refine (heap_put_at _ _ _ ?_).trans ?_ ; focus (first | assumption | omega | (simp [go_sem]; done) | (simp [go_sem]; omega))) | (refine (heap_put_other _ _ _ _ ?_).trans ?_ ; focus (first | assumption | omega | (simp [go_sem]; done) | (simp [go_sem]; omega))) | (refine (heap_alloc_other _ _ _ ?_).trans ?_ ; focus (first | assumption | omega | (simp [go_sem]; done) | (simp [go_sem]; omega))) | (refine (heap_alloc_at _ _ _ ?_).trans ?_ ; focus (first | assumption | omega | (simp [go_sem]; done) | (simp [go_sem]; omega))) | (simp [go_sem]; done) | (simp [go_sem]; omega))) (HF.out _ (by simp))).mono ?_)); rintro _ W5 ⟨v5, rfl, hr5, hch5, ho5⟩; have hp5 := (hch5.block pb (by first | assumption | (simp [go_sem]; done) | (simp [go_sem]; omega)) (by rw [hBpb]; simp)).trans (show _ = some (.cells #[.slice vo nb vc, .slice uo mb uc] 118) from (by repeat' (first | rfl | assumption | (with_reducible refine (heap_drew_eq _ _).trans ?_) | (refine (Fut.heap _ _ ?_).trans ?_ ; focus (first | assumption | omega | (simp [go_sem]; done) | (simp [go_sem]; omega))) | (refine (heap_put_at _ _ _ ?_).trans ?_ ; focus (first | assumption | omega | (simp [go_sem]; done) | (simp [go_sem]; omega))) | (refine (heap_put_other _ _ _ _ ?_).trans ?_ ; focus (first | assumption | omega | (simp [go_sem]; done) | (simp [go_sem]; omega))) | (refine (heap_alloc_other _ _ _ ?_).trans ?_ ; focus (first | assumption | omega | (simp [go_sem]; done) | (simp [go_sem]; omega))) | (refine (heap_alloc_at _ _ _ ?_).trans ?_ ; focus (first | assumption | omega | (simp [go_sem]; done) | (simp [go_sem]; omega))) | (simp [go_sem]; done) | (simp [go_sem]; omega)))); have hl5 := lt_of_heap hp5; have HC5 := hid (show Chg (fun k => blk (.slice vo nb vc) k ≠ 0) W1 W5 from (Chg.of_below (by repeat' (first | exact Below.refl _ _ | with_reducible assumption | omega | with_reducible refine below_put_fut ?_ ?_ _ | with_reducible refine below_to_put ?_ | with_reducible refine Below.alloc ?_ ?_ _ | with_reducible refine Below.fut ?_ ?_ _ | with_reducible refine Below.drew ?_ | with_reducible refine Below.setCell ?_ ?_ _ | with_reducible refine Below.atPut ?_ ?_ _ | (simp [go_sem]; done) | (simp [go_sem]; omega)))).trans hch5 (fun _ _ h => h)); have HO5 := hid (show ∀ k, k < W1.heap.size → blk v5 k ≤ blk (.slice vo nb vc) k from fun k hk => ho5 k (Nat.lt_of_lt_of_le hk (by first | assumption | (simp [go_sem]; done) | (simp [go_sem]; omega)))); obtain ⟨a5, c5, rfl⟩ := owns_slice hr5; have HR5 := hid hr5; clear hch5 ho5 hr5; rw [← put_self hp5]))
    all_goals
      go_wp2_with fail
      go_meet
      refine ⟨_, _, heap_put_at _ _ _ hl5, HR5.out.keep (fun k hk => heap_put_other _ _ _ _ fun e => ?_), (HC5.out.mono fun k _ h => .inl h).put (fun _ => .inr rfl) _, HO5.out⟩
      have := HO5.out pb mB
      subst e
      omega
  case rest =>
    obtain ⟨b5, c5, hp5, hr5, hc5, ho5⟩ := hcut
    have hPc := HP1.out.chg hc5 fun k hk hS => by
      have := H1.out k
      rcases hS with e | rfl
      · omega
      · rw [one_self] at this; omega
    have hAc := HA1.out.chg hc5 fun k hk hS => by
      have := H1.out k
      rcases hS with e | rfl
      · omega
      · rw [one_self] at this; omega
    have hBc : Nd wc pb (.slice b5 (nb + 1) c5) (.slice uo mb uc) (nb + 1) (y :: lb) mb bk := ⟨hp5, hr5, HB1.out.below.chg hc5 fun k hk hS => by
      have := H1.out k
      rcases hS with e | rfl
      · omega
      · rw [one_self] at this; omega, by have := HB.out.li; simp [this], HB.out.lk⟩
    have h1c : ∀ k, one p k + (blk (.slice (some ⟨ri, 0, none⟩) n ic) k + (blk (.slice (some ⟨rk2, 0, none⟩) nk bc) k + (one pa k + (blk (.slice ao (na + 1) ac) k + (blk (.slice ro ma rc) k + (one pb k + (blk (.slice b5 (nb + 1) c5) k + blk (.slice uo mb uc) k))))))) ≤ 1 := fun k => by
      rcases Nat.lt_or_ge k W1.heap.size with hk | hk
      · have := H1.out k; have := ho5 k hk; omega
      · have := HP1.out.out hk; have := HA1.out.out hk; have := HB1.out.out hk; have := blk_le (.slice b5 (nb + 1) c5) k; omega
    have HPc := hid hPc
    have HAc := hid hAc
    have HBc := hid hBc
    have H1c := hid h1c
    have HC5 := hid hc5
    have HO5 := hid ho5
    clear hp5 hr5 hc5 ho5 gA gB gP y1 y2 ly mA mB mP hB1p hPc hAc hBc h1c
    have gA := fun i => cell_of_row wc pa i _ _ (0, 0) HAc.out.heap
    have mA := lt_of_heap HAc.out.heap
    have gP := fun i => cell_of_row wc p i _ _ (0, 0) HPc.out.heap
    have mP := lt_of_heap HPc.out.heap
    obtain ⟨ri2, hri2, y1, y2, ly⟩ := item_cell HPc.out.items hy HP.out.li
    obtain rfl : ri2 = ri := by injection hri2 with h; injection h with h; exact h.symm
    have hAl : A.length = na := by have := HA.out.li; rw [hx] at this; simp at this; exact this
    obtain ⟨ra, rfl, x1, x2, lx⟩ := item_cell HAc.out.items (i := na) (x := x) (by rw [hx, ← hAl]; simp) HA.out.li
    have HAl := hid hAl
    have hfr := fun j => World.ownsRow.frozenAt HPc.out.items j
    clear hAl hri2
    have hnaI : (na : Int) < ((na + 1 : Nat) : Int) := by omega
    go_wp2_with fail
    go_region
    obtain ⟨cur, ecur, hrow⟩ := store_item2 HPc.out.items HP.out.li i x hin
    rw [ecur]
    have hcd : Chg (fun k => blk (.slice (some ⟨ri2, 0, none⟩) n ic) k ≠ 0) wc (put wc ri2 (.cells cur 34)).drew := ((Chg.refl _ _).put (fun _ => by show blk _ _ ≠ 0; rw [blk_at (s := none), one_self]; omega) _).drew
    have hPd : Nd (put wc ri2 (.cells cur 34)).drew p (.slice (some ⟨ri2, 0, none⟩) n ic) (.slice (some ⟨rk2, 0, none⟩) nk bc) n (its.set i x) nk ks := ⟨(hcd.block p mP (by have := H1c.out p; rw [one_self] at this; omega)).trans HPc.out.heap, hrow, HPc.out.below.chg hcd (fun k hk hS => by have := H1c.out k; omega), by rw [List.length_set]; exact HP.out.li, HP.out.lk⟩
    have hAd := HAc.out.chg hcd (fun k hk hS => by have := H1c.out k; omega)
    have hBd := HBc.out.chg hcd (fun k hk hS => by have := H1c.out k; omega)
    obtain ⟨wd, hwd⟩ : ∃ wd, wd = (put wc ri2 (.cells cur 34)).drew := ⟨_, rfl⟩
    rw [← hwd] at hcd hPd hAd hBd ⊢
    have HPd := hid hPd
    have HAd := hid hAd
    have HBd := hid hBd
    have HCd := hid hcd
    clear hcd hPd hAd hBd hwd ecur hrow gA mA gP mP y1 y2 ly x1 x2 lx hfr
    have gA := fun i => cell_of_row wd pa i _ _ (0, 0) HAd.out.heap
    have mA := lt_of_heap HAd.out.heap
    obtain ⟨hac1, hac2⟩ : na ≤ ac ∧ ac ≤ maxLen := by
      obtain ⟨_, q1, q2, _⟩ := row_open HAd.out.items
      exact ⟨by omega, q1⟩
    rw [← put_self HAd.out.heap]
    go_wp2_with fail
    have hce : Chg (fun k => k = pa) wd (put wd pa (.cells #[.slice (some ⟨ra, 0, none⟩) na ac, .slice ro ma rc] 118)) := (Chg.refl (fun k => k = pa) wd).put (fun _ => rfl) _
    have hPe := HPd.out.chg hce (fun k hk hS => by have := H1c.out k; subst hS; rw [one_self] at this; omega)
    have hBe := HBd.out.chg hce (fun k hk hS => by have := H1c.out k; subst hS; rw [one_self] at this; omega)
    have hAe : Nd (put wd pa (.cells #[.slice (some ⟨ra, 0, none⟩) na ac, .slice ro ma rc] 118)) pa (.slice (some ⟨ra, 0, none⟩) na ac) (.slice ro ma rc) na A ma ak := by
      have h1 := row_take (HAd.out.items.chg hce (fun k hk hS => by have := H1c.out k; subst hS; rw [one_self] at this; omega)) (m := na) (by omega)
      rw [hx, flat_append, ← HAl.out, List.take_left' (by rw [flat_length])] at h1
      exact ⟨heap_put_at _ _ _ mA, by rw [← HAl.out]; exact h1, HAd.out.below.chg hce (fun k hk hS => by have := H1c.out k; subst hS; rw [one_self] at this; omega), HAl.out, HA.out.lk⟩
    obtain ⟨we, hwe⟩ : ∃ we, we = put wd pa (.cells #[.slice (some ⟨ra, 0, none⟩) na ac, .slice ro ma rc] 118) := ⟨_, rfl⟩
    rw [← hwe] at hce hPe hAe hBe ⊢
    have HPe := hid hPe
    have HAe := hid hAe
    have HBe := hid hBe
    have HCe := hid (show Chg (fun k => blk (.slice (some ⟨ri2, 0, none⟩) n ic) k ≠ 0 ∨ k = pa ∨ blk (.slice vo nb vc) k ≠ 0 ∨ k = pb) W1 we from (HC5.out.mono fun k _ h => h.elim (fun h => .inr (.inr (.inl h))) (fun h => .inr (.inr (.inr h)))).trans ((HCd.out.mono fun k _ h => (.inl h : blk (.slice (some ⟨ri2, 0, none⟩) n ic) k ≠ 0 ∨ k = pa)).trans hce fun k _ h => .inr h) fun k _ h => h.elim (fun h => .inl h) (fun h => .inr (.inl h)))
    clear hce hPe hAe hBe hwe gA mA hac1 hac2
    go_wp2_with fail
    go_at_call 75
    refine (leaf_is _ pa _ _ _ _ HAe.out.heap lf HLF.out).mono ?_
    rintro _ _ ⟨rfl, u1, rfl⟩
    have hia : ∀ k, blk (.slice (some ⟨ra, 0, none⟩) na ac) k = blk (.slice (some ⟨ra, 0, none⟩) (na + 1) ac) k := fun k => by rw [blk_at (s := none), blk_at (s := none)]
    have HIA := hid hia
    clear hia
    have H1e := hid (show ∀ k, one p k + (blk (.slice (some ⟨ri2, 0, none⟩) n ic) k + (blk (.slice (some ⟨rk2, 0, none⟩) nk bc) k + (one pa k + (blk (.slice (some ⟨ra, 0, none⟩) na ac) k + (blk (.slice ro ma rc) k + (one pb k + (blk (.slice b5 (nb + 1) c5) k + blk (.slice uo mb uc) k))))))) ≤ 1 from fun k => by have := H1c.out k; rw [HIA.out]; exact this)
    cases lf
    · obtain ⟨z, hak, rfl, hAK⟩ : ∃ z, ak = ka ++ [z] ∧ kb = z :: bk ∧ ka.length = na + 1 := by have := HAK.out; simpa using this
      obtain rfl : ma = na + 2 := by have := HAe.out.lk; rw [hak] at this; simp at this; omega
      have HAKE := hid hak
      have HAKL := hid hAK
      obtain ⟨rz, rfl, z1, lz⟩ := kid_cell HAe.out.below (i := na + 1) (q := z) (by rw [hak, ← hAK]; simp) HAe.out.lk
      have gA := fun i => cell_of_row we pa i _ _ (0, 0) HAe.out.heap
      have mA := lt_of_heap HAe.out.heap
      have gB := fun i => cell_of_row we pb i _ _ (0, 0) HBe.out.heap
      have mB := lt_of_heap HBe.out.heap
      have hB1p := HBe.out.heap
      have hBpb2 : blk (.slice uo mb uc) pb = 0 := by have := H1e.out pb; rw [one_self] at this; omega
      have HF2 := hid (show ∀ a, we.heap.size ≤ a → blk (.slice uo mb uc) a = 0 from fun a ha => by have := HBe.out.out ha; omega)
      have e1 : IntKind.i64.wrap ((na : Int) + 1) = ((na + 1 : Nat) : Int) := by rw [show (na : Int) + 1 = ((na + 1 : Nat) : Int) by omega]; exact IntWalk.i64_in _ (by omega)
      have hlt2 : ((na + 1 : Nat) : Int) < ((na + 2 : Nat) : Int) := by omega
      clear hak hAK
      go_upto_region 6 with fail
      go_cut [] (fun wf => ∃ b6 c6, wf.heap[pb]? = some (.cells #[.slice b5 (nb + 1) c5, .slice b6 (mb + 1) c6] 118) ∧ Row wf 110 1 (.slice b6 (mb + 1) c6) (mb + 1) (ptrs (z :: bk)) ∧ Chg (fun k => blk (.slice uo mb uc) k ≠ 0 ∨ k = pb) we wf ∧ ∀ k, k < we.heap.size → blk (.slice b6 (mb + 1) c6) k ≤ blk (.slice uo mb uc) k)
      case first =>
        go_region_with (go_at_call 118; go_must (((with_reducible refine (insert_ptr0 _ _ mb _ (HBe.out.on (by repeat' (first | exact Below.refl _ _ | with_reducible assumption | omega | with_reducible refine below_put_fut ?_ ?_ _ | with_reducible refine below_to_put ?_ | with_reducible refine Below.alloc ?_ ?_ _ | with_reducible refine Below.fut ?_ ?_ _ | with_reducible refine Below.drew ?_ | with_reducible refine Below.setCell ?_ ?_ _ | with_reducible refine Below.atPut ?_ ?_ _ | (simp [go_sem]; done) | (simp [go_sem]; omega)))).below (by omega) (ptrs_one _) _ [.pointer (some ⟨z.p, 0, none⟩)] rfl (by simp [Value.oneCell']) (by repeat' (first | rfl | assumption | (with_reducible refine (heap_drew_eq _ _).trans ?_) | (refine (Fut.heap _ _ ?_).trans ?_ ; focus (first | assumption | omega | (simp [go_sem]; done) | (simp [go_sem]; omega))) | (refine (heap_put_at _ _ _ ?_).trans ?_ ; focus (first | assumption | omega | (simp [go_sem]; done) | (simp [go_sem]; omega))) | (refine (heap_put_other _ _ _ _ ?_).trans ?_ ; focus (first | assumption | omega | (simp [go_sem]; done) | (simp [go_sem]; omega))) | (refine (heap_alloc_other _ _ _ ?_).trans ?_ ; focus (first | assumption | omega | (simp [go_sem]; done) | (simp [go_sem]; omega))) | (refine (heap_alloc_at _ _ _ ?_).trans ?_ ; focus (first | assumption | omega | (simp [go_sem]; done) | (simp [go_sem]; omega))) | (simp [go_sem]; done) | (simp [go_sem]; omega))) (HF2.out _ (by simp))).mono ?_)); rintro _ W5 ⟨v5, rfl, hr5, hch5, ho5⟩; have hp5 := (hch5.block pb (by first | assumption | (simp [go_sem]; done) | (simp [go_sem]; omega)) (by rw [hBpb2]; simp)).trans (show _ = some (.cells #[.slice b5 (nb + 1) c5, .slice uo mb uc] 118) from (by repeat' (first | rfl | assumption | (with_reducible refine (heap_drew_eq _ _).trans ?_) | (refine (Fut.heap _ _ ?_).trans ?_ ; focus (first | assumption | omega | (simp [go_sem]; done) | (simp [go_sem]; omega))) | (refine (heap_put_at _ _ _ ?_).trans ?_ ; focus (first | assumption | omega | (simp [go_sem]; done) | (simp [go_sem]; omega))) | (refine (heap_put_other _ _ _ _ ?_).trans ?_ ; focus (first | assumption | omega | (simp [go_sem]; done) | (simp [go_sem]; omega))) | (refine (heap_alloc_other _ _ _ ?_).trans ?_ ; focus (first | assumption | omega | (simp [go_sem]; done) | (simp [go_sem]; omega))) | (refine (heap_alloc_at _ _ _ ?_).trans ?_ ; focus (first | assumption | omega | (simp [go_sem]; done) | (simp [go_sem]; omega))) | (simp [go_sem]; done) | (simp [go_sem]; omega)))); have hl5 := lt_of_heap hp5; have HC5 := hid (show Chg (fun k => blk (.slice uo mb uc) k ≠ 0) we W5 from (Chg.of_below (by repeat' (first | exact Below.refl _ _ | with_reducible assumption | omega | with_reducible refine below_put_fut ?_ ?_ _ | with_reducible refine below_to_put ?_ | with_reducible refine Below.alloc ?_ ?_ _ | with_reducible refine Below.fut ?_ ?_ _ | with_reducible refine Below.drew ?_ | with_reducible refine Below.setCell ?_ ?_ _ | with_reducible refine Below.atPut ?_ ?_ _ | (simp [go_sem]; done) | (simp [go_sem]; omega)))).trans hch5 (fun _ _ h => h)); have HO5 := hid (show ∀ k, k < we.heap.size → blk v5 k ≤ blk (.slice uo mb uc) k from fun k hk => ho5 k (Nat.lt_of_lt_of_le hk (by first | assumption | (simp [go_sem]; done) | (simp [go_sem]; omega)))); obtain ⟨a5, c5, rfl⟩ := owns_slice hr5; have HR5 := hid hr5; clear hch5 ho5 hr5; rw [← put_self hp5]))
        all_goals
          go_wp2_with fail
          go_meet
          refine ⟨_, _, heap_put_at _ _ _ hl5, HR5.out.keep (fun k hk => heap_put_other _ _ _ _ fun e => ?_), (HC5.out.mono fun k _ h => .inl h).put (fun _ => .inr rfl) _, HO5.out⟩
          have := HO5.out pb mB
          subst e
          omega
      case rest =>
        obtain ⟨b6, c6, hp6, hr6, hc6, ho6⟩ := hcut
        have hP6 := HPe.out.chg hc6 fun k hk hS => by
          have := H1e.out k
          rcases hS with e | rfl
          · omega
          · rw [one_self] at this; omega
        have hA6 := HAe.out.chg hc6 fun k hk hS => by
          have := H1e.out k
          rcases hS with e | rfl
          · omega
          · rw [one_self] at this; omega
        have hB6 : Nd wc pb (.slice b5 (nb + 1) c5) (.slice b6 (mb + 1) c6) (nb + 1) (y :: lb) (mb + 1) (z :: bk) := ⟨hp6, HBe.out.items.chg hc6 fun k hk hS => by
          have := H1e.out k
          rcases hS with e | rfl
          · omega
          · rw [one_self] at this; omega, hr6, HBe.out.li, by have := HBe.out.lk; simp [this]⟩
        have h16 : ∀ k, one p k + (blk (.slice (some ⟨ri2, 0, none⟩) n ic) k + (blk (.slice (some ⟨rk2, 0, none⟩) nk bc) k + (one pa k + (blk (.slice (some ⟨ra, 0, none⟩) na ac) k + (blk (.slice (some ⟨rz, 0, none⟩) (na + 1) rc) k + (one pb k + (blk (.slice b5 (nb + 1) c5) k + blk (.slice b6 (mb + 1) c6) k))))))) ≤ 1 := fun k => by
          have e0 : blk (.slice (some ⟨rz, 0, none⟩) (na + 1) rc) k = blk (.slice (some ⟨rz, 0, none⟩) (na + 2) rc) k := by rw [blk_at (s := none), blk_at (s := none)]
          rw [e0]
          rcases Nat.lt_or_ge k we.heap.size with hk | hk
          · have := H1e.out k; have := ho6 k hk; omega
          · have := HPe.out.out hk; have := HAe.out.out hk; have := HBe.out.out hk; have := blk_le (.slice b6 (mb + 1) c6) k; omega
        have HP6 := hid hP6
        have HA6 := hid hA6
        have HB6 := hid hB6
        have H16 := hid h16
        have HC6 := hid hc6
        have HO6 := hid ho6
        clear hp6 hr6 hc6 ho6 hP6 hA6 hB6 h16 gA gB mA mB hB1p z1 lz
        have gA := fun i => cell_of_row wc pa i _ _ (0, 0) HA6.out.heap
        have mA := lt_of_heap HA6.out.heap
        obtain ⟨hrc1, hrc2⟩ : na + 1 ≤ rc ∧ rc ≤ maxLen := by
          obtain ⟨_, q1, q2, _⟩ := row_open HA6.out.below
          exact ⟨by omega, q1⟩
        rw [← put_self HA6.out.heap]
        go_wp2_with fail
        go_end0
        have hc7 : Chg (fun k => k = pa) wc (put wc pa (.cells #[.slice (some ⟨ra, 0, none⟩) na ac, .slice (some ⟨rz, 0, none⟩) (na + 1) rc] 118)) := (Chg.refl (fun k => k = pa) wc).put (fun _ => rfl) _
        have hA7 : Nd (put wc pa (.cells #[.slice (some ⟨ra, 0, none⟩) na ac, .slice (some ⟨rz, 0, none⟩) (na + 1) rc] 118)) pa (.slice (some ⟨ra, 0, none⟩) na ac) (.slice (some ⟨rz, 0, none⟩) (na + 1) rc) na A (na + 1) ka := by
          have h1 := row_take (HA6.out.below.chg hc7 (fun k hk hS => by have := H1e.out k; subst hS; rw [one_self] at this; omega)) (m := na + 1) (by omega)
          rw [HAKE.out, ptrs_append, List.take_left' (by simp [ptrs, HAKL.out])] at h1
          exact ⟨heap_put_at _ _ _ mA, HA6.out.items.chg hc7 (fun k hk hS => by have := H1e.out k; subst hS; rw [one_self] at this; omega), h1, HAl.out, HAKL.out⟩
        refine ⟨rfl, _, _, _, _, _, _, _, _, HP6.out.chg hc7 (fun k hk hS => by have := H16.out k; subst hS; rw [one_self] at this; omega), hA7, HB6.out.chg hc7 (fun k hk hS => by have := H16.out k; subst hS; rw [one_self] at this; omega),
          ?_, H16.out, fun k hk => ?_⟩
        · refine (Chg.of_below HBL.out).trans (Chg.trans (HCe.out.mono fun k _ h => ?_) ((HC6.out.mono fun k _ h => ?_).trans (hc7.mono fun k _ h => ?_) (fun k _ h => h)) (fun k _ h => h)) (fun k _ h => h)
          · rcases h with h | h | h | h
            · omega
            · subst h; rw [one_self]; omega
            · omega
            · subst h; rw [one_self]; omega
          · rcases h with h | h
            · omega
            · subst h; rw [one_self]; omega
          · subst h; rw [one_self]; omega
        · have h1 : k < we.heap.size := Nat.lt_of_lt_of_le (Nat.lt_of_lt_of_le hk HBL.out.size) HCe.out.size
          have := HO5.out k (Nat.lt_of_lt_of_le hk HBL.out.size)
          have := HIA.out k
          have := HO6.out k h1
          have e0 : blk (.slice (some ⟨rz, 0, none⟩) (na + 1) rc) k = blk (.slice (some ⟨rz, 0, none⟩) (na + 2) rc) k := by rw [blk_at (s := none), blk_at (s := none)]
          rw [e0]
          omega
    · obtain ⟨rfl, rfl, rfl⟩ : ak = [] ∧ ka = [] ∧ kb = bk := by have := HAK.out; simpa using this
      go_wp2_with fail
      go_end0
      have hub := u1.below
      refine ⟨rfl, _, _, _, _, _, _, _, _, HPe.out.on hub, HAe.out.on hub, HBe.out.on hub, (((Chg.of_below HBL.out).trans HCe.out fun k _ h => h).trans (Chg.of_below hub) (fun _ _ h => h)).mono fun k _ h => ?_, H1e.out, fun k hk => ?_⟩
      · rcases h with h | h | h | h
        · omega
        · subst h; rw [one_self]; omega
        · omega
        · subst h; rw [one_self]; omega
      · have := HO5.out k (Nat.lt_of_lt_of_le hk HBL.out.size)
        have := HIA.out k
        omega
end Go.Proofs.Ythknenhcnpgkcaa

/- Contracts of package shelf: fromRight. -/
namespace Go.Proofs.Ythknenhcnpgkcaa
set_option linter.unusedVariables false
set_option linter.unusedSimpArgs false
open Go.RowKit
theorem step_append_ex {P : Program} {w : World} {ops : Array Oper} {o : Oper} {a : Act} {K : Act → World → Prop} {Q : Exit → Act → World → Prop} {E : Prop} {R : Value → World → Prop} (hgd : o.guard = none) (s x : Operand) (t : TypeId)
    (ho : o.op = .call { callee := .builtin .append, args := #[s, x], argTypes := #[t, t] }) (v sv : Value) (hs : a.eval s = v) (hx : a.eval x = sv)
    (hrun : ∃ v' w', (Builtin.append_ #[t, t] o.type #[v, sv]).run P w = .ok v' w' ∧ R v' w') (h : ∀ v' w', R v' w' → K (a.put o.dst v') w') :
    if Region.wanted o (yielded ops a.tmps) = true then Oper.wp P o a w K Q else E := by
  obtain ⟨v', w', hr, hR⟩ := hrun
  exact step_append_run hgd s x t ho v sv hs hx v' w' hr (h v' w' hR)
theorem ptr_append_one {W W2 : World} {v : Value} {n : Nat} {ys : List Kid} (h : Row W 110 1 v n (ptrs ys)) (hb : Below W.heap.size W W2) (hn : n ≤ 1000) {S : Nat} {x : Kid} (hS : W2.heap[S]? = some (.cells #[.pointer (some ⟨x.p, 0, none⟩)] 110)) :
    ∃ v' W', (Builtin.append_ #[116, 116] 116 #[v, .slice (some ⟨S, 0, none⟩) 1 1]).run Try.prog W2 = .ok v' W' ∧ (∃ ao c, v' = .slice ao (n + 1) c) ∧ Row W' 110 1 v' (n + 1) (ptrs (ys ++ [x])) ∧ Chg (fun k => blk v k ≠ 0) W W' ∧ ∀ k, k < W.heap.size → blk v' k ≤ blk v k := by
  obtain ⟨i0, hi0, hz0, hz1, hz2⟩ := info_parts ptr_info
  obtain ⟨v', W', hrun, hrow, hch, hle⟩ := append_row (P := Try.prog) W2 116 116 110 i0 _ 1 8 Try.underlying116 hi0 hz0 hz1 hz2 rfl (by omega) v n _ (owns_below h hb) (.slice (some ⟨S, 0, none⟩) 1 1) 1 [.pointer (some ⟨x.p, 0, none⟩)]
    ⟨rfl, by simp [Value.oneCell'], .inr ⟨⟨S, 0, none⟩, 1, rfl, World.news_of_block hS⟩⟩ (by unfold maxLen; omega) (by omega)
  obtain ⟨ao, c, rfl⟩ := owns_slice hrow
  refine ⟨_, W', hrun, ⟨ao, c, rfl⟩, ?_, (Chg.of_below (S := fun k => blk v k ≠ 0) hb).trans hch (fun _ _ h => h), fun k hk => hle k (Nat.lt_of_lt_of_le hk hb.size)⟩
  rw [ptrs_append]
  exact hrow
theorem delete_item0 (W : World) (r cap n : Nat) (x : It) (l : List It) (hi : Row W 34 2 (.slice (some ⟨r, 0, none⟩) (n + 1) cap) (n + 1) (flat (x :: l))) (hn : n ≤ 1000) :
    Calls Try.prog 122 #[.slice (some ⟨r, 0, none⟩) (n + 1) cap, .int .i64 0, .int .i64 1] W fun en W' => en = .returned (.slice (some ⟨r, 0, none⟩) n cap) ∧ Row W' 34 2 (.slice (some ⟨r, 0, none⟩) n cap) n (flat l) ∧ Chg (fun k => k = r) W W' := by
  have := delete_item W r cap n _ hi hn (flat_one _) 0 (Nat.zero_le _)
  simpa [flat] using this
theorem delete_ptr0 (W : World) (r cap n : Nat) (x : Kid) (l : List Kid) (hi : Row W 110 1 (.slice (some ⟨r, 0, none⟩) (n + 1) cap) (n + 1) (ptrs (x :: l))) (hn : n ≤ 1000) :
    Calls Try.prog 150 #[.slice (some ⟨r, 0, none⟩) (n + 1) cap, .int .i64 0, .int .i64 1] W fun en W' => en = .returned (.slice (some ⟨r, 0, none⟩) n cap) ∧ Row W' 110 1 (.slice (some ⟨r, 0, none⟩) n cap) n (ptrs l) ∧ Chg (fun k => k = r) W W' := by
  have := delete_ptr W r cap n _ hi hn (ptrs_one _) 0 (Nat.zero_le _)
  simpa [ptrs] using this
set_option maxRecDepth 100000 in
set_option maxHeartbeats 4000000 in
theorem fromRight_is (W : World) (p pa pb : Nat) (iv bv ia ba ib bb : Value) (its la lb : List It) (ks ak bk : List Kid) (n na nb nk ma mb : Nat) (hP : Nd W p iv bv n its nk ks) (hA : Nd W pa ia ba na la ma ak) (hB : Nd W pb ib bb (nb + 1) lb mb bk)
    (h1 : ∀ k, one p k + (blk iv k + (blk bv k + (one pa k + (blk ia k + (blk ba k + (one pb k + (blk ib k + blk bb k))))))) ≤ 1)
    (i : Nat) (qa qb : Kid) (hqa : ks[i]? = some qa) (hqb : ks[i + 1]? = some qb) (hpa : qa.p = pa) (hpb : qb.p = pb) (y : It) (hy : its[i]? = some y) (B : List It) (x : It) (hx : lb = x :: B) (hni : n ≤ 50) (hna : na ≤ 50) (hnb : nb ≤ 50) (hnk : nk ≤ 50) (hma : ma ≤ 50) (hmb : mb ≤ 50) (lf : Bool) (hlf : ((mb : Int) == 0) = lf) (ka kb : List Kid) (hbk : if lf then bk = [] ∧ kb = [] ∧ ka = ak else ∃ z, bk = z :: kb ∧ ka = ak ++ [z]) :
    Calls Try.prog 143 #[.pointer (some ⟨p, 0, none⟩), .int .i64 i] W fun e W' => e = .returned (.tuple #[]) ∧ Moved W W' p pa pb iv bv ia ba ib bb n (its.set i x) nk ks (la ++ [y]) B ka kb := by
  obtain ⟨io, ic, rfl⟩ := owns_slice hP.items
  obtain ⟨bo, bc, rfl⟩ := owns_slice hP.below
  obtain ⟨ao, ac, rfl⟩ := owns_slice hA.items
  obtain ⟨ro, rc, rfl⟩ := owns_slice hA.below
  obtain ⟨vo, vc, rfl⟩ := owns_slice hB.items
  obtain ⟨uo, uc, rfl⟩ := owns_slice hB.below
  have hin : i < n := by rw [← hP.li]; exact (List.getElem?_eq_some_iff.1 hy).1
  have hik : i + 1 < nk := by rw [← hP.lk]; exact (List.getElem?_eq_some_iff.1 hqb).1
  obtain ⟨rk, rfl, c1, l1⟩ := kid_cell hP.below hqa hP.lk
  obtain ⟨rk2, hrk, c2, l2⟩ := kid_cell hP.below hqb hP.lk
  obtain rfl : rk2 = rk := by injection hrk with h; injection h with h; exact h.symm
  rw [hpa] at c1
  rw [hpb] at c2
  have g1 := fun i => cell_of_row W p i _ _ (0, 0) hP.heap
  have m1 := lt_of_heap hP.heap
  have ei : IntKind.i64.wrap ((i : Int) + 1) = ((i + 1 : Nat) : Int) := by rw [show (i : Int) + 1 = ((i + 1 : Nat) : Int) by omega]; exact IntWalk.i64_in _ (by omega)
  have hikI : (i : Int) < (nk : Int) := by omega
  have hikJ : ((i + 1 : Nat) : Int) < (nk : Int) := by omega
  have HLF := hid hlf
  have HBK := hid hbk
  clear hlf hbk
  have HP := hid hP
  have HA := hid hA
  have HB := hid hB
  have H1 := hid h1
  clear hP hA hB h1
  go_enter Try.func143, Try.ntmps143
  go_wp2_with fail
  go_region
  have hb1 : Below W.heap.size W W.drew := (Below.refl _ _).drew
  generalize W.drew = W1 at hb1 ⊢
  have HP1 := hid (HP.out.on hb1)
  have HA1 := hid (HA.out.on hb1)
  have HB1 := hid (HB.out.on hb1)
  have HBL := hid hb1
  have gA := fun i => cell_of_row W1 pa i _ _ (0, 0) HA1.out.heap
  have mA := lt_of_heap HA1.out.heap
  have gP := fun i => cell_of_row W1 p i _ _ (0, 0) HP1.out.heap
  have mP := lt_of_heap HP1.out.heap
  obtain ⟨ri, rfl, y1, y2, ly⟩ := item_cell HP1.out.items hy HP.out.li
  have hiI : (i : Int) < (n : Int) := by omega
  have hApa : blk (.slice ao na ac) pa = 0 := by have := H1.out pa; rw [one_self] at this; omega
  have HF := hid (show ∀ a, W1.heap.size ≤ a → blk (.slice ao na ac) a = 0 from fun a ha => by have := HA1.out.out ha; omega)
  clear hb1 c1 c2 l1 l2 g1 m1
  have hA1p := HA1.out.heap
  go_upto_region 1 with fail
  go_cut [] (fun wc => ∃ a5 c5, wc.heap[pa]? = some (.cells #[.slice a5 (na + 1) c5, .slice ro ma rc] 118) ∧ Row wc 34 2 (.slice a5 (na + 1) c5) (na + 1) (flat (la ++ [y])) ∧ Chg (fun k => blk (.slice ao na ac) k ≠ 0 ∨ k = pa) W1 wc ∧ ∀ k, k < W1.heap.size → blk (.slice a5 (na + 1) c5) k ≤ blk (.slice ao na ac) k)
  case first =>
    go_region_law (refine step_append_ex (by rfl) _ _ _ (by rfl) _ _ (by rfl) (by rfl) (append_one (x := y) HA1.out.items (by repeat' (first | exact Below.refl _ _ | with_reducible assumption | omega | with_reducible refine below_put_fut ?_ ?_ _ | with_reducible refine below_to_put ?_ | with_reducible refine Below.alloc ?_ ?_ _ | with_reducible refine Below.fut ?_ ?_ _ | with_reducible refine Below.drew ?_ | with_reducible refine Below.setCell ?_ ?_ _ | with_reducible refine Below.atPut ?_ ?_ _ | (simp [go_sem]; done) | (simp [go_sem]; omega))) (by omega) (by repeat' (first | rfl | assumption | (with_reducible refine (heap_drew_eq _ _).trans ?_) | (refine (Fut.heap _ _ ?_).trans ?_ ; focus (first | assumption | omega | (simp [go_sem]; done) | (simp [go_sem]; omega))) | (refine (heap_put_at _ _ _ ?_).trans ?_ ; focus (first | assumption | omega | (simp [go_sem]; done) | (simp [go_sem]; omega))) | (refine (heap_put_other _ _ _ _ ?_).trans ?_ ; focus (first | assumption | omega | (simp [go_sem]; done) | (simp [go_sem]; omega))) | (refine (heap_alloc_other _ _ _ ?_).trans ?_ ; focus (first | assumption | omega | (simp [go_sem]; done) | (simp [go_sem]; omega))) | (refine (heap_alloc_at _ _ _ ?_).trans ?_ ; focus (first | assumption | omega | (simp [go_sem]; done) | (simp [go_sem]; omega))) | (simp [go_sem]; done) | (simp [go_sem]; omega)))) ?_; rintro _ W5 ⟨⟨a5, c5, rfl⟩, hr5, hch5, ho5⟩; have hp5 := (hch5.block pa mA (by rw [hApa]; simp)).trans hA1p; have hl5 := lt_of_heap hp5; have HR5 := hid hr5; have HC5 := hid hch5; have HO5 := hid ho5; clear hr5 hch5 ho5; rw [← put_self hp5])
    all_goals
      go_wp2_with fail
      go_meet
      refine ⟨_, _, heap_put_at _ _ _ hl5, HR5.out.keep (fun k hk => heap_put_other _ _ _ _ fun e => ?_), (HC5.out.mono fun k _ h => .inl h).put (fun _ => .inr rfl) _, HO5.out⟩
      have := HO5.out pa mA
      subst e
      omega
  case rest =>
    obtain ⟨a5, c5, hp5, hr5, hc5, ho5⟩ := hcut
    have hPc := HP1.out.chg hc5 fun k hk hS => by
      have := H1.out k
      rcases hS with e | rfl
      · omega
      · rw [one_self] at this; omega
    have hBc := HB1.out.chg hc5 fun k hk hS => by
      have := H1.out k
      rcases hS with e | rfl
      · omega
      · rw [one_self] at this; omega
    have hAc : Nd wc pa (.slice a5 (na + 1) c5) (.slice ro ma rc) (na + 1) (la ++ [y]) ma ak := ⟨hp5, hr5, HA1.out.below.chg hc5 fun k hk hS => by
      have := H1.out k
      rcases hS with e | rfl
      · omega
      · rw [one_self] at this; omega, by have := HA.out.li; simp [this], HA.out.lk⟩
    have h1c : ∀ k, one p k + (blk (.slice (some ⟨ri, 0, none⟩) n ic) k + (blk (.slice (some ⟨rk2, 0, none⟩) nk bc) k + (one pa k + (blk (.slice a5 (na + 1) c5) k + (blk (.slice ro ma rc) k + (one pb k + (blk (.slice vo (nb + 1) vc) k + blk (.slice uo mb uc) k))))))) ≤ 1 := fun k => by
      rcases Nat.lt_or_ge k W1.heap.size with hk | hk
      · have := H1.out k; have := ho5 k hk; omega
      · have := HP1.out.out hk; have := HA1.out.out hk; have := HB1.out.out hk; have := blk_le (.slice a5 (na + 1) c5) k; omega
    have HPc := hid hPc
    have HAc := hid hAc
    have HBc := hid hBc
    have H1c := hid h1c
    have HC5 := hid hc5
    have HO5 := hid ho5
    clear hp5 hr5 hc5 ho5 gA gP y1 y2 ly mA mP hA1p hPc hAc hBc h1c
    have gB := fun i => cell_of_row wc pb i _ _ (0, 0) HBc.out.heap
    have mB := lt_of_heap HBc.out.heap
    have gP := fun i => cell_of_row wc p i _ _ (0, 0) HPc.out.heap
    have mP := lt_of_heap HPc.out.heap
    obtain ⟨ri2, hri2, y1, y2, ly⟩ := item_cell HPc.out.items hy HP.out.li
    obtain rfl : ri2 = ri := by injection hri2 with h; injection h with h; exact h.symm
    subst hx
    obtain ⟨rb, rfl, x1, x2, lx⟩ := item_cell HBc.out.items (i := 0) (x := x) rfl HB.out.li
    rw [Nat.zero_mul] at x1 x2
    have HRB := hid (show ∀ m c k, blk (.slice (some ⟨rb, 0, none⟩) m c) k = one rb k from fun m c k => blk_at _ _ _ _ _ none)
    have hfr := fun j => World.ownsRow.frozenAt HPc.out.items j
    clear hri2
    have hnbI : (0 : Int) < ((nb + 1 : Nat) : Int) := by omega
    go_wp2_with fail
    go_region
    obtain ⟨cur, ecur, hrow⟩ := store_item2 HPc.out.items HP.out.li i x hin
    rw [ecur]
    have hcd : Chg (fun k => blk (.slice (some ⟨ri2, 0, none⟩) n ic) k ≠ 0) wc (put wc ri2 (.cells cur 34)).drew := ((Chg.refl _ _).put (fun _ => by show blk _ _ ≠ 0; rw [blk_at (s := none), one_self]; omega) _).drew
    have hPd : Nd (put wc ri2 (.cells cur 34)).drew p (.slice (some ⟨ri2, 0, none⟩) n ic) (.slice (some ⟨rk2, 0, none⟩) nk bc) n (its.set i x) nk ks := ⟨(hcd.block p mP (by have := H1c.out p; rw [one_self] at this; omega)).trans HPc.out.heap, hrow, HPc.out.below.chg hcd (fun k hk hS => by have := H1c.out k; omega), by rw [List.length_set]; exact HP.out.li, HP.out.lk⟩
    have hAd := HAc.out.chg hcd (fun k hk hS => by have := H1c.out k; omega)
    have hBd := HBc.out.chg hcd (fun k hk hS => by have := H1c.out k; omega)
    obtain ⟨wd, hwd⟩ : ∃ wd, wd = (put wc ri2 (.cells cur 34)).drew := ⟨_, rfl⟩
    rw [← hwd] at hcd hPd hAd hBd ⊢
    have HPd := hid hPd
    have HAd := hid hAd
    have HBd := hid hBd
    have HCd := hid hcd
    clear hcd hPd hAd hBd hwd ecur hrow gB mB gP mP y1 y2 ly x1 x2 lx hfr
    have gB := fun i => cell_of_row wd pb i _ _ (0, 0) HBd.out.heap
    have mB := lt_of_heap HBd.out.heap
    go_wp2_with fail
    go_at_call 122
    refine (delete_item0 wd rb vc nb x B HBd.out.items (by omega)).mono ?_
    rintro _ W7 ⟨rfl, hr7, hc7⟩
    have hne7 : pb ≠ rb := fun e => by
      have h1 := H1c.out rb
      rw [HRB.out, e, one_self] at h1
      omega
    have hbp7 := (hc7.block pb mB hne7).trans HBd.out.heap
    have mB7 := lt_of_heap hbp7
    rw [← put_self hbp7]
    go_wp2_with fail
    have hce : Chg (fun k => k = rb ∨ k = pb) wd (put W7 pb (.cells #[.slice (some ⟨rb, 0, none⟩) nb vc, .slice uo mb uc] 118)) := (hc7.mono fun k _ h => .inl h).put (fun _ => .inr rfl) _
    have hPe := HPd.out.chg hce fun k hk hS => by
      have h1 := H1c.out k
      rw [HRB.out] at h1
      rcases hS with rfl | rfl
      · rw [one_self] at h1; omega
      · rw [one_self] at h1; omega
    have hAe := HAd.out.chg hce fun k hk hS => by
      have h1 := H1c.out k
      rw [HRB.out] at h1
      rcases hS with rfl | rfl
      · rw [one_self] at h1; omega
      · rw [one_self] at h1; omega
    have hBe : Nd (put W7 pb (.cells #[.slice (some ⟨rb, 0, none⟩) nb vc, .slice uo mb uc] 118)) pb (.slice (some ⟨rb, 0, none⟩) nb vc) (.slice uo mb uc) nb B mb bk := ⟨heap_put_at _ _ _ mB7, hr7.keep (fun k hk => heap_put_other _ _ _ _ fun e => by rw [HRB.out] at hk; exact hne7 (e.symm.trans (one_ne hk))), HBd.out.below.chg hce fun k hk hS => by
      have h1 := H1c.out k
      rw [HRB.out] at h1
      rcases hS with rfl | rfl
      · rw [one_self] at h1; omega
      · rw [one_self] at h1; omega, by have := HB.out.li; simpa using this, HB.out.lk⟩
    obtain ⟨we, hwe⟩ : ∃ we, we = put W7 pb (.cells #[.slice (some ⟨rb, 0, none⟩) nb vc, .slice uo mb uc] 118) := ⟨_, rfl⟩
    rw [← hwe] at hce hPe hAe hBe ⊢
    have HPe := hid hPe
    have HAe := hid hAe
    have HBe := hid hBe
    have HCe := hid (show Chg (fun k => blk (.slice (some ⟨ri2, 0, none⟩) n ic) k + (one pa k + (blk (.slice ao na ac) k + (blk (.slice ro ma rc) k + (one pb k + (blk (.slice (some ⟨rb, 0, none⟩) (nb + 1) vc) k + blk (.slice uo mb uc) k))))) ≠ 0) W1 we from
      Chg.trans (HC5.out.mono fun k _ h => by
        rcases h with h | rfl
        · omega
        · rw [one_self]; omega) (Chg.trans (HCd.out.mono fun k _ h => (by omega : blk (.slice (some ⟨ri2, 0, none⟩) n ic) k + (one rb k + one pb k) ≠ 0)) (hce.mono fun k _ h => by
        rcases h with rfl | rfl
        · rw [one_self]; omega
        · rw [one_self]; omega) (fun _ _ h => h)) (fun k _ h => by rw [HRB.out]; omega))
    clear hce hPe hAe hBe hwe gB mB hr7 hc7 hbp7 mB7
    have H1e := hid (show ∀ k, one p k + (blk (.slice (some ⟨ri2, 0, none⟩) n ic) k + (blk (.slice (some ⟨rk2, 0, none⟩) nk bc) k + (one pa k + (blk (.slice a5 (na + 1) c5) k + (blk (.slice ro ma rc) k + (one pb k + (blk (.slice (some ⟨rb, 0, none⟩) nb vc) k + blk (.slice uo mb uc) k))))))) ≤ 1 from fun k => by have := H1c.out k; rw [HRB.out] at this ⊢; exact this)
    go_at_call 75
    refine (leaf_is _ pb _ _ _ _ HBe.out.heap lf HLF.out).mono ?_
    rintro _ _ ⟨rfl, u1, rfl⟩
    cases lf
    · obtain ⟨z, rfl, rfl⟩ : ∃ z, bk = z :: kb ∧ ka = ak ++ [z] := by have := HBK.out; simpa using this
      obtain ⟨m, rfl⟩ : ∃ m, mb = m + 1 := ⟨kb.length, by have := HB.out.lk; simpa using this.symm⟩
      obtain ⟨rz, rfl, z1, lz⟩ := kid_cell HBe.out.below (i := 0) (q := z) rfl HBe.out.lk
      have HRZ := hid (show ∀ m c k, blk (.slice (some ⟨rz, 0, none⟩) m c) k = one rz k from fun m c k => blk_at _ _ _ _ _ none)
      have gA := fun i => cell_of_row we pa i _ _ (0, 0) HAe.out.heap
      have mA := lt_of_heap HAe.out.heap
      have gB := fun i => cell_of_row we pb i _ _ (0, 0) HBe.out.heap
      have mB := lt_of_heap HBe.out.heap
      have hApa2 : blk (.slice ro ma rc) pa = 0 := by have := H1e.out pa; rw [one_self] at this; omega
      have hA1p := HAe.out.heap
      have hmI : (0 : Int) < ((m + 1 : Nat) : Int) := by omega
      go_upto_region 5 with fail
      go_cut [] (fun wf => ∃ a6 c6, wf.heap[pa]? = some (.cells #[.slice a5 (na + 1) c5, .slice a6 (ma + 1) c6] 118) ∧ Row wf 110 1 (.slice a6 (ma + 1) c6) (ma + 1) (ptrs (ak ++ [z])) ∧ Chg (fun k => blk (.slice ro ma rc) k ≠ 0 ∨ k = pa) we wf ∧ ∀ k, k < we.heap.size → blk (.slice a6 (ma + 1) c6) k ≤ blk (.slice ro ma rc) k)
      case first =>
        go_region_law (refine step_append_ex (by rfl) _ _ _ (by rfl) _ _ (by rfl) (by rfl) (ptr_append_one (x := z) HAe.out.below (by repeat' (first | exact Below.refl _ _ | with_reducible assumption | omega | with_reducible refine below_put_fut ?_ ?_ _ | with_reducible refine below_to_put ?_ | with_reducible refine Below.alloc ?_ ?_ _ | with_reducible refine Below.fut ?_ ?_ _ | with_reducible refine Below.drew ?_ | with_reducible refine Below.setCell ?_ ?_ _ | with_reducible refine Below.atPut ?_ ?_ _ | (simp [go_sem]; done) | (simp [go_sem]; omega))) (by omega) (by repeat' (first | rfl | assumption | (with_reducible refine (heap_drew_eq _ _).trans ?_) | (refine (Fut.heap _ _ ?_).trans ?_ ; focus (first | assumption | omega | (simp [go_sem]; done) | (simp [go_sem]; omega))) | (refine (heap_put_at _ _ _ ?_).trans ?_ ; focus (first | assumption | omega | (simp [go_sem]; done) | (simp [go_sem]; omega))) | (refine (heap_put_other _ _ _ _ ?_).trans ?_ ; focus (first | assumption | omega | (simp [go_sem]; done) | (simp [go_sem]; omega))) | (refine (heap_alloc_other _ _ _ ?_).trans ?_ ; focus (first | assumption | omega | (simp [go_sem]; done) | (simp [go_sem]; omega))) | (refine (heap_alloc_at _ _ _ ?_).trans ?_ ; focus (first | assumption | omega | (simp [go_sem]; done) | (simp [go_sem]; omega))) | (simp [go_sem]; done) | (simp [go_sem]; omega)))) ?_; rintro _ W5 ⟨⟨a5, c5, rfl⟩, hr5, hch5, ho5⟩; have hp5 := (hch5.block pa mA (by rw [hApa2]; simp)).trans hA1p; have hl5 := lt_of_heap hp5; have HR5 := hid hr5; have HC5 := hid hch5; have HO5 := hid ho5; clear hr5 hch5 ho5; rw [← put_self hp5])
        all_goals
          go_wp2_with fail
          go_meet
          refine ⟨_, _, heap_put_at _ _ _ hl5, HR5.out.keep (fun k hk => heap_put_other _ _ _ _ fun e => ?_), (HC5.out.mono fun k _ h => .inl h).put (fun _ => .inr rfl) _, HO5.out⟩
          have := HO5.out pa mA
          subst e
          omega
      case rest =>
        obtain ⟨a6, c6, hp6, hr6, hc6, ho6⟩ := hcut
        have hP6 := HPe.out.chg hc6 fun k hk hS => by
          have := H1e.out k
          rcases hS with e | rfl
          · omega
          · rw [one_self] at this; omega
        have hB6 := HBe.out.chg hc6 fun k hk hS => by
          have := H1e.out k
          rcases hS with e | rfl
          · omega
          · rw [one_self] at this; omega
        have hA6 : Nd wc pa (.slice a5 (na + 1) c5) (.slice a6 (ma + 1) c6) (na + 1) (la ++ [y]) (ma + 1) (ak ++ [z]) := ⟨hp6, HAe.out.items.chg hc6 fun k hk hS => by
          have := H1e.out k
          rcases hS with e | rfl
          · omega
          · rw [one_self] at this; omega, hr6, HAe.out.li, by have := HAe.out.lk; simp [this]⟩
        have h16 : ∀ k, one p k + (blk (.slice (some ⟨ri2, 0, none⟩) n ic) k + (blk (.slice (some ⟨rk2, 0, none⟩) nk bc) k + (one pa k + (blk (.slice a5 (na + 1) c5) k + (blk (.slice a6 (ma + 1) c6) k + (one pb k + (blk (.slice (some ⟨rb, 0, none⟩) nb vc) k + blk (.slice (some ⟨rz, 0, none⟩) (m + 1) uc) k))))))) ≤ 1 := fun k => by
          rcases Nat.lt_or_ge k we.heap.size with hk | hk
          · have := H1e.out k; have := ho6 k hk; omega
          · have := HPe.out.out hk; have := HAe.out.out hk; have := HBe.out.out hk; have := blk_le (.slice a6 (ma + 1) c6) k; omega
        have HP6 := hid hP6
        have HA6 := hid hA6
        have HB6 := hid hB6
        have H16 := hid h16
        have HC6 := hid hc6
        have HO6 := hid ho6
        clear hp6 hr6 hc6 ho6 hP6 hA6 hB6 h16 gA gB mA mB hA1p z1 lz
        have gB := fun i => cell_of_row wc pb i _ _ (0, 0) HB6.out.heap
        have mB := lt_of_heap HB6.out.heap
        go_wp2_with fail
        go_at_call 150
        refine (delete_ptr0 wc rz uc m z kb HB6.out.below (by omega)).mono ?_
        rintro _ W8 ⟨rfl, hr8, hc8⟩
        have hne8 : pb ≠ rz := fun e => by
          have h1 := H16.out rz
          rw [HRZ.out, e, one_self] at h1
          omega
        have hbp8 := (hc8.block pb mB hne8).trans HB6.out.heap
        have mB8 := lt_of_heap hbp8
        rw [← put_self hbp8]
        go_wp2_with fail
        go_end0
        have hc7 : Chg (fun k => k = rz ∨ k = pb) wc (put W8 pb (.cells #[.slice (some ⟨rb, 0, none⟩) nb vc, .slice (some ⟨rz, 0, none⟩) m uc] 118)) := (hc8.mono fun k _ h => .inl h).put (fun _ => .inr rfl) _
        have hB7 : Nd (put W8 pb (.cells #[.slice (some ⟨rb, 0, none⟩) nb vc, .slice (some ⟨rz, 0, none⟩) m uc] 118)) pb (.slice (some ⟨rb, 0, none⟩) nb vc) (.slice (some ⟨rz, 0, none⟩) m uc) nb B m kb :=
          ⟨heap_put_at _ _ _ mB8, HB6.out.items.chg hc7 fun k hk hS => by
          have h1 := H16.out k
          rw [HRZ.out] at h1
          rcases hS with rfl | rfl
          · rw [one_self] at h1; omega
          · rw [one_self] at h1; omega, hr8.keep (fun k hk => heap_put_other _ _ _ _ fun e => by rw [HRZ.out] at hk; exact hne8 (e.symm.trans (one_ne hk))), HBe.out.li, by have := HBe.out.lk; simpa using this⟩
        refine ⟨rfl, _, _, _, _, _, _, _, _, HP6.out.chg hc7 fun k hk hS => by
          have h1 := H16.out k
          rw [HRZ.out] at h1
          rcases hS with rfl | rfl
          · rw [one_self] at h1; omega
          · rw [one_self] at h1; omega, HA6.out.chg hc7 fun k hk hS => by
          have h1 := H16.out k
          rw [HRZ.out] at h1
          rcases hS with rfl | rfl
          · rw [one_self] at h1; omega
          · rw [one_self] at h1; omega, hB7, ?_, fun k => by have h1 := H16.out k; rw [HRZ.out] at h1 ⊢; exact h1, fun k hk => ?_⟩
        · refine (Chg.of_below HBL.out).trans (HCe.out.trans ((HC6.out.mono fun k _ h => ?_).trans (hc7.mono fun k _ h => ?_) (fun k _ h => h)) (fun k _ h => h)) (fun k _ h => h)
          · rcases h with h | rfl
            · omega
            · rw [one_self]; omega
          · rw [HRZ.out]
            rcases h with rfl | rfl
            · rw [one_self]; omega
            · rw [one_self]; omega
        · have h1 : k < we.heap.size := Nat.lt_of_lt_of_le (Nat.lt_of_lt_of_le hk HBL.out.size) HCe.out.size
          have := HO5.out k (Nat.lt_of_lt_of_le hk HBL.out.size)
          have := HO6.out k h1
          rw [HRB.out, HRB.out, HRZ.out, HRZ.out]
          omega
    · obtain ⟨rfl, rfl, rfl⟩ : bk = [] ∧ kb = [] ∧ ka = ak := by have := HBK.out; simpa using this
      go_wp2_with fail
      go_end0
      have hub := u1.below
      refine ⟨rfl, _, _, _, _, _, _, _, _, HPe.out.on hub, HAe.out.on hub, HBe.out.on hub, (((Chg.of_below HBL.out).trans HCe.out fun k _ h => h).trans (Chg.of_below hub) (fun _ _ h => h)), H1e.out, fun k hk => ?_⟩
      have := HO5.out k (Nat.lt_of_lt_of_le hk HBL.out.size)
      rw [HRB.out, HRB.out]
      omega
end Go.Proofs.Ythknenhcnpgkcaa
