import Derived.Test.YthknenhcnpgkcaaNode3
/- A key is looked for in a tree; its value is replaced. -/
namespace Go.Proofs.Ythknenhcnpgkcaa
open Go.RowKit
set_option linter.unusedVariables false
/-- Items small enough. -/
def Small (xs : List It) : Prop := ∀ i ∈ xs, i.1.size ≤ maxLen ∧ i.2.size ≤ maxLen
/-- The value of key k is v' now. -/
def Rep (k v' : ByteArray) (xs xs' : List It) : Prop := ∃ A v B, xs = A ++ (k, v) :: B ∧ xs' = A ++ (k, v') :: B
theorem Rep.wrap {k v' : ByteArray} {xs xs' : List It} (h : Rep k v' xs xs') (P Q : List It) : Rep k v' (P ++ (xs ++ Q)) (P ++ (xs' ++ Q)) := by
  obtain ⟨A, v, B, rfl, rfl⟩ := h
  exact ⟨P ++ A, v, B ++ Q, by simp, by simp⟩
theorem Rep.length {k v' : ByteArray} {xs xs' : List It} (h : Rep k v' xs xs') : xs'.length = xs.length := by
  obtain ⟨A, v, B, rfl, rfl⟩ := h
  simp
theorem rises_map {xs : List It} : Rises xs ↔ (xs.map (·.1)).Pairwise fun a b => lt a b = true := by
  unfold Rises
  rw [List.pairwise_map]
theorem Rep.rises {k v' : ByteArray} {xs xs' : List It} (h : Rep k v' xs xs') (hr : Rises xs) : Rises xs' := by
  obtain ⟨A, v, B, rfl, rfl⟩ := h
  rw [rises_map] at hr ⊢
  simpa using hr
theorem Rep.small {k v' : ByteArray} {xs xs' : List It} (h : Rep k v' xs xs') (hs : Small xs) (hv : v'.size ≤ maxLen) : Small xs' := by
  obtain ⟨A, v, B, rfl, rfl⟩ := h
  intro i hi
  rcases List.mem_append.1 hi with hi | hi
  · exact hs i (by simp [hi])
  · rcases List.mem_cons.1 hi with rfl | hi
    · exact ⟨(hs (k, v) (by simp)).1, hv⟩
    · exact hs i (by simp [hi])
theorem weave_item {kids : List Kid} {A B : List It} {k v : ByteArray} (h : kids.length = (A ++ (k, v) :: B).length + 1) : ∃ P Q, ∀ w, weave Kid.xs kids (A ++ (k, w) :: B) = P ++ (k, w) :: Q := by
  have hl : kids.length = A.length + 1 + (B.length + 1) := by simp at h; omega
  refine ⟨weave Kid.xs (kids.take (A.length + 1)) A, weave Kid.xs (kids.drop (A.length + 1)) B, fun w => ?_⟩
  rw [← weave_cut Kid.xs (k, w) _ _ _ _ (by rw [List.length_take]; omega), List.take_append_drop]
/-- What lies below r may be replaced, in the tree q. -/
def Wand (d lo : Nat) (W : World) (q : Kid) (d' lo' : Nat) (r : Kid) (k : ByteArray) : Prop :=
  ∀ W' xs' v', At d' lo' W' ⟨r.p, xs', r.c⟩ → Upd W W' r.c r.c → Rep k v' r.xs xs' → ∃ ys, At d lo W' ⟨q.p, ys, q.c⟩ ∧ Upd W W' q.c q.c ∧ Rep k v' q.xs ys
theorem Wand.refl (d lo : Nat) (W : World) (q : Kid) (k : ByteArray) : Wand d lo W q d lo q k := fun W' xs' v' h1 h2 h3 => ⟨xs', h1, h2, h3⟩
theorem Wand.step {d lo : Nat} {W : World} {q r s : Kid} {d' lo' : Nat} {k : ByteArray} {iv bv : Value} {its : List It} {L R : List Kid} (h : Wand d lo W q (d' + 1) lo' r k) (hr : At (d' + 1) lo' W r)
    (hN : Node W r.p iv bv its (L ++ s :: R) r.c) (hl1 : lo' ≤ its.length) (hl2 : its.length ≤ 6) (hG : Good (d' + 1) W its (L ++ s :: R) r.xs) (hL : L.length ≤ its.length) : Wand d lo W q d' 3 s k := by
  intro W' xs' v' h1 h2 h3
  obtain ⟨n1, n2, n3⟩ := hN.setKid (r5 := ⟨s.p, xs', s.c⟩) hr.lt h2 rfl (fun k => Nat.le_refl _)
  have hc : (fun k => one r.p k + (blk iv k + (blk bv k + sumC (L ++ ⟨s.p, xs', s.c⟩ :: R) k))) = r.c := by
    funext k
    rw [hN.cnt k, sumC_mid, sumC_mid]
  rw [hc] at n1 n2
  obtain ⟨g1, g2, g3⟩ := hG
  have hl : R.length = (its.drop L.length).length := by simp at g1 ⊢; omega
  have hl3 : L.length = (its.take L.length).length := by simp; omega
  have hw := weave_split Kid.xs L (its.take L.length) s R (its.drop L.length) hl3 hl
  have hw' := weave_split Kid.xs L (its.take L.length) ⟨s.p, xs', s.c⟩ R (its.drop L.length) hl3 hl
  rw [List.take_append_drop] at hw hw'
  refine h W' (weave Kid.xs (L ++ ⟨s.p, xs', s.c⟩ :: R) its) v' ?_ n2 ?_
  · refine At.of_node (q := ⟨r.p, weave Kid.xs (L ++ ⟨s.p, xs', s.c⟩ :: R) its, r.c⟩) n1 hl1 hl2 ⟨by simpa using g1, rfl, fun t ht => ?_⟩
    rcases List.mem_append.1 ht with ht | ht
    · exact (g3 t (by simp [ht])).keep fun k hk => n3 k ((g3 t (by simp [ht])).lt k hk) (by
        have e1 := hN.cnt k; have e2 := hN.le k; have e3 := sumC_mem ht k; rw [sumC_mid] at e1; omega)
    · rcases List.mem_cons.1 ht with rfl | ht
      · exact h1
      · exact (g3 t (by simp [ht])).keep fun k hk => n3 k ((g3 t (by simp [ht])).lt k hk) (by
          have e1 := hN.cnt k; have e2 := hN.le k; have e3 := sumC_mem ht k; rw [sumC_mid] at e1; omega)
  · rw [g2, hw, hw']
    exact h3.wrap _ _
/-- On the way to a key. -/
structure Way (d lo : Nat) (W : World) (q : Kid) (k : ByteArray) (d' lo' : Nat) (r : Kid) : Prop where
  at_ : At d' lo' W r
  rises : Rises r.xs
  small : Small r.xs
  wand : Wand d lo W q d' lo' r k
  value : valueOf k q.xs = valueOf k r.xs
theorem Way.start {d lo : Nat} {W : World} {q : Kid} (h : At d lo W q) (hr : Rises q.xs) (hs : Small q.xs) (k : ByteArray) : Way d lo W q k d lo q := ⟨h, hr, hs, .refl _ _ _ _ _, rfl⟩
/-- The place of a value. -/
def Spot (d lo : Nat) (W : World) (q : Kid) (k v : ByteArray) (p at_ : Nat) : Prop :=
  ∃ iv bv its, W.heap[p]? = some (.cells #[iv, bv] 118) ∧ Row W 34 2 iv its.length (flat its) ∧ its[at_]? = some (k, v) ∧ its.length ≤ 6 ∧ valueOf k q.xs = some v ∧
    ∀ W' v', Chg (fun k => blk iv k ≠ 0) W W' → Row W' 34 2 iv its.length (flat (its.set at_ (k, v'))) → ∃ ys, At d lo W' ⟨q.p, ys, q.c⟩ ∧ Upd W W' q.c q.c ∧ Rep k v' q.xs ys
theorem Way.spot {d lo : Nat} {W : World} {q : Kid} {k : ByteArray} {d' lo' : Nat} {r : Kid} (h : Way d lo W q k d' lo' r) {iv bv : Value} {its : List It} {kids : List Kid} (hN : Node W r.p iv bv its kids r.c) (hl1 : lo' ≤ its.length) (hl2 : its.length ≤ 6) (hG : Good d' W its kids r.xs) {at_ : Nat} (hp : placeOf k its = (at_, true)) :
    ∃ v, Spot d lo W q k v r.p at_ := by
  obtain ⟨A, B, hAB, hA, _, hB⟩ := placeOf_split k its (hG.rises h.rises)
  rw [hp] at hA hB
  dsimp only at hA
  rcases hB with ⟨_, v, R, rfl⟩ | ⟨e, _⟩
  · subst hAB
    have hitm : (k, v) ∈ A ++ (k, v) :: R := by simp
    have hmem : (k, v) ∈ r.xs := by
      cases d' with
      | zero => obtain ⟨_, e⟩ := hG; rw [e]; exact hitm
      | succ d' => obtain ⟨h1, e, _⟩ := hG; rw [e]; exact (weave_items _ _ _ h1).subset hitm
    refine ⟨v, iv, bv, _, hN.heap, hN.items, by rw [← hA]; simp, hl2, by rw [h.value]; exact valueOf_mem h.rises hmem, fun W' v' hc hrow => ?_⟩
    have hset : (A ++ (k, v) :: R).set at_ (k, v') = A ++ (k, v') :: R := by rw [← hA]; simp
    rw [hset] at hrow
    have hlen : (A ++ (k, v') :: R).length = (A ++ (k, v) :: R).length := by simp
    have hkeep : ∀ j, j < W.heap.size → blk iv j = 0 → W'.heap[j]? = W.heap[j]? := fun j hj h0 => hc.block j hj (by omega)
    have hN' : Node W' r.p iv bv (A ++ (k, v') :: R) kids r.c := by
      refine ⟨?_, by rw [hlen]; exact hrow, hN.below.keep fun j hj => ?_, hN.cnt, hN.le⟩
      · have e1 := hN.cnt r.p; have e2 := hN.le r.p; rw [one_self] at e1
        rw [hkeep r.p hN.lt (by omega)]; exact hN.heap
      · have e1 := hN.cnt j; have e2 := hN.le j
        exact hkeep j (hN.below.lt hj) (by omega)
    have hu : Upd W W' r.c r.c := ⟨hc.mono fun j _ hj => by have e1 := hN.cnt j; omega, hN.le, fun _ _ => Nat.le_refl _⟩
    cases d' with
    | zero =>
      obtain ⟨rfl, e⟩ := hG
      refine h.wand W' (A ++ (k, v') :: R) v' ⟨iv, bv, hN', by rw [hlen]; exact hl1, by rw [hlen]; exact hl2⟩ hu ⟨A, v, R, e, rfl⟩
    | succ d' =>
      obtain ⟨g1, g2, g3⟩ := hG
      obtain ⟨P, Q, hPQ⟩ := weave_item g1
      refine h.wand W' (weave Kid.xs kids (A ++ (k, v') :: R)) v' ⟨iv, bv, A ++ (k, v') :: R, kids, hN', by rw [hlen]; exact g1, by rw [hlen]; exact hl1, by rw [hlen]; exact hl2, rfl, fun s hs => ?_⟩ hu ⟨P, v, Q, by rw [g2, hPQ], hPQ v'⟩
      refine (g3 s hs).keep fun j hj => hkeep j ((g3 s hs).lt j hj) ?_
      have e1 := hN.cnt j; have e2 := hN.le j; have e3 := sumC_mem hs j; omega
  · cases e
/-- The child on the way. -/
theorem Way.down {d lo : Nat} {W : World} {q : Kid} {k : ByteArray} {d' lo' : Nat} {r : Kid} (h : Way d lo W q k (d' + 1) lo' r) {iv bv : Value} {its : List It} {kids : List Kid} (hN : Node W r.p iv bv its kids r.c) (hl1 : lo' ≤ its.length) (hl2 : its.length ≤ 6) (hG : Good (d' + 1) W its kids r.xs) {at_ : Nat} (hp : placeOf k its = (at_, false)) :
    ∃ s, kids[at_]? = some s ∧ Way d lo W q k d' 3 s := by
  obtain ⟨g1, g2, g3⟩ := hG
  have hat := placeOf_le k its
  rw [hp] at hat
  dsimp only at hat
  obtain ⟨A, B, hAB, hA, hA1, hB⟩ := placeOf_split k its (Good.rises (d := d' + 1) ⟨g1, g2, g3⟩ h.rises)
  rw [hp] at hA hB
  dsimp only at hA hB
  have hB1 : ∀ b ∈ B, lt k b.1 = true := by
    rcases hB with ⟨e, _⟩ | ⟨_, e⟩
    · cases e
    · exact e
  subst hAB
  have hk : kids.take A.length ++ (kids[A.length]'(by simp at g1; omega)) :: kids.drop (A.length + 1) = kids := by simp
  obtain ⟨s, hs⟩ : ∃ s, kids[A.length]'(by simp at g1; omega) = s := ⟨_, rfl⟩
  rw [hs] at hk
  obtain ⟨L, hL⟩ : ∃ L, kids.take A.length = L := ⟨_, rfl⟩
  obtain ⟨R, hR⟩ : ∃ R, kids.drop (A.length + 1) = R := ⟨_, rfl⟩
  have hLl : L.length = A.length := by rw [← hL, List.length_take]; simp at g1; omega
  rw [hL, hR] at hk
  subst hk
  have hRl : R.length = B.length := by simp at g1; omega
  have hw := weave_split Kid.xs L A s R B hLl hRl
  rw [← g2] at hw
  have hrx := h.rises
  rw [hw] at hrx
  obtain ⟨hr1, hr2, hr3⟩ := Rises.append.1 hrx
  obtain ⟨hr4, hr5, hr6⟩ := Rises.append.1 hr2
  have hPl := wpre_less Kid.xs k L A hLl hr1 hA1
  have hQl := wpost_more Kid.xs k B R hr5 hB1
  refine ⟨s, by rw [← hA, ← hLl]; simp, g3 s (by simp), hr4, fun i hi => h.small i (by rw [hw]; simp [hi]), ?_, ?_⟩
  · exact h.wand.step h.at_ hN hl1 hl2 ⟨g1, g2, g3⟩ (by rw [hLl]; simp)
  · rw [h.value, hw, valueOf_skip (fun x hx => lt_ne (hPl x hx)), valueOf_drop (fun x hx e => lt_ne (hQl x hx) e.symm)]
theorem Way.none {d lo : Nat} {W : World} {q : Kid} {k : ByteArray} {lo' : Nat} {r : Kid} (h : Way d lo W q k 0 lo' r) {at_ : Nat} (hp : placeOf k r.xs = (at_, false)) : valueOf k q.xs = Option.none := by
  obtain ⟨A, B, hAB, hA, hA1, hB⟩ := placeOf_split k r.xs h.rises
  rw [hp] at hB
  rw [h.value, hAB]
  refine valueOf_none fun x hx e => ?_
  rcases hB with ⟨e, _⟩ | ⟨_, e2⟩
  · cases e
  · rcases List.mem_append.1 hx with hx | hx
    · exact lt_ne (hA1 x hx) e
    · exact lt_ne (e2 x hx) e.symm
end Go.Proofs.Ythknenhcnpgkcaa
