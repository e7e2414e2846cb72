/- Texts of this proof, merged: Dl5, Dl6, Dl7, Dl8. -/
import Derived.Test.YthknenhcnpgkcaaMn
import Derived.Test.YthknenhcnpgkcaaDl4
/- Items and children shared out anew between two neighbours, or put together: what the whole holds stays. -/
namespace Go.Proofs.Ythknenhcnpgkcaa
set_option linter.unusedVariables false
set_option linter.unusedSimpArgs false
open Go.RowKit
theorem weave_two {α : Type} (X : α → List It) (L : List α) (A : List It) (R : List α) (B : List It) (hL : L.length = A.length) (hR : R.length = B.length) (a r : α) (y : It) : weave X (L ++ a :: r :: R) (A ++ y :: B) = wpre X L A ++ ((X a ++ y :: X r) ++ wpost X B R) := by
  rw [weave_split X L A a (r :: R) (y :: B) hL (by simp [hR])]
  simp [wpost]
/-- What lies below stays. -/
def Stays (l : List Kid) (W W' : World) : Prop := ∀ r ∈ l, ∀ k, r.c k ≠ 0 → W'.heap[k]? = W.heap[k]?
theorem shareL {d : Nat} {W : World} {la lb A : List It} {ak bk : List Kid} {xa xb : List It} {x : It} (y : It) (ha : Good d W la ak xa) (hb : Good d W lb bk xb) (hA : la = A ++ [x]) :
    ∃ lf ka kb xa' xb', (((ak.length : Int) == 0) = lf) ∧ (if lf then ak = [] ∧ ka = [] ∧ kb = bk else ∃ z, ak = ka ++ [z] ∧ kb = z :: bk ∧ ka.length = A.length + 1) ∧ xa ++ y :: xb = xa' ++ x :: xb' ∧ ak ++ bk = ka ++ kb ∧
      ∀ W', Stays (ak ++ bk) W W' → Good d W' A ka xa' ∧ Good d W' (y :: lb) kb xb' := by
  subst hA
  cases d with
  | zero =>
    obtain ⟨rfl, rfl⟩ := ha
    obtain ⟨rfl, rfl⟩ := hb
    exact ⟨true, [], [], A, y :: xb, rfl, ⟨rfl, rfl, rfl⟩, by simp, rfl, fun W' _ => ⟨⟨rfl, rfl⟩, ⟨rfl, rfl⟩⟩⟩
  | succ d =>
    obtain ⟨hl, rfl, hk⟩ := ha
    obtain ⟨hl2, rfl, hk2⟩ := hb
    rw [List.length_append] at hl
    obtain ⟨z, hz⟩ : ∃ z, ak[A.length + 1]? = some z := ⟨_, List.getElem?_eq_getElem (by simp at hl; omega)⟩
    have hka : ak = ak.take (A.length + 1) ++ [z] := by
      obtain ⟨hz1, hz2⟩ := List.getElem?_eq_some_iff.1 hz
      have := List.take_succ_eq_append_getElem hz1
      rw [List.take_of_length_le (by simp at hl; omega), hz2] at this
      exact this
    obtain ⟨ka, hkd⟩ : ∃ ka, ka = ak.take (A.length + 1) := ⟨_, rfl⟩
    have hkl : ka.length = A.length + 1 := by rw [hkd, List.length_take]; simp at hl; omega
    rw [← hkd] at hka
    clear hkd hz
    subst hka
    refine ⟨false, ka, z :: bk, weave Kid.xs ka A, weave Kid.xs (z :: bk) (y :: lb), by simp; omega, ⟨z, rfl, rfl, hkl⟩, ?_, by simp, fun W' hW => ⟨⟨hkl, rfl, fun r hr => ?_⟩, ⟨by simp [hl2], rfl, fun r hr => ?_⟩⟩⟩
    · rw [weave_cut Kid.xs x ka A [z] [] hkl]
      simp [weave]
    · exact (hk r (by simp [hr])).keep (hW r (by simp [hr]))
    · rcases List.mem_cons.1 hr with rfl | hr
      · exact (hk r (by simp)).keep (hW r (by simp))
      · exact (hk2 r hr).keep (hW r (by simp [hr]))
theorem shareR {d : Nat} {W : World} {la lb B : List It} {ak bk : List Kid} {xa xb : List It} {x : It} (y : It) (ha : Good d W la ak xa) (hb : Good d W lb bk xb) (hB : lb = x :: B) :
    ∃ lf ka kb xa' xb', (((bk.length : Int) == 0) = lf) ∧ (if lf then bk = [] ∧ kb = [] ∧ ka = ak else ∃ z, bk = z :: kb ∧ ka = ak ++ [z]) ∧ xa ++ y :: xb = xa' ++ x :: xb' ∧ ak ++ bk = ka ++ kb ∧
      ∀ W', Stays (ak ++ bk) W W' → Good d W' (la ++ [y]) ka xa' ∧ Good d W' B kb xb' := by
  subst hB
  cases d with
  | zero =>
    obtain ⟨rfl, rfl⟩ := ha
    obtain ⟨rfl, rfl⟩ := hb
    exact ⟨true, [], [], xa ++ [y], B, rfl, ⟨rfl, rfl, rfl⟩, by simp, rfl, fun W' _ => ⟨⟨rfl, rfl⟩, ⟨rfl, rfl⟩⟩⟩
  | succ d =>
    obtain ⟨hl, rfl, hk⟩ := ha
    obtain ⟨hl2, rfl, hk2⟩ := hb
    obtain ⟨z, kb, rfl⟩ : ∃ z kb, bk = z :: kb := by
      cases bk with
      | nil => simp at hl2
      | cons z kb => exact ⟨z, kb, rfl⟩
    refine ⟨false, ak ++ [z], kb, weave Kid.xs (ak ++ [z]) (la ++ [y]), weave Kid.xs kb B, by simp; omega, ⟨z, rfl, rfl⟩, ?_, by simp, fun W' hW => ⟨⟨by simp [hl], rfl, fun r hr => ?_⟩, ⟨by simpa using hl2, rfl, fun r hr => ?_⟩⟩⟩
    · rw [weave_cut Kid.xs y ak la [z] [] hl]
      simp [weave]
    · rcases List.mem_append.1 hr with hr | hr
      · exact (hk r hr).keep (hW r (by simp [hr]))
      · obtain rfl : r = z := by simpa using hr
        exact (hk2 r (by simp)).keep (hW r (by simp))
    · exact (hk2 r (by simp [hr])).keep (hW r (by simp [hr]))
theorem joinG {d : Nat} {W : World} {la lb : List It} {ak bk : List Kid} {xa xb : List It} (y : It) (ha : Good d W la ak xa) (hb : Good d W lb bk xb) (W' : World) (hW : Stays (ak ++ bk) W W') : Good d W' (la ++ y :: lb) (ak ++ bk) (xa ++ y :: xb) := by
  cases d with
  | zero =>
    obtain ⟨rfl, rfl⟩ := ha
    obtain ⟨rfl, rfl⟩ := hb
    exact ⟨rfl, rfl⟩
  | succ d =>
    obtain ⟨hl, rfl, hk⟩ := ha
    obtain ⟨hl2, rfl, hk2⟩ := hb
    refine ⟨by simp; omega, (weave_cut Kid.xs y ak la bk lb hl).symm, fun r hr => ?_⟩
    rcases List.mem_append.1 hr with hr | hr
    · exact (hk r hr).keep (hW r (by simp [hr]))
    · exact (hk2 r hr).keep (hW r (by simp [hr]))
end Go.Proofs.Ythknenhcnpgkcaa

/- What fill leaves: from the rows back to the tree. -/
namespace Go.Proofs.Ythknenhcnpgkcaa
set_option linter.unusedVariables false
set_option linter.unusedSimpArgs false
open Go.RowKit
/-- The node that fill has seen to: it holds xs, as before; it may have one item less than n. -/
def FillPost (d : Nat) (W W' : World) (p : Nat) (n : Nat) (xs : List It) (c : Cnt) : Prop :=
  ∃ iv bv its kids c', Node W' p iv bv its kids c' ∧ Good (d + 1) W' its kids xs ∧ n ≤ its.length + 1 ∧ its.length ≤ n ∧ Upd W W' c c'
theorem set_mid (A B : List It) (y x : It) : (A ++ y :: B).set A.length x = A ++ x :: B := by
  induction A with
  | nil => rfl
  | cons a A ih => simp only [List.cons_append, List.length_cons, List.set_cons_succ, ih]
theorem moved_fill {d : Nat} {W W' : World} {p n nk : Nat} {iv bv ia ba ib bb : Value} {I0 I1 la lb A B : List It} {y x : It} {L0 R ak bk ka kb : List Kid} {a r : Kid} {c : Cnt} {xa xb : List It}
    (hN : Node W p iv bv (I0 ++ y :: I1) (L0 ++ a :: r :: R) c) (hlt : ∀ k, c k ≠ 0 → k < W.heap.size) (hL : L0.length = I0.length) (hR : R.length = I1.length)
    (hNa : Node W a.p ia ba la ak a.c) (hNb : Node W r.p ib bb lb bk r.c)
    (hM : Moved W W' p a.p r.p iv bv ia ba ib bb n ((I0 ++ y :: I1).set I0.length x) nk (L0 ++ a :: r :: R) A B ka kb)
    (hx : a.xs ++ y :: r.xs = xa ++ x :: xb) (hk : ak ++ bk = ka ++ kb) (hg : ∀ W', Stays (ak ++ bk) W W' → Good d W' A ka xa ∧ Good d W' B kb xb)
    (hA : 3 ≤ A.length ∧ A.length ≤ 6) (hB : 3 ≤ B.length ∧ B.length ≤ 6) (hrest : ∀ s, s ∈ L0 ∨ s ∈ R → At d 3 W s) :
    FillPost d W W' p (I0 ++ y :: I1).length (weave Kid.xs (L0 ++ a :: r :: R) (I0 ++ y :: I1)) c := by
  obtain ⟨ia', ba', ib', bb', na', nb', ma', mb', hp, ha, hb, hch, h1, hle⟩ := hM
  rw [set_mid] at hp
  obtain ⟨a', ha'⟩ : ∃ a' : Kid, a' = ⟨a.p, xa, fun k => one a.p k + (blk ia' k + (blk ba' k + sumC ka k))⟩ := ⟨_, rfl⟩
  obtain ⟨r', hr'⟩ : ∃ r' : Kid, r' = ⟨r.p, xb, fun k => one r.p k + (blk ib' k + (blk bb' k + sumC kb k))⟩ := ⟨_, rfl⟩
  have hptr : ptrs (L0 ++ ([a', r'] ++ R)) = ptrs (L0 ++ a :: r :: R) := by subst ha' hr'; simp [ptrs, Kid.v]
  have hcount : ∀ k, sumC (ak ++ bk) k = sumC ka k + sumC kb k := fun k => by rw [hk, sumC_append]
  obtain ⟨hN', hU, hkeep⟩ := Node.regroup (W' := W') (iv' := iv) (bv' := bv) (its' := I0 ++ x :: I1) (M := [a, r]) (M' := [a', r']) (K := ak ++ bk)
    (own := fun k => one a.p k + (blk ia k + (blk ba k + (one r.p k + (blk ib k + blk bb k))))) (own' := fun k => one a.p k + (blk ia' k + (blk ba' k + (one r.p k + (blk ib' k + blk bb' k))))) hN hlt
    (fun k => by have e1 := hNa.cnt k; have e2 := hNb.cnt k; simp only [sumC, sumC_append]; omega)
    (fun k => by rw [hcount k]; subst ha' hr'; simp only [sumC]; omega)
    (fun k hk => by have := hle k hk; omega) (fun k hk => by have := h1 k; omega)
    (hch.mono fun k _ h => if h0 : blk iv k ≠ 0 then .inl h0 else .inr (.inr (.inl (by omega))))
    hp.heap (by have := hp.items; rw [← hp.li] at this; exact this) (by have := hp.below; rw [hptr]; rw [← hp.lk] at this; simpa using this)
  have hst : Stays (ak ++ bk) W W' := fun s hs k hk => hkeep k (by have := sumC_mem hs k; omega)
  obtain ⟨g1, g2⟩ := hg W' hst
  have hle' := hN'.le
  have hs : ∀ k, sumC (L0 ++ ([a', r'] ++ R)) k = sumC L0 k + (a'.c k + (r'.c k + sumC R k)) := fun k => by rw [sumC_append]; rfl
  have hata : At d 3 W' a' := At.of_node (iv := ia') (bv := ba') (its := A) (kids := ka) (by
    have hi := ha.items; have hb2 := ha.below
    rw [← ha.li] at hi; rw [← ha.lk] at hb2
    subst ha'
    exact ⟨ha.heap, hi, hb2, fun k => rfl, fun k => by have := hle' k; have := hs k; simp only at *; omega⟩) hA.1 hA.2 (by subst ha'; exact g1)
  have hatr : At d 3 W' r' := At.of_node (iv := ib') (bv := bb') (its := B) (kids := kb) (by
    have hi := hb.items; have hb2 := hb.below
    rw [← hb.li] at hi; rw [← hb.lk] at hb2
    subst hr'
    exact ⟨hb.heap, hi, hb2, fun k => rfl, fun k => by have := hle' k; have := hs k; simp only at *; omega⟩) hB.1 hB.2 (by subst hr'; exact g2)
  refine ⟨_, _, _, _, _, hN', ⟨by simp [hL, hR]; omega, ?_, fun s hs => ?_⟩, by simp, by simp, hU⟩
  · show _ = weave Kid.xs (L0 ++ a' :: r' :: R) (I0 ++ x :: I1)
    rw [weave_two Kid.xs L0 I0 R I1 hL hR, weave_two Kid.xs L0 I0 R I1 hL hR, hx]
    subst ha' hr'
    rfl
  · rcases List.mem_append.1 hs with hs | hs
    · exact (hrest s (.inl hs)).keep fun k hk => hkeep k (by have := sumC_mem hs k; omega)
    · rcases List.mem_append.1 hs with hs | hs
      · rcases List.mem_cons.1 hs with rfl | hs
        · exact hata
        · obtain rfl : s = r' := by simpa using hs
          exact hatr
      · exact (hrest s (.inr hs)).keep fun k hk => hkeep k (by have := sumC_mem hs k; omega)
theorem cut_one {α : Type} (A B : List α) (y : α) : (A ++ y :: B).take A.length ++ (A ++ y :: B).drop (A.length + 1) = A ++ B := by
  induction A with
  | nil => rfl
  | cons a A ih => simp
theorem cut_two {α : Type} (A B : List α) (y z : α) : (A ++ y :: z :: B).take (A.length + 1) ++ (A ++ y :: z :: B).drop (A.length + 2) = A ++ y :: B := by
  induction A with
  | nil => rfl
  | cons a A ih => simpa using ih
theorem joined_fill {d : Nat} {W W' : World} {p : Nat} {iv bv ia ba ib bb : Value} {I0 I1 la lb : List It} {y : It} {L0 R ak bk : List Kid} {a r : Kid} {c : Cnt}
    (hN : Node W p iv bv (I0 ++ y :: I1) (L0 ++ a :: r :: R) c) (hlt : ∀ k, c k ≠ 0 → k < W.heap.size) (hL : L0.length = I0.length) (hR : R.length = I1.length)
    (hNa : Node W a.p ia ba la ak a.c) (hNb : Node W r.p ib bb lb bk r.c)
    (hM : Joined W W' p a.p iv bv ((I0 ++ y :: I1).take I0.length ++ (I0 ++ y :: I1).drop (I0.length + 1)) ((L0 ++ a :: r :: R).take (L0.length + 1) ++ (L0 ++ a :: r :: R).drop (L0.length + 2)) (la ++ y :: lb) (ak ++ bk))
    (hg : ∀ W', Stays (ak ++ bk) W W' → Good d W' (la ++ y :: lb) (ak ++ bk) (a.xs ++ y :: r.xs))
    (hA : 3 ≤ (la ++ y :: lb).length ∧ (la ++ y :: lb).length ≤ 6) (hrest : ∀ s, s ∈ L0 ∨ s ∈ R → At d 3 W s) :
    FillPost d W W' p (I0 ++ y :: I1).length (weave Kid.xs (L0 ++ a :: r :: R) (I0 ++ y :: I1)) c := by
  obtain ⟨iv', bv', ia', ba', n', nk', na', ma', hp, ha, hch, h1, hle⟩ := hM
  rw [cut_one, cut_two] at hp
  obtain ⟨a', ha'⟩ : ∃ a' : Kid, a' = ⟨a.p, a.xs ++ y :: r.xs, fun k => one a.p k + (blk ia' k + (blk ba' k + sumC (ak ++ bk) k))⟩ := ⟨_, rfl⟩
  have hptr : ptrs (L0 ++ ([a'] ++ R)) = ptrs (L0 ++ a :: R) := by subst ha'; simp [ptrs, Kid.v]
  obtain ⟨hN', hU, hkeep⟩ := Node.regroup (W' := W') (iv' := iv') (bv' := bv') (its' := I0 ++ I1) (M := [a, r]) (M' := [a']) (K := ak ++ bk)
    (own := fun k => one a.p k + (blk ia k + (blk ba k + (one r.p k + (blk ib k + blk bb k))))) (own' := fun k => one a.p k + (blk ia' k + blk ba' k)) hN hlt
    (fun k => by have e1 := hNa.cnt k; have e2 := hNb.cnt k; simp only [sumC, sumC_append]; omega)
    (fun k => by subst ha'; simp only [sumC]; omega)
    (fun k hk => by have := hle k hk; omega) (fun k hk => by have := h1 k; omega)
    (hch.mono fun k _ h => if h0 : blk iv k ≠ 0 then .inl h0 else if h2 : blk bv k ≠ 0 then .inr (.inl h2) else if h3 : one p k ≠ 0 then .inr (.inr (.inr (one_ne h3))) else .inr (.inr (.inl (by omega))))
    hp.heap (by have := hp.items; rw [← hp.li] at this; exact this) (by have := hp.below; rw [hptr]; rw [← hp.lk] at this; simpa using this)
  have hst : Stays (ak ++ bk) W W' := fun s hs k hk => hkeep k (by have := sumC_mem hs k; omega)
  have g1 := hg W' hst
  have hle' := hN'.le
  have hs : ∀ k, sumC (L0 ++ ([a'] ++ R)) k = sumC L0 k + (a'.c k + sumC R k) := fun k => by rw [sumC_append]; rfl
  have hata : At d 3 W' a' := At.of_node (iv := ia') (bv := ba') (its := la ++ y :: lb) (kids := ak ++ bk) (by
    have hi := ha.items; have hb2 := ha.below
    rw [← ha.li] at hi; rw [← ha.lk] at hb2
    subst ha'
    exact ⟨ha.heap, hi, hb2, fun k => rfl, fun k => by have := hle' k; have := hs k; simp only at *; omega⟩) hA.1 hA.2 (by subst ha'; exact g1)
  refine ⟨_, _, _, _, _, hN', ⟨by simp [hL, hR]; omega, ?_, fun s hs => ?_⟩, by simp; omega, by simp, hU⟩
  · show _ = weave Kid.xs (L0 ++ a' :: R) (I0 ++ I1)
    rw [weave_two Kid.xs L0 I0 R I1 hL hR, weave_split Kid.xs L0 I0 a' R I1 hL hR]
    subst ha'
    rfl
  · rcases List.mem_append.1 hs with hs | hs
    · exact (hrest s (.inl hs)).keep fun k hk => hkeep k (by have := sumC_mem hs k; omega)
    · rcases List.mem_cons.1 hs with rfl | hs
      · exact hata
      · have hs : s ∈ R := hs
        exact (hrest s (.inr hs)).keep fun k hk => hkeep k (by have := sumC_mem hs k; omega)
end Go.Proofs.Ythknenhcnpgkcaa

/- Contracts of package shelf: fill. -/
namespace Go.Proofs.Ythknenhcnpgkcaa
set_option linter.unusedVariables false
set_option linter.unusedSimpArgs false
open Go.RowKit
set_option maxRecDepth 100000 in
set_option maxHeartbeats 4000000 in
theorem fill_left (W : World) (p n m i : Nat) (iv bv ir br ia ba : Value) (its lr la : List It) (ks kr ka : List Kid) (r a : Kid) (nr mr na ma : Nat) (hP : Nd W p iv bv n its m ks) (hr : ks[i + 1]? = some r) (ha : ks[i]? = some a) (hR : Nd W r.p ir br nr lr mr kr) (hA : Nd W a.p ia ba na la ma ka)
    (hnr : nr < 3) (hna : 3 < na) (hm : m ≤ 50) (Q : World → Prop) (hc : Calls Try.prog 142 #[.pointer (some ⟨p, 0, none⟩), .int .i64 ((i : Int) + 1)] W fun e W' => e = .returned (.tuple #[]) ∧ Q W') :
    Calls Try.prog 124 #[.pointer (some ⟨p, 0, none⟩), .int .i64 ((i : Int) + 1)] W fun e W' => e = .returned (.tuple #[]) ∧ Q W' := by
  obtain ⟨io, ic, rfl⟩ := owns_slice hP.items
  obtain ⟨bo, bc, rfl⟩ := owns_slice hP.below
  obtain ⟨ro, rc, rfl⟩ := owns_slice hR.items
  obtain ⟨ao, ac, rfl⟩ := owns_slice hA.items
  have him : i + 1 < m := by rw [← hP.lk]; exact (List.getElem?_eq_some_iff.1 hr).1
  obtain ⟨rk, rfl, c1, l1⟩ := kid_cell hP.below ha hP.lk
  obtain ⟨rk2, hrk, c2, l2⟩ := kid_cell hP.below hr hP.lk
  obtain rfl : rk2 = rk := by injection hrk with h; injection h with h; exact h.symm
  have gP := fun i => cell_of_row W p i _ _ (0, 0) hP.heap
  have gR := fun i => cell_of_row W r.p i _ _ (0, 0) hR.heap
  have gA := fun i => cell_of_row W a.p i _ _ (0, 0) hA.heap
  have ei : IntKind.i64.wrap ((i : Int) + 1 - 1) = (i : Int) := by rw [show (i : Int) + 1 - 1 = (i : Int) by omega]; exact IntWalk.i64_in _ (by omega)
  have ej : IntKind.i64.wrap (i : Int) = (i : Int) := IntWalk.i64_in _ (by omega)
  have hikI : (i : Int) < (m : Int) := by omega
  have hikJ : (i : Int) + 1 < (m : Int) := by omega
  have d1 : decide ((3 : Int) ≤ (nr : Int)) = false := decide_eq_false (by omega)
  have d2 : decide ((0 : Int) < (i : Int) + 1) = true := decide_eq_true (by omega)
  have d3 : decide ((3 : Int) < (na : Int)) = true := decide_eq_true (by omega)
  have HC := hid hc
  clear hP hR hA hc hrk
  go_enter Try.func124, Try.ntmps124
  go_wp2_with fail
  go_at_call 142
  refine HC.out.mono ?_
  rintro _ W9 ⟨rfl, hq⟩
  have HQ := hid hq
  clear hq c1 c2 gP gR gA
  go_wp2_with fail
  go_end0
  exact ⟨rfl, HQ.out⟩
set_option maxRecDepth 100000 in
set_option maxHeartbeats 4000000 in
theorem fill_stay (W : World) (p n m i : Nat) (iv bv ir br : Value) (its lr : List It) (ks kr : List Kid) (r : Kid) (nr mr : Nat) (hP : Nd W p iv bv n its m ks) (hr : ks[i]? = some r) (hR : Nd W r.p ir br nr lr mr kr) (hnr : 3 ≤ nr) (hm : m ≤ 50) :
    Calls Try.prog 124 #[.pointer (some ⟨p, 0, none⟩), .int .i64 i] W fun e W' => e = .returned (.tuple #[]) ∧ W' = W := by
  obtain ⟨io, ic, rfl⟩ := owns_slice hP.items
  obtain ⟨bo, bc, rfl⟩ := owns_slice hP.below
  obtain ⟨ro, rc, rfl⟩ := owns_slice hR.items
  have him : i < m := by rw [← hP.lk]; exact (List.getElem?_eq_some_iff.1 hr).1
  obtain ⟨rk, rfl, c1, l1⟩ := kid_cell hP.below hr hP.lk
  have gP := fun i => cell_of_row W p i _ _ (0, 0) hP.heap
  have gR := fun i => cell_of_row W r.p i _ _ (0, 0) hR.heap
  have hikI : (i : Int) < (m : Int) := by omega
  have d1 : decide ((3 : Int) ≤ (nr : Int)) = true := decide_eq_true (by omega)
  clear hP hR
  go_enter Try.func124, Try.ntmps124
  go_wp2_with fail
  refine bodyPost_ret (results_none rfl _ _ _) rfl ?_
  exact ⟨rfl, rfl⟩
set_option maxRecDepth 100000 in
set_option maxHeartbeats 4000000 in
theorem fill_right (W : World) (p n m i : Nat) (iv bv ir br ia ba ib bb : Value) (its lr la lb : List It) (ks kr ka kb : List Kid) (r a b : Kid) (nr mr na ma nb mb : Nat) (hP : Nd W p iv bv n its m ks) (hr : ks[i + 1]? = some r) (hR : Nd W r.p ir br nr lr mr kr) (hnr : nr < 3) (ha : ks[i]? = some a) (hA : Nd W a.p ia ba na la ma ka) (hna : na ≤ 3) (hb : ks[i + 2]? = some b) (hB : Nd W b.p ib bb nb lb mb kb) (hnb : 3 < nb) (hm : m ≤ 50) (Q : World → Prop) (hc : Calls Try.prog 143 #[.pointer (some ⟨p, 0, none⟩), .int .i64 ((i : Int) + 1)] W fun e W' => e = .returned (.tuple #[]) ∧ Q W') :
    Calls Try.prog 124 #[.pointer (some ⟨p, 0, none⟩), .int .i64 ((i : Int) + 1)] W fun e W' => e = .returned (.tuple #[]) ∧ Q W' := by
  obtain ⟨io, ic, rfl⟩ := owns_slice hP.items
  obtain ⟨bo, bc, rfl⟩ := owns_slice hP.below
  obtain ⟨ro, rc, rfl⟩ := owns_slice hR.items
  obtain ⟨ao, ac, rfl⟩ := owns_slice hA.items
  obtain ⟨vo, vc, rfl⟩ := owns_slice hB.items
  have him : i + 1 < m := by rw [← hP.lk]; exact (List.getElem?_eq_some_iff.1 hr).1
  obtain ⟨rk, rfl, c1, l1⟩ := kid_cell hP.below hr hP.lk
  obtain ⟨rk2, hrk, c2, l2⟩ := kid_cell hP.below ha hP.lk
  obtain rfl : rk2 = rk := by injection hrk with h; injection h with h; exact h.symm
  clear hrk
  obtain ⟨rk3, hrk, c3, l3⟩ := kid_cell hP.below hb hP.lk
  obtain rfl : rk3 = rk2 := by injection hrk with h; injection h with h; exact h.symm
  clear hrk
  have him2 : i + 2 < m := by rw [← hP.lk]; exact (List.getElem?_eq_some_iff.1 hb).1
  have gP := fun i => cell_of_row W p i _ _ (0, 0) hP.heap
  have gR := fun i => cell_of_row W r.p i _ _ (0, 0) hR.heap
  have gA := fun i => cell_of_row W a.p i _ _ (0, 0) hA.heap
  have gB := fun i => cell_of_row W b.p i _ _ (0, 0) hB.heap
  have ei : IntKind.i64.wrap ((i : Int) + 1 - 1) = (i : Int) := by rw [show (i : Int) + 1 - 1 = (i : Int) by omega]; exact IntWalk.i64_in _ (by omega)
  have ej : IntKind.i64.wrap (i : Int) = (i : Int) := IntWalk.i64_in _ (by omega)
  have ek : IntKind.i64.wrap ((i : Int) + 1 + 1) = (i : Int) + 2 := by rw [show (i : Int) + 1 + 1 = (i : Int) + 2 by omega]; exact IntWalk.i64_in _ (by omega)
  have el : IntKind.i64.wrap ((i : Int) + 2) = (i : Int) + 2 := IntWalk.i64_in _ (by omega)
  have hikI : (i : Int) < (m : Int) := by omega
  have hikJ : (i : Int) + 1 < (m : Int) := by omega
  have d2 : decide ((0 : Int) < (i : Int) + 1) = true := decide_eq_true (by omega)
  have d3 : decide ((3 : Int) < (na : Int)) = false := decide_eq_false (by omega)
  have hikK : (i : Int) + 2 < (m : Int) := by omega
  have d4 : decide ((i : Int) + 2 < (m : Int)) = true := decide_eq_true (by omega)
  have d5 : decide ((3 : Int) < (nb : Int)) = true := decide_eq_true (by omega)
  have d1 : decide ((3 : Int) ≤ (nr : Int)) = false := decide_eq_false (by omega)
  have HC := hid hc
  clear hc hP hR hA hB
  go_enter Try.func124, Try.ntmps124
  go_wp2_with fail
  go_at_call 143
  refine HC.out.mono ?_
  rintro _ W9 ⟨rfl, hq⟩
  have HQ := hid hq
  clear hq HC
  clear gP gR
  go_wp2_with fail
  go_end0
  exact ⟨rfl, HQ.out⟩
set_option maxRecDepth 100000 in
set_option maxHeartbeats 4000000 in
theorem fill_right0 (W : World) (p n m : Nat) (iv bv ir br ib bb : Value) (its lr lb : List It) (ks kr kb : List Kid) (r b : Kid) (nr mr nb mb : Nat) (hP : Nd W p iv bv n its m ks) (hr : ks[0]? = some r) (hR : Nd W r.p ir br nr lr mr kr) (hnr : nr < 3) (hb : ks[1]? = some b) (hB : Nd W b.p ib bb nb lb mb kb) (hnb : 3 < nb) (hm : m ≤ 50) (Q : World → Prop) (hc : Calls Try.prog 143 #[.pointer (some ⟨p, 0, none⟩), .int .i64 0] W fun e W' => e = .returned (.tuple #[]) ∧ Q W') :
    Calls Try.prog 124 #[.pointer (some ⟨p, 0, none⟩), .int .i64 0] W fun e W' => e = .returned (.tuple #[]) ∧ Q W' := by
  obtain ⟨io, ic, rfl⟩ := owns_slice hP.items
  obtain ⟨bo, bc, rfl⟩ := owns_slice hP.below
  obtain ⟨ro, rc, rfl⟩ := owns_slice hR.items
  obtain ⟨vo, vc, rfl⟩ := owns_slice hB.items
  have him : 0 < m := by rw [← hP.lk]; exact (List.getElem?_eq_some_iff.1 hr).1
  obtain ⟨rk, rfl, c1, l1⟩ := kid_cell hP.below hr hP.lk
  obtain ⟨rk3, hrk, c3, l3⟩ := kid_cell hP.below hb hP.lk
  obtain rfl : rk3 = rk := by injection hrk with h; injection h with h; exact h.symm
  clear hrk
  have him2 : 1 < m := by rw [← hP.lk]; exact (List.getElem?_eq_some_iff.1 hb).1
  have gP := fun i => cell_of_row W p i _ _ (0, 0) hP.heap
  have gR := fun i => cell_of_row W r.p i _ _ (0, 0) hR.heap
  have gB := fun i => cell_of_row W b.p i _ _ (0, 0) hB.heap
  have hikJ : (0 : Int) < (m : Int) := by omega
  have hikK : (1 : Int) < (m : Int) := by omega
  have d4 : decide ((1 : Int) < (m : Int)) = true := decide_eq_true (by omega)
  have d5 : decide ((3 : Int) < (nb : Int)) = true := decide_eq_true (by omega)
  have d1 : decide ((3 : Int) ≤ (nr : Int)) = false := decide_eq_false (by omega)
  have HC := hid hc
  clear hc hP hR hB
  go_enter Try.func124, Try.ntmps124
  go_wp2_with fail
  go_at_call 143
  refine HC.out.mono ?_
  rintro _ W9 ⟨rfl, hq⟩
  have HQ := hid hq
  clear hq HC
  clear gP gR
  go_wp2_with fail
  go_end0
  exact ⟨rfl, HQ.out⟩
set_option maxRecDepth 100000 in
set_option maxHeartbeats 4000000 in
theorem fill_join (W : World) (p n m i : Nat) (iv bv ir br ia ba ib bb : Value) (its lr la lb : List It) (ks kr ka kb : List Kid) (r a b : Kid) (nr mr na ma nb mb : Nat) (hP : Nd W p iv bv n its m ks) (hr : ks[i + 1]? = some r) (hR : Nd W r.p ir br nr lr mr kr) (hnr : nr < 3) (ha : ks[i]? = some a) (hA : Nd W a.p ia ba na la ma ka) (hna : na ≤ 3) (hb : ks[i + 2]? = some b) (hB : Nd W b.p ib bb nb lb mb kb) (hnb : nb ≤ 3) (hm : m ≤ 50) (Q : World → Prop) (hc : Calls Try.prog 144 #[.pointer (some ⟨p, 0, none⟩), .int .i64 (i : Int)] W fun e W' => e = .returned (.tuple #[]) ∧ Q W') :
    Calls Try.prog 124 #[.pointer (some ⟨p, 0, none⟩), .int .i64 ((i : Int) + 1)] W fun e W' => e = .returned (.tuple #[]) ∧ Q W' := by
  obtain ⟨io, ic, rfl⟩ := owns_slice hP.items
  obtain ⟨bo, bc, rfl⟩ := owns_slice hP.below
  obtain ⟨ro, rc, rfl⟩ := owns_slice hR.items
  obtain ⟨ao, ac, rfl⟩ := owns_slice hA.items
  obtain ⟨vo, vc, rfl⟩ := owns_slice hB.items
  have him : i + 1 < m := by rw [← hP.lk]; exact (List.getElem?_eq_some_iff.1 hr).1
  obtain ⟨rk, rfl, c1, l1⟩ := kid_cell hP.below hr hP.lk
  obtain ⟨rk2, hrk, c2, l2⟩ := kid_cell hP.below ha hP.lk
  obtain rfl : rk2 = rk := by injection hrk with h; injection h with h; exact h.symm
  clear hrk
  obtain ⟨rk3, hrk, c3, l3⟩ := kid_cell hP.below hb hP.lk
  obtain rfl : rk3 = rk2 := by injection hrk with h; injection h with h; exact h.symm
  clear hrk
  have him2 : i + 2 < m := by rw [← hP.lk]; exact (List.getElem?_eq_some_iff.1 hb).1
  have gP := fun i => cell_of_row W p i _ _ (0, 0) hP.heap
  have gR := fun i => cell_of_row W r.p i _ _ (0, 0) hR.heap
  have gA := fun i => cell_of_row W a.p i _ _ (0, 0) hA.heap
  have gB := fun i => cell_of_row W b.p i _ _ (0, 0) hB.heap
  have ei : IntKind.i64.wrap ((i : Int) + 1 - 1) = (i : Int) := by rw [show (i : Int) + 1 - 1 = (i : Int) by omega]; exact IntWalk.i64_in _ (by omega)
  have ej : IntKind.i64.wrap (i : Int) = (i : Int) := IntWalk.i64_in _ (by omega)
  have ek : IntKind.i64.wrap ((i : Int) + 1 + 1) = (i : Int) + 2 := by rw [show (i : Int) + 1 + 1 = (i : Int) + 2 by omega]; exact IntWalk.i64_in _ (by omega)
  have el : IntKind.i64.wrap ((i : Int) + 2) = (i : Int) + 2 := IntWalk.i64_in _ (by omega)
  have hikI : (i : Int) < (m : Int) := by omega
  have hikJ : (i : Int) + 1 < (m : Int) := by omega
  have d2 : decide ((0 : Int) < (i : Int) + 1) = true := decide_eq_true (by omega)
  have d3 : decide ((3 : Int) < (na : Int)) = false := decide_eq_false (by omega)
  have hikK : (i : Int) + 2 < (m : Int) := by omega
  have d4 : decide ((i : Int) + 2 < (m : Int)) = true := decide_eq_true (by omega)
  have d5 : decide ((3 : Int) < (nb : Int)) = false := decide_eq_false (by omega)
  have d1 : decide ((3 : Int) ≤ (nr : Int)) = false := decide_eq_false (by omega)
  have HC := hid hc
  clear hc hP hR hA hB
  go_enter Try.func124, Try.ntmps124
  go_wp2_with fail
  go_at_call 144
  refine HC.out.mono ?_
  rintro _ W9 ⟨rfl, hq⟩
  have HQ := hid hq
  clear hq HC
  clear gP gR
  go_wp2_with fail
  go_end0
  exact ⟨rfl, HQ.out⟩
set_option maxRecDepth 100000 in
set_option maxHeartbeats 4000000 in
theorem fill_joinE (W : World) (p n m i : Nat) (iv bv ir br ia ba : Value) (its lr la : List It) (ks kr ka : List Kid) (r a : Kid) (nr mr na ma : Nat) (hP : Nd W p iv bv n its m ks) (hr : ks[i + 1]? = some r) (hR : Nd W r.p ir br nr lr mr kr) (hnr : nr < 3) (ha : ks[i]? = some a) (hA : Nd W a.p ia ba na la ma ka) (hna : na ≤ 3) (hlast : m = i + 2) (hm : m ≤ 50) (Q : World → Prop) (hc : Calls Try.prog 144 #[.pointer (some ⟨p, 0, none⟩), .int .i64 (i : Int)] W fun e W' => e = .returned (.tuple #[]) ∧ Q W') :
    Calls Try.prog 124 #[.pointer (some ⟨p, 0, none⟩), .int .i64 ((i : Int) + 1)] W fun e W' => e = .returned (.tuple #[]) ∧ Q W' := by
  obtain ⟨io, ic, rfl⟩ := owns_slice hP.items
  obtain ⟨bo, bc, rfl⟩ := owns_slice hP.below
  obtain ⟨ro, rc, rfl⟩ := owns_slice hR.items
  obtain ⟨ao, ac, rfl⟩ := owns_slice hA.items
  have him : i + 1 < m := by rw [← hP.lk]; exact (List.getElem?_eq_some_iff.1 hr).1
  obtain ⟨rk, rfl, c1, l1⟩ := kid_cell hP.below hr hP.lk
  obtain ⟨rk2, hrk, c2, l2⟩ := kid_cell hP.below ha hP.lk
  obtain rfl : rk2 = rk := by injection hrk with h; injection h with h; exact h.symm
  clear hrk
  have gP := fun i => cell_of_row W p i _ _ (0, 0) hP.heap
  have gR := fun i => cell_of_row W r.p i _ _ (0, 0) hR.heap
  have gA := fun i => cell_of_row W a.p i _ _ (0, 0) hA.heap
  have ei : IntKind.i64.wrap ((i : Int) + 1 - 1) = (i : Int) := by rw [show (i : Int) + 1 - 1 = (i : Int) by omega]; exact IntWalk.i64_in _ (by omega)
  have ej : IntKind.i64.wrap (i : Int) = (i : Int) := IntWalk.i64_in _ (by omega)
  have ek : IntKind.i64.wrap ((i : Int) + 1 + 1) = (i : Int) + 2 := by rw [show (i : Int) + 1 + 1 = (i : Int) + 2 by omega]; exact IntWalk.i64_in _ (by omega)
  have el : IntKind.i64.wrap ((i : Int) + 2) = (i : Int) + 2 := IntWalk.i64_in _ (by omega)
  have hikI : (i : Int) < (m : Int) := by omega
  have hikJ : (i : Int) + 1 < (m : Int) := by omega
  have d2 : decide ((0 : Int) < (i : Int) + 1) = true := decide_eq_true (by omega)
  have d3 : decide ((3 : Int) < (na : Int)) = false := decide_eq_false (by omega)
  have d4 : decide ((i : Int) + 2 < (m : Int)) = false := decide_eq_false (by omega)
  have d1 : decide ((3 : Int) ≤ (nr : Int)) = false := decide_eq_false (by omega)
  have HC := hid hc
  clear hc hP hR hA
  go_enter Try.func124, Try.ntmps124
  go_wp2_with fail
  go_at_call 144
  refine HC.out.mono ?_
  rintro _ W9 ⟨rfl, hq⟩
  have HQ := hid hq
  clear hq HC
  clear gP gR
  go_wp2_with fail
  go_end0
  exact ⟨rfl, HQ.out⟩
set_option maxRecDepth 100000 in
set_option maxHeartbeats 4000000 in
theorem fill_join0 (W : World) (p n m : Nat) (iv bv ir br ib bb : Value) (its lr lb : List It) (ks kr kb : List Kid) (r b : Kid) (nr mr nb mb : Nat) (hP : Nd W p iv bv n its m ks) (hr : ks[0]? = some r) (hR : Nd W r.p ir br nr lr mr kr) (hnr : nr < 3) (hb : ks[1]? = some b) (hB : Nd W b.p ib bb nb lb mb kb) (hnb : nb ≤ 3) (hm : m ≤ 50) (Q : World → Prop) (hc : Calls Try.prog 144 #[.pointer (some ⟨p, 0, none⟩), .int .i64 0] W fun e W' => e = .returned (.tuple #[]) ∧ Q W') :
    Calls Try.prog 124 #[.pointer (some ⟨p, 0, none⟩), .int .i64 0] W fun e W' => e = .returned (.tuple #[]) ∧ Q W' := by
  obtain ⟨io, ic, rfl⟩ := owns_slice hP.items
  obtain ⟨bo, bc, rfl⟩ := owns_slice hP.below
  obtain ⟨ro, rc, rfl⟩ := owns_slice hR.items
  obtain ⟨vo, vc, rfl⟩ := owns_slice hB.items
  have him : 0 < m := by rw [← hP.lk]; exact (List.getElem?_eq_some_iff.1 hr).1
  obtain ⟨rk, rfl, c1, l1⟩ := kid_cell hP.below hr hP.lk
  obtain ⟨rk3, hrk, c3, l3⟩ := kid_cell hP.below hb hP.lk
  obtain rfl : rk3 = rk := by injection hrk with h; injection h with h; exact h.symm
  clear hrk
  have him2 : 1 < m := by rw [← hP.lk]; exact (List.getElem?_eq_some_iff.1 hb).1
  have gP := fun i => cell_of_row W p i _ _ (0, 0) hP.heap
  have gR := fun i => cell_of_row W r.p i _ _ (0, 0) hR.heap
  have gB := fun i => cell_of_row W b.p i _ _ (0, 0) hB.heap
  have hikJ : (0 : Int) < (m : Int) := by omega
  have hikK : (1 : Int) < (m : Int) := by omega
  have d4 : decide ((1 : Int) < (m : Int)) = true := decide_eq_true (by omega)
  have d5 : decide ((3 : Int) < (nb : Int)) = false := decide_eq_false (by omega)
  have d1 : decide ((3 : Int) ≤ (nr : Int)) = false := decide_eq_false (by omega)
  have HC := hid hc
  clear hc hP hR hB
  go_enter Try.func124, Try.ntmps124
  go_wp2_with fail
  go_at_call 144
  refine HC.out.mono ?_
  rintro _ W9 ⟨rfl, hq⟩
  have HQ := hid hq
  clear hq HC
  clear gP gR
  go_wp2_with fail
  go_end0
  exact ⟨rfl, HQ.out⟩
end Go.Proofs.Ythknenhcnpgkcaa

/- Contracts of package shelf: fill, all cases together. -/
namespace Go.Proofs.Ythknenhcnpgkcaa
set_option linter.unusedVariables false
set_option linter.unusedSimpArgs false
open Go.RowKit
theorem mid_of {α : Type} {l : List α} {i : Nat} {x : α} (h : l[i]? = some x) : ∃ L R, l = L ++ x :: R ∧ L.length = i := by
  obtain ⟨hl, hx⟩ := List.getElem?_eq_some_iff.1 h
  refine ⟨l.take i, l.drop (i + 1), ?_, by rw [List.length_take]; omega⟩
  rw [← hx, ← List.drop_eq_getElem_cons hl, List.take_append_drop]
/-- Two nodes side by side below a third: no block is in two of them. -/
theorem three_le {W : World} {p : Nat} {iv bv ia ba ib bb : Value} {its la lb : List It} {L0 R ak bk : List Kid} {a r : Kid} {c : Cnt} (hN : Node W p iv bv its (L0 ++ a :: r :: R) c) (hNa : Node W a.p ia ba la ak a.c) (hNb : Node W r.p ib bb lb bk r.c) :
    ∀ k, one p k + (blk iv k + (blk bv k + (one a.p k + (blk ia k + (blk ba k + (one r.p k + (blk ib k + blk bb k))))))) ≤ 1 := fun k => by
  have h1 := hN.cnt k; have h2 := hN.le k; have h3 := hNa.cnt k; have h4 := hNb.cnt k
  rw [sumC_mid2] at h1
  omega
theorem Good.kids_le {d : Nat} {W : World} {its xs : List It} {kids : List Kid} (h : Good d W its kids xs) : kids.length ≤ its.length + 1 := by
  cases d with
  | zero => obtain ⟨rfl, _⟩ := h; simp
  | succ d => exact Nat.le_of_eq h.1
theorem pair_left {d : Nat} {W : World} {p : Nat} {iv bv ia ba ib bb : Value} {I0 I1 la lb : List It} {y : It} {L0 R ak bk : List Kid} {a r : Kid} {c : Cnt} (hN : Node W p iv bv (I0 ++ y :: I1) (L0 ++ a :: r :: R) c) (hlt : ∀ k, c k ≠ 0 → k < W.heap.size) (hL : L0.length = I0.length) (hR : R.length = I1.length) (h6 : (I0 ++ y :: I1).length ≤ 6)
    (hNa : Node W a.p ia ba la ak a.c) (hNb : Node W r.p ib bb lb bk r.c) (hGa : Good d W la ak a.xs) (hGb : Good d W lb bk r.xs) (ha : 3 < la.length) (ha6 : la.length ≤ 6) (hb : 2 ≤ lb.length) (hb3 : lb.length < 3) (hrest : ∀ s, s ∈ L0 ∨ s ∈ R → At d 3 W s) :
    Calls Try.prog 142 #[.pointer (some ⟨p, 0, none⟩), .int .i64 ((L0.length : Int) + 1)] W fun e W' => e = .returned (.tuple #[]) ∧ FillPost d W W' p (I0 ++ y :: I1).length (weave Kid.xs (L0 ++ a :: r :: R) (I0 ++ y :: I1)) c := by
  have hks : (L0 ++ a :: r :: R).length = (I0 ++ y :: I1).length + 1 := by simp [hL, hR]; omega
  have ma := hGa.kids_le
  have mb := hGb.kids_le
  obtain ⟨na, hna⟩ : ∃ na, la.length = na + 1 := ⟨la.length - 1, by omega⟩
  obtain ⟨A, x, hA, hAl, _⟩ := last_at hna
  obtain ⟨lf, ka, kb, xa, xb, hlf, hif, hx, hk, hg⟩ := shareL y hGa hGb hA
  have hnda := hNa.nd
  rw [hna] at hnda
  refine (fromLeft_is W p a.p r.p iv bv ia ba ib bb _ la lb _ ak bk _ na _ _ _ _ hN.nd hnda hNb.nd (three_le hN hNa hNb) L0.length a r (by simp) (by simp) rfl rfl y (by rw [hL]; simp) A x hA (by omega) (by omega) (by omega) (by omega) (by omega) (by omega) lf hlf ka kb (by rw [← hAl]; exact hif)).mono ?_
  rintro e W' ⟨rfl, hM⟩
  rw [hL] at hM
  exact ⟨rfl, moved_fill hN hlt hL hR hNa hNb hM hx hk hg (by omega) (by simp; omega) hrest⟩
theorem pair_right {d : Nat} {W : World} {p : Nat} {iv bv ia ba ib bb : Value} {I0 I1 la lb : List It} {y : It} {L0 R ak bk : List Kid} {a r : Kid} {c : Cnt} (hN : Node W p iv bv (I0 ++ y :: I1) (L0 ++ a :: r :: R) c) (hlt : ∀ k, c k ≠ 0 → k < W.heap.size) (hL : L0.length = I0.length) (hR : R.length = I1.length) (h6 : (I0 ++ y :: I1).length ≤ 6)
    (hNa : Node W a.p ia ba la ak a.c) (hNb : Node W r.p ib bb lb bk r.c) (hGa : Good d W la ak a.xs) (hGb : Good d W lb bk r.xs) (hb : 3 < lb.length) (hb6 : lb.length ≤ 6) (ha : 2 ≤ la.length) (ha3 : la.length < 3) (hrest : ∀ s, s ∈ L0 ∨ s ∈ R → At d 3 W s) :
    Calls Try.prog 143 #[.pointer (some ⟨p, 0, none⟩), .int .i64 (L0.length : Int)] W fun e W' => e = .returned (.tuple #[]) ∧ FillPost d W W' p (I0 ++ y :: I1).length (weave Kid.xs (L0 ++ a :: r :: R) (I0 ++ y :: I1)) c := by
  have hks : (L0 ++ a :: r :: R).length = (I0 ++ y :: I1).length + 1 := by simp [hL, hR]; omega
  have ma := hGa.kids_le
  have mb := hGb.kids_le
  obtain ⟨x, B, hB⟩ : ∃ x B, lb = x :: B := by
    cases lb with
    | nil => simp at hb
    | cons x B => exact ⟨x, B, rfl⟩
  have hBl : lb.length = B.length + 1 := by rw [hB]; rfl
  obtain ⟨lf, ka, kb, xa, xb, hlf, hif, hx, hk, hg⟩ := shareR y hGa hGb hB
  have hndb := hNb.nd
  rw [hBl] at hndb
  refine (fromRight_is W p a.p r.p iv bv ia ba ib bb _ la lb _ ak bk _ _ B.length _ _ _ hN.nd hNa.nd hndb (three_le hN hNa hNb) L0.length a r (by simp) (by simp) rfl rfl y (by rw [hL]; simp) B x hB (by omega) (by omega) (by omega) (by omega) (by omega) (by omega) lf hlf ka kb hif).mono ?_
  rintro e W' ⟨rfl, hM⟩
  rw [hL] at hM
  exact ⟨rfl, moved_fill hN hlt hL hR hNa hNb hM hx hk hg (by simp; omega) (by omega) hrest⟩
theorem pair_join {d : Nat} {W : World} {p : Nat} {iv bv ia ba ib bb : Value} {I0 I1 la lb : List It} {y : It} {L0 R ak bk : List Kid} {a r : Kid} {c : Cnt} (hN : Node W p iv bv (I0 ++ y :: I1) (L0 ++ a :: r :: R) c) (hlt : ∀ k, c k ≠ 0 → k < W.heap.size) (hL : L0.length = I0.length) (hR : R.length = I1.length) (h6 : (I0 ++ y :: I1).length ≤ 6)
    (hNa : Node W a.p ia ba la ak a.c) (hNb : Node W r.p ib bb lb bk r.c) (hGa : Good d W la ak a.xs) (hGb : Good d W lb bk r.xs) (ha : 2 ≤ la.length) (hb : 2 ≤ lb.length) (hab : la.length + lb.length ≤ 5) (hrest : ∀ s, s ∈ L0 ∨ s ∈ R → At d 3 W s) :
    Calls Try.prog 144 #[.pointer (some ⟨p, 0, none⟩), .int .i64 (L0.length : Int)] W fun e W' => e = .returned (.tuple #[]) ∧ FillPost d W W' p (I0 ++ y :: I1).length (weave Kid.xs (L0 ++ a :: r :: R) (I0 ++ y :: I1)) c := by
  have hks : (L0 ++ a :: r :: R).length = (I0 ++ y :: I1).length + 1 := by simp [hL, hR]; omega
  have ma := hGa.kids_le
  have mb := hGb.kids_le
  obtain ⟨n, hn⟩ : ∃ n, (I0 ++ y :: I1).length = n + 1 := ⟨I0.length + I1.length, by simp; omega⟩
  have hnd := hN.nd
  rw [hks, hn] at hnd
  refine (merge_is W p a.p r.p iv bv ia ba ib bb _ la lb _ ak bk n _ _ (n + 1) _ _ hnd hNa.nd hNb.nd (three_le hN hNa hNb) L0.length a r (by simp) (by simp) rfl rfl y (by rw [hL]; simp) (by omega) (by omega) (by omega) (by omega) (by omega) (by omega)).mono ?_
  rintro e W' ⟨rfl, hM⟩
  have hM' : Joined W W' p a.p iv bv ((I0 ++ y :: I1).take I0.length ++ (I0 ++ y :: I1).drop (I0.length + 1)) ((L0 ++ a :: r :: R).take (L0.length + 1) ++ (L0 ++ a :: r :: R).drop (L0.length + 2)) (la ++ y :: lb) (ak ++ bk) := by rw [← hL]; exact hM
  exact ⟨rfl, joined_fill hN hlt hL hR hNa hNb hM' (fun W' hW => joinG y hGa hGb W' hW) (by simp; omega) hrest⟩
theorem pair_of {kids : List Kid} {its : List It} (hk : kids.length = its.length + 1) {j : Nat} {a r : Kid} (ha : kids[j]? = some a) (hr : kids[j + 1]? = some r) :
    ∃ L0 R I0 y I1, kids = L0 ++ a :: r :: R ∧ its = I0 ++ y :: I1 ∧ L0.length = j ∧ L0.length = I0.length ∧ R.length = I1.length := by
  obtain ⟨L0, T, rfl, hL⟩ := mid_of ha
  subst hL
  rw [List.getElem?_append_right (by omega)] at hr
  have hr' : T[0]? = some r := by simpa [show L0.length + 1 - L0.length = 1 by omega] using hr
  obtain ⟨R, rfl⟩ : ∃ R, T = r :: R := by
    cases T with
    | nil => simp at hr'
    | cons t R => exact ⟨R, by have : t = r := by simpa using hr'
                               rw [this]⟩
  simp at hk
  obtain ⟨y, hy⟩ : ∃ y, its[L0.length]? = some y := ⟨_, List.getElem?_eq_getElem (by omega)⟩
  obtain ⟨I0, I1, rfl, hI⟩ := mid_of hy
  simp at hk
  exact ⟨L0, R, I0, y, I1, rfl, rfl, rfl, hI.symm, by omega⟩
theorem rest_of {L0 R : List Kid} {a r s : Kid} (h : s ∈ L0 ∨ s ∈ R) : ∃ t, (L0 ++ a :: r :: R)[t]? = some s ∧ t ≠ L0.length ∧ t ≠ L0.length + 1 := by
  rcases h with h | h
  · obtain ⟨t, ht⟩ := List.mem_iff_getElem?.1 h
    have hl := (List.getElem?_eq_some_iff.1 ht).1
    exact ⟨t, by rw [List.getElem?_append_left hl, ht], by omega, by omega⟩
  · obtain ⟨t, ht⟩ := List.mem_iff_getElem?.1 h
    refine ⟨L0.length + 2 + t, ?_, by omega, by omega⟩
    rw [List.getElem?_append_right (by omega), show L0.length + 2 + t - L0.length = t + 1 + 1 by omega]
    simpa using ht
theorem fill_is {d : Nat} {W : World} {p : Nat} {iv bv : Value} {its : List It} {kids : List Kid} {c : Cnt} (hN : Node W p iv bv its kids c) (hlt : ∀ k, c k ≠ 0 → k < W.heap.size) (h1 : 1 ≤ its.length) (h6 : its.length ≤ 6) (hk : kids.length = its.length + 1)
    (i : Nat) (r : Kid) (hr : kids[i]? = some r) (hat : At d 2 W r) (hrest : ∀ j s, j ≠ i → kids[j]? = some s → At d 3 W s) :
    Calls Try.prog 124 #[.pointer (some ⟨p, 0, none⟩), .int .i64 i] W fun e W' => e = .returned (.tuple #[]) ∧ FillPost d W W' p its.length (weave Kid.xs kids its) c := by
  obtain ⟨ir, br, lr, kr, hNr, hr2, hr6, hGr⟩ := hat.node
  have hil : i < kids.length := (List.getElem?_eq_some_iff.1 hr).1
  rcases Nat.lt_or_ge lr.length 3 with hlr | hlr
  · rcases i with _ | j
    · obtain ⟨b, hb⟩ : ∃ b, kids[1]? = some b := ⟨_, List.getElem?_eq_getElem (by omega)⟩
      obtain ⟨ib, bb, lb, kb, hNb, hb3, hb6, hGb⟩ := (hrest 1 b (by omega) hb).node
      obtain ⟨L0, R, I0, y, I1, rfl, rfl, hL, hLI, hRI⟩ := pair_of hk hr hb
      have hrs : ∀ s, s ∈ L0 ∨ s ∈ R → At d 3 W s := fun s hs => by
        obtain ⟨t, ht, h1, h2⟩ := rest_of (a := r) (r := b) hs
        exact hrest t s (by omega) ht
      rw [Int.natCast_zero]
      rcases Nat.lt_or_ge 3 lb.length with h | h
      · have hc := pair_right hN hlt hLI hRI h6 hNr hNb hGr hGb h hb6 hr2 hlr hrs
        rw [hL, Int.natCast_zero] at hc
        exact fill_right0 W p _ _ iv bv ir br ib bb _ lr lb _ kr kb r b _ _ _ _ hN.nd hr hNr.nd hlr hb hNb.nd h (by omega) _ hc
      · have hc := pair_join hN hlt hLI hRI h6 hNr hNb hGr hGb hr2 (by omega) (by omega) hrs
        rw [hL, Int.natCast_zero] at hc
        exact fill_join0 W p _ _ iv bv ir br ib bb _ lr lb _ kr kb r b _ _ _ _ hN.nd hr hNr.nd hlr hb hNb.nd h (by omega) _ hc
    · obtain ⟨a, ha⟩ : ∃ a, kids[j]? = some a := ⟨_, List.getElem?_eq_getElem (by omega)⟩
      obtain ⟨ia, ba, la, ka, hNa, ha3, ha6, hGa⟩ := (hrest j a (by omega) ha).node
      rw [show ((j + 1 : Nat) : Int) = (j : Int) + 1 by omega]
      have hjoin : la.length ≤ 3 → Calls Try.prog 144 #[.pointer (some ⟨p, 0, none⟩), .int .i64 (j : Int)] W fun e W' => e = .returned (.tuple #[]) ∧ FillPost d W W' p its.length (weave Kid.xs kids its) c := fun h => by
        obtain ⟨L0, R, I0, y, I1, rfl, rfl, hL, hLI, hRI⟩ := pair_of hk ha hr
        have hrs : ∀ s, s ∈ L0 ∨ s ∈ R → At d 3 W s := fun s hs => by
          obtain ⟨t, ht, h1, h2⟩ := rest_of (a := a) (r := r) hs
          exact hrest t s (by omega) ht
        have hc := pair_join hN hlt hLI hRI h6 hNa hNr hGa hGr (by omega) hr2 (by omega) hrs
        rw [hL] at hc
        exact hc
      rcases Nat.lt_or_ge 3 la.length with h | h
      · obtain ⟨L0, R, I0, y, I1, rfl, rfl, hL, hLI, hRI⟩ := pair_of hk ha hr
        have hrs : ∀ s, s ∈ L0 ∨ s ∈ R → At d 3 W s := fun s hs => by
          obtain ⟨t, ht, h1, h2⟩ := rest_of (a := a) (r := r) hs
          exact hrest t s (by omega) ht
        have hc := pair_left hN hlt hLI hRI h6 hNa hNr hGa hGr h ha6 hr2 hlr hrs
        rw [hL] at hc
        exact fill_left W p _ _ j iv bv ir br ia ba _ lr la _ kr ka r a _ _ _ _ hN.nd hr ha hNr.nd hNa.nd hlr h (by omega) _ hc
      · rcases Nat.lt_or_ge (j + 2) kids.length with hm | hm
        · obtain ⟨b, hb⟩ : ∃ b, kids[j + 2]? = some b := ⟨_, List.getElem?_eq_getElem hm⟩
          obtain ⟨ib, bb, lb, kb, hNb, hb3, hb6, hGb⟩ := (hrest (j + 2) b (by omega) hb).node
          rcases Nat.lt_or_ge 3 lb.length with h' | h'
          · have hright : Calls Try.prog 143 #[.pointer (some ⟨p, 0, none⟩), .int .i64 ((j : Int) + 1)] W fun e W' => e = .returned (.tuple #[]) ∧ FillPost d W W' p its.length (weave Kid.xs kids its) c := by
              obtain ⟨L0, R, I0, y, I1, rfl, rfl, hL, hLI, hRI⟩ := pair_of hk hr hb
              have hrs : ∀ s, s ∈ L0 ∨ s ∈ R → At d 3 W s := fun s hs => by
                obtain ⟨t, ht, h1, h2⟩ := rest_of (a := r) (r := b) hs
                exact hrest t s (by omega) ht
              have hc := pair_right hN hlt hLI hRI h6 hNr hNb hGr hGb h' hb6 hr2 hlr hrs
              rw [hL, show ((j + 1 : Nat) : Int) = (j : Int) + 1 by omega] at hc
              exact hc
            exact fill_right W p _ _ j iv bv ir br ia ba ib bb _ lr la lb _ kr ka kb r a b _ _ _ _ _ _ hN.nd hr hNr.nd hlr ha hNa.nd h hb hNb.nd h' (by omega) _ hright
          · exact fill_join W p _ _ j iv bv ir br ia ba ib bb _ lr la lb _ kr ka kb r a b _ _ _ _ _ _ hN.nd hr hNr.nd hlr ha hNa.nd h hb hNb.nd h' (by omega) _ (hjoin h)
        · exact fill_joinE W p _ _ j iv bv ir br ia ba _ lr la _ kr ka r a _ _ _ _ hN.nd hr hNr.nd hlr ha hNa.nd h (by omega) (by omega) _ (hjoin h)
  · refine (fill_stay W p _ _ i iv bv ir br its lr kids kr r _ _ hN.nd hr hNr.nd hlr (by omega)).mono ?_
    rintro e W' ⟨rfl, rfl⟩
    refine ⟨rfl, iv, bv, its, kids, c, hN, ⟨hk, rfl, fun s hs => ?_⟩, by omega, Nat.le_refl _, ⟨Chg.refl _ _, hN.le, fun k _ => Nat.le_refl _⟩⟩
    obtain ⟨j, hj⟩ := List.mem_iff_getElem?.1 hs
    by_cases hji : j = i
    · subst hji
      obtain rfl : r = s := by rw [hr] at hj; exact Option.some.inj hj
      exact At.of_node hNr hlr hr6 hGr
    · exact hrest j s hji hj
end Go.Proofs.Ythknenhcnpgkcaa
