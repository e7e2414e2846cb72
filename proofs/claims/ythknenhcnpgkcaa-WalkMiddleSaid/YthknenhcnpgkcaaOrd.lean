import Derived.Test.YthknenhcnpgkcaaLessP
/- Sorted lists of items: putting in, taking away, looking up; a node's items and what is below it, woven. Plain lists, no program. -/
namespace Go.Proofs.Ythknenhcnpgkcaa
open Go.RowKit
abbrev It := ByteArray × ByteArray
/-- Key a comes ahead of key b. -/
def lt (a b : ByteArray) : Bool := Op.bytesLess a.data.toList b.data.toList
theorem ba_ext {a b : ByteArray} (h : a.data.toList = b.data.toList) : a = b := by
  cases a; cases b; simp at h; rw [h]
theorem lt_irrefl (a : ByteArray) : lt a a = false := less_irrefl _
theorem lt_trans {a b c : ByteArray} (h : lt a b = true) (k : lt b c = true) : lt a c = true := less_trans _ _ _ h k
theorem lt_asymm {a b : ByteArray} (h : lt a b = true) : lt b a = false := less_asymm _ _ h
theorem lt_total {a b : ByteArray} (h : a ≠ b) : lt b a = !lt a b := less_total _ _ (fun e => h (ba_ext e))
theorem lt_ne {a b : ByteArray} (h : lt a b = true) : a ≠ b := by rintro rfl; rw [lt_irrefl] at h; cases h
theorem lt_of_not {a b : ByteArray} (h : lt a b = false) (hne : a ≠ b) : lt b a = true := by rw [lt_total hne, h]; rfl
/-- Rising. -/
def Rises (xs : List It) : Prop := xs.Pairwise fun a b => lt a.1 b.1 = true
theorem Rises.append {xs ys : List It} : Rises (xs ++ ys) ↔ Rises xs ∧ Rises ys ∧ ∀ a ∈ xs, ∀ b ∈ ys, lt a.1 b.1 = true := List.pairwise_append
theorem Rises.cons {x : It} {ys : List It} : Rises (x :: ys) ↔ (∀ b ∈ ys, lt x.1 b.1 = true) ∧ Rises ys := List.pairwise_cons
theorem Rises.mid {A B : List It} {x : It} (h : Rises (A ++ x :: B)) : (∀ a ∈ A, lt a.1 x.1 = true) ∧ (∀ b ∈ B, lt x.1 b.1 = true) ∧ Rises A ∧ Rises B := by
  obtain ⟨h1, h2, h3⟩ := Rises.append.1 h
  obtain ⟨h4, h5⟩ := Rises.cons.1 h2
  exact ⟨fun a ha => h3 a ha x (by simp), h4, h1, h5⟩
/-- xs' is xs with it put in at its place; no such key was there. -/
def Ins (it : It) (xs xs' : List It) : Prop := ∃ A B, xs = A ++ B ∧ xs' = A ++ it :: B ∧ (∀ a ∈ A, lt a.1 it.1 = true) ∧ (∀ b ∈ B, lt it.1 b.1 = true)
theorem Ins.wrap {it : It} {xs xs' P Q : List It} (h : Ins it xs xs') (hP : ∀ a ∈ P, lt a.1 it.1 = true) (hQ : ∀ b ∈ Q, lt it.1 b.1 = true) : Ins it (P ++ (xs ++ Q)) (P ++ (xs' ++ Q)) := by
  obtain ⟨A, B, rfl, rfl, hA, hB⟩ := h
  refine ⟨P ++ A, B ++ Q, by simp, by simp, fun a ha => ?_, fun b hb => ?_⟩
  · rcases List.mem_append.1 ha with h | h
    · exact hP a h
    · exact hA a h
  · rcases List.mem_append.1 hb with h | h
    · exact hB b h
    · exact hQ b h
theorem Ins.rises {it : It} {xs xs' : List It} (h : Ins it xs xs') (hr : Rises xs) : Rises xs' := by
  obtain ⟨A, B, rfl, rfl, hA, hB⟩ := h
  obtain ⟨h1, h2, h3⟩ := Rises.append.1 hr
  refine Rises.append.2 ⟨h1, Rises.cons.2 ⟨hB, h2⟩, fun a ha b hb => ?_⟩
  rcases List.mem_cons.1 hb with rfl | hb
  · exact hA a ha
  · exact h3 a ha b hb
theorem Ins.length {it : It} {xs xs' : List It} (h : Ins it xs xs') : xs'.length = xs.length + 1 := by
  obtain ⟨A, B, rfl, rfl, _, _⟩ := h
  simp; omega
theorem Ins.mem {it : It} {xs xs' : List It} (h : Ins it xs xs') (x : It) : x ∈ xs' ↔ x = it ∨ x ∈ xs := by
  obtain ⟨A, B, rfl, rfl, _, _⟩ := h
  simp only [List.mem_append, List.mem_cons]
  constructor <;> rintro (h | h | h) <;> simp [h]
/-- Rising lists with the same members are the same. -/
theorem Rises.ext : ∀ {xs ys : List It}, Rises xs → Rises ys → (∀ x, x ∈ xs ↔ x ∈ ys) → xs = ys
  | [], [], _, _, _ => rfl
  | [], y :: ys, _, _, h => by have := (h y).2 (by simp); cases this
  | x :: xs, [], _, _, h => by have := (h x).1 (by simp); cases this
  | x :: xs, y :: ys, hx, hy, h => by
    obtain ⟨hx1, hx2⟩ := Rises.cons.1 hx
    obtain ⟨hy1, hy2⟩ := Rises.cons.1 hy
    have e : x = y := by
      rcases List.mem_cons.1 ((h x).1 (by simp)) with e | e
      · exact e
      · rcases List.mem_cons.1 ((h y).2 (by simp)) with e2 | e2
        · exact e2.symm
        · have a := hy1 x e
          have b := hx1 y e2
          rw [lt_asymm a] at b; cases b
    subst e
    rw [Rises.ext hx2 hy2 fun z => ?_]
    constructor
    · intro hz
      rcases List.mem_cons.1 ((h z).1 (by simp [hz])) with e | e
      · subst e; have := hx1 z hz; rw [lt_irrefl] at this; cases this
      · exact e
    · intro hz
      rcases List.mem_cons.1 ((h z).2 (by simp [hz])) with e | e
      · subst e; have := hy1 z hz; rw [lt_irrefl] at this; cases this
      · exact e
theorem Rises.key_inj {xs : List It} (h : Rises xs) {a b : It} (ha : a ∈ xs) (hb : b ∈ xs) (e : a.1 = b.1) : a = b := by
  obtain ⟨A, B, rfl⟩ := List.append_of_mem ha
  obtain ⟨h1, h2, _, _⟩ := h.mid
  rcases List.mem_append.1 hb with hb | hb
  · have := lt_ne (h1 b hb); exact absurd e.symm this
  · rcases List.mem_cons.1 hb with rfl | hb
    · rfl
    · exact absurd e (lt_ne (h2 b hb))
/-- Where a key is, or would be: the place, and whether it is there. -/
def placeOf (k : ByteArray) : List It → Nat × Bool
  | [] => (0, false)
  | i :: r => if i.1 = k then (0, true) else if lt k i.1 then (0, false) else ((placeOf k r).1 + 1, (placeOf k r).2)
theorem placeOf_split (k : ByteArray) : ∀ its : List It, Rises its → ∃ A B, its = A ++ B ∧ A.length = (placeOf k its).1 ∧ (∀ a ∈ A, lt a.1 k = true) ∧
    (((placeOf k its).2 = true ∧ ∃ v R, B = (k, v) :: R) ∨ ((placeOf k its).2 = false ∧ ∀ b ∈ B, lt k b.1 = true))
  | [], _ => ⟨[], [], rfl, rfl, by simp, .inr ⟨rfl, by simp⟩⟩
  | i :: r, h => by
    obtain ⟨h1, h2⟩ := Rises.cons.1 h
    by_cases e : i.1 = k
    · have hp : placeOf k (i :: r) = (0, true) := by rw [placeOf, if_pos e]
      exact ⟨[], i :: r, rfl, by rw [hp]; rfl, by simp, .inl ⟨by rw [hp], i.2, r, by rw [← e]⟩⟩
    · by_cases c : lt k i.1 = true
      · have hp : placeOf k (i :: r) = (0, false) := by rw [placeOf, if_neg e, if_pos c]
        refine ⟨[], i :: r, rfl, by rw [hp]; rfl, by simp, .inr ⟨by rw [hp], fun b hb => ?_⟩⟩
        rcases List.mem_cons.1 hb with rfl | hb
        · exact c
        · exact lt_trans c (h1 b hb)
      · have hp : placeOf k (i :: r) = ((placeOf k r).1 + 1, (placeOf k r).2) := by rw [placeOf, if_neg e, if_neg c]
        obtain ⟨A, B, rfl, hl, hA, hB⟩ := placeOf_split k r h2
        refine ⟨i :: A, B, rfl, by rw [hp]; simp [hl], fun a ha => ?_, by rw [hp]; exact hB⟩
        rcases List.mem_cons.1 ha with rfl | ha
        · exact lt_of_not (by simpa using c) (fun e' => e e'.symm)
        · exact hA a ha
theorem placeOf_le (k : ByteArray) : ∀ its : List It, (placeOf k its).1 ≤ its.length
  | [] => Nat.le_refl _
  | i :: r => by
    have := placeOf_le k r
    rw [placeOf]; split
    · simp
    · split
      · simp
      · simp; omega
/-- A child's part ahead of a place, behind it: X tells of each child what is in it. -/
def wpre {α : Type} (X : α → List It) : List α → List It → List It
  | q :: L, i :: A => X q ++ i :: wpre X L A
  | _, _ => []
def wpost {α : Type} (X : α → List It) : List It → List α → List It
  | i :: B, q :: R => i :: (X q ++ wpost X B R)
  | _, _ => []
/-- All that lies in a node and below it. -/
def weave {α : Type} (X : α → List It) : List α → List It → List It
  | q :: L, i :: A => X q ++ i :: weave X L A
  | [q], [] => X q
  | _, _ => []
theorem weave_split {α : Type} (X : α → List It) : ∀ (L : List α) (A : List It) (q : α) (R : List α) (B : List It), L.length = A.length → R.length = B.length → weave X (L ++ q :: R) (A ++ B) = wpre X L A ++ (X q ++ wpost X B R)
  | [], [], q, [], [], _, _ => by simp [weave, wpre, wpost]
  | [], [], q, r :: R, b :: B, _, h => by
    have := weave_split X [] [] r R B rfl (by simpa using h)
    simp only [List.nil_append, wpre] at this
    simp [weave, wpre, wpost, this]
  | p :: L, a :: A, q, R, B, h, h2 => by
    have := weave_split X L A q R B (by simpa using h) h2
    simp [weave, wpre, this]
  | [], [], _, [], _ :: _, _, h => by cases h
  | [], [], _, _ :: _, [], _, h => by cases h
  | [], _ :: _, _, _, _, h, _ => by cases h
  | _ :: _, [], _, _, _, h, _ => by cases h
theorem wpre_less {α : Type} (X : α → List It) (k : ByteArray) : ∀ (L : List α) (A : List It), L.length = A.length → Rises (wpre X L A) → (∀ a ∈ A, lt a.1 k = true) → ∀ x ∈ wpre X L A, lt x.1 k = true
  | [], _, _, _, _, x, hx => by simp [wpre] at hx
  | _ :: _, [], _, _, _, x, hx => by simp [wpre] at hx
  | q :: L, i :: A, hl, hr, hA, x, hx => by
    simp only [wpre] at hr hx
    obtain ⟨h1, h2, h3, h4⟩ := hr.mid
    have hi := hA i (by simp)
    rcases List.mem_append.1 hx with hx | hx
    · exact lt_trans (h1 x hx) hi
    · rcases List.mem_cons.1 hx with rfl | hx
      · exact hi
      · exact wpre_less X k L A (by simpa using hl) h4 (fun a ha => hA a (by simp [ha])) x hx
theorem wpost_more {α : Type} (X : α → List It) (k : ByteArray) : ∀ (B : List It) (R : List α), Rises (wpost X B R) → (∀ b ∈ B, lt k b.1 = true) → ∀ x ∈ wpost X B R, lt k x.1 = true
  | [], _, _, _, x, hx => by simp [wpost] at hx
  | _ :: _, [], _, _, x, hx => by simp [wpost] at hx
  | i :: B, q :: R, hr, hB, x, hx => by
    simp only [wpost] at hr hx
    obtain ⟨h1, _⟩ := Rises.cons.1 hr
    have hi := hB i (by simp)
    rcases List.mem_cons.1 hx with rfl | hx
    · exact hi
    · exact lt_trans hi (h1 x hx)
theorem weave_items {α : Type} (X : α → List It) : ∀ (L : List α) (A : List It), L.length = A.length + 1 → List.Sublist A (weave X L A)
  | [], _, h => by simp at h
  | [q], [], _ => by simp
  | q :: r :: L, [], h => by simp at h
  | q :: L, i :: A, h => by
    simp only [weave]
    have := weave_items X L A (by simpa using h)
    exact (List.Sublist.cons_cons i this).trans (List.sublist_append_right _ _)
theorem Rises.sub {xs ys : List It} (h : Rises ys) (hs : List.Sublist xs ys) : Rises xs := List.Pairwise.sublist hs h
/-- The value of a key. -/
def valueOf (k : ByteArray) (xs : List It) : Option ByteArray := (xs.find? (fun i => decide (i.1 = k))).map (·.2)
theorem valueOf_none {k : ByteArray} {xs : List It} (h : ∀ x ∈ xs, x.1 ≠ k) : valueOf k xs = none := by
  unfold valueOf
  rw [List.find?_eq_none.2 (by simpa using h)]; rfl
theorem valueOf_skip {k : ByteArray} {P xs : List It} (h : ∀ x ∈ P, x.1 ≠ k) : valueOf k (P ++ xs) = valueOf k xs := by
  unfold valueOf
  rw [List.find?_append, List.find?_eq_none.2 (by simpa using h)]; rfl
theorem valueOf_head {k v : ByteArray} {xs : List It} : valueOf k ((k, v) :: xs) = some v := by simp [valueOf]
theorem valueOf_drop {k : ByteArray} {xs Q : List It} (h : ∀ x ∈ Q, x.1 ≠ k) : valueOf k (xs ++ Q) = valueOf k xs := by
  unfold valueOf
  rw [List.find?_append, List.find?_eq_none.2 (show ∀ x ∈ Q, ¬ decide (x.1 = k) = true by simpa using h)]
  cases List.find? (fun i : It => decide (i.1 = k)) xs <;> rfl
theorem valueOf_some {k v : ByteArray} {xs : List It} (h : valueOf k xs = some v) : (k, v) ∈ xs := by
  unfold valueOf at h
  cases e : xs.find? (fun i => decide (i.1 = k)) with
  | none => rw [e] at h; cases h
  | some i =>
    rw [e] at h
    have h1 := List.find?_some e
    have h2 := List.mem_of_find?_eq_some e
    simp at h h1
    have : i = (k, v) := Prod.ext h1 h
    rw [← this]; exact h2
theorem valueOf_mem {k v : ByteArray} {xs : List It} (hr : Rises xs) (h : (k, v) ∈ xs) : valueOf k xs = some v := by
  obtain ⟨A, B, rfl⟩ := List.append_of_mem h
  obtain ⟨h1, _, _, _⟩ := hr.mid
  rw [valueOf_skip (fun x hx => lt_ne (h1 x hx)), valueOf_head]
end Go.Proofs.Ythknenhcnpgkcaa
