import Derived.Test.YthknenhcnpgkcaaWkQ
/- Where an arc is cut in the middle; an arc's two parts; two ranges side by side: plain lists. -/
namespace Go.Proofs.Ythknenhcnpgkcaa
open Go.RowKit
set_option linter.unusedVariables false
set_option linter.unusedSimpArgs false
theorem midL_some {D : List Int} {m : Int} (h : midL D = some m) : ∃ i, (D.length + 1) / 2 ≤ i ∧ D[i]? = some m ∧ m ≠ D.getD ((D.length + 1) / 2 - 1) 0 := by
  unfold midL at h
  have h1 := List.mem_of_find?_eq_some h
  have h2 := List.find?_some h
  obtain ⟨j, hj⟩ := List.getElem?_of_mem h1
  rw [List.getElem?_drop] at hj
  exact ⟨_, Nat.le_add_right _ _, hj, by simpa using h2⟩
theorem pairwise_get {α : Type} {R : α → α → Prop} {L : List α} (h : L.Pairwise R) (hrefl : ∀ x, R x x) {i j : Nat} {x y : α} (hij : i ≤ j) (hx : L[i]? = some x) (hy : L[j]? = some y) : R x y := by
  rcases Nat.lt_or_eq_of_le hij with c | rfl
  · obtain ⟨hi, rfl⟩ := List.getElem?_eq_some_iff.1 hx
    obtain ⟨hj, rfl⟩ := List.getElem?_eq_some_iff.1 hy
    exact List.pairwise_iff_getElem.1 h i j hi hj c
  · rw [hx] at hy; cases hy; exact hrefl _
theorem middle_law {a b : Int} (ha : 0 ≤ a) (ha2 : a < 18446744073709551616) (hb : 0 ≤ b) (hb2 : b < 18446744073709551616) {xs : List It} (hr : Rises xs) {m : Int} (hm : midL ((arcL a b xs).map adr) = some m) :
    m ≠ a ∧ 0 ≤ m ∧ m < 18446744073709551616 ∧ 1 ≤ (arcL a m xs).length ∧ 1 ≤ (arcL m b xs).length ∧ (arcL a b xs).length ≤ 2 * (arcL a m xs).length ∧ (arcL a m xs).length + (arcL m b xs).length = (arcL a b xs).length := by
  obtain ⟨i, hi, hmi, hne⟩ := midL_some hm
  rw [List.length_map] at hi hne
  obtain ⟨L, hL⟩ : ∃ L, arcL a b xs = L := ⟨_, rfl⟩
  rw [hL] at hi hmi hne
  rw [List.getElem?_map] at hmi
  obtain ⟨y, hy, rfl⟩ := Option.map_eq_some_iff.1 hmi
  have hil : i < L.length := (List.getElem?_eq_some_iff.1 hy).1
  obtain ⟨z, hz⟩ : ∃ z, L[(L.length + 1) / 2 - 1]? = some z := ⟨_, List.getElem?_eq_getElem (by omega)⟩
  have hz' : adr y ≠ adr z := by
    rw [List.getD, List.getElem?_map, hz] at hne
    exact hne
  have hp : L.Pairwise fun x y => off a x ≤ off a y := by rw [← hL]; exact arcL_off ha ha2 hb hb2 hr
  have hzy : off a z ≤ off a y := pairwise_get hp (fun _ => Int.le_refl _) (by omega) hz hy
  have y1 := adr_ge y; have y2 := adr_lt y; have z1 := adr_ge z; have z2 := adr_lt z
  have hzy2 : off a z < off a y := by unfold off at hzy ⊢; omega
  have hya : adr y ≠ a := by unfold off at hzy2; intro e; rw [e] at hzy2; omega
  have hyL : y ∈ L := List.mem_of_getElem? hy
  have hyin : inArc a b (adr y) = true := by rw [← hL] at hyL; exact ((arcL_mem ha ha2 hb hb2).1 hyL).2
  rw [inArc_iff] at hyin
  have low : (arcL a (adr y) xs).length = L.countP fun x => decide (off a x < off a y) := by
    rw [arcL_len ha ha2 y1 y2, ← hL, arcL_countP ha ha2 hb hb2]
    refine List.countP_congr fun x _ => ?_
    have := adr_ge x; have := adr_lt x
    simp only [Bool.and_eq_true, inArc_iff, decide_eq_true_eq]
    unfold off
    omega
  have high : (arcL (adr y) b xs).length = L.countP fun x => !decide (off a x < off a y) := by
    rw [arcL_len y1 y2 hb hb2, ← hL, arcL_countP ha ha2 hb hb2]
    refine List.countP_congr fun x _ => ?_
    have := adr_ge x; have := adr_lt x
    simp only [Bool.and_eq_true, inArc_iff, Bool.not_eq_true', decide_eq_false_iff_not]
    unfold off
    omega
  have hsum := List.length_eq_countP_add_countP (fun x => decide (off a x < off a y)) (l := L)
  have hsum2 : L.countP (fun x => decide (off a x < off a y)) + L.countP (fun x => !decide (off a x < off a y)) = L.length := by
    rw [hsum]
    congr 1
    refine List.countP_congr fun x _ => ?_
    simp
  have h1 : (L.length + 1) / 2 ≤ L.countP fun x => decide (off a x < off a y) := by
    have e : (L.take ((L.length + 1) / 2)).countP (fun x => decide (off a x < off a y)) = (L.take ((L.length + 1) / 2)).length := List.countP_eq_length.2 fun x hx => by
      obtain ⟨j, hj⟩ := List.getElem?_of_mem hx
      have hj2 : j < (L.length + 1) / 2 := by
        have := (List.getElem?_eq_some_iff.1 hj).1
        rw [List.length_take] at this; omega
      rw [List.getElem?_take, if_pos hj2] at hj
      have := pairwise_get hp (fun _ => Int.le_refl _) (show j ≤ (L.length + 1) / 2 - 1 by omega) hj hz
      exact decide_eq_true (by omega)
    have e2 := (List.take_sublist ((L.length + 1) / 2) L).countP_le (p := fun x => decide (off a x < off a y))
    rw [e, List.length_take] at e2
    omega
  have h2 : 0 < L.countP fun x => !decide (off a x < off a y) := List.countP_pos_iff.2 ⟨y, hyL, by simp⟩
  rw [low, high, hL]
  exact ⟨hya, y1, y2, by omega, by omega, by omega, hsum2⟩
/-- What is in one of two parts, of which the one lies ahead of the other. -/
theorem filter_two {α : Type} {R : α → α → Prop} (p q r : α → Bool) (hr : ∀ x, r x = (p x || q x)) (hpq : ∀ x y, p x = true → q y = true → R y x → False) (hself : ∀ x, p x = true → q x = true → False) : ∀ {xs : List α}, xs.Pairwise R → xs.filter r = xs.filter p ++ xs.filter q
  | [], _ => rfl
  | x :: xs, h => by
    obtain ⟨h1, h2⟩ := List.pairwise_cons.1 h
    have ih := filter_two p q r hr hpq hself h2
    rw [List.filter_cons, List.filter_cons, List.filter_cons, hr x, ih]
    cases hp : p x with
    | true =>
      have hq : q x = false := by
        cases hq : q x with
        | false => rfl
        | true => exact (hself x hp hq).elim
      simp [hq]
    | false =>
      cases hq : q x with
      | false => simp
      | true =>
        have e : xs.filter p = [] := List.filter_eq_nil_iff.2 fun y hy e => hpq y x e hq (h1 y hy)
        simp [e]
/-- An arc's two parts. -/
theorem arcL_split {a b x : Int} (ha : 0 ≤ a) (ha2 : a < 18446744073709551616) (hb : 0 ≤ b) (hb2 : b < 18446744073709551616) (hx : 0 ≤ x) (hx2 : x < 18446744073709551616) (hin : inArc a b x = true) (hne : x ≠ a) {xs : List It} (hr : Rises xs) :
    arcL a x xs ++ arcL x b xs = arcL a b xs := by
  rw [inArc_iff] at hin
  have hp : xs.Pairwise fun y z => adr y ≤ adr z := hr.imp fun h => adr_le h
  have two : ∀ (l m h : Int), (m ≠ 0) → l ≤ m → (h = 0 ∨ m ≤ h) → xs.filter (inP (l, h)) = xs.filter (inP (l, m)) ++ xs.filter (inP (m, h)) := fun l m h hm hl hh => by
    refine filter_two (R := fun y z => adr y ≤ adr z) _ _ _ (fun y => ?_) (fun y z h1 h2 h3 => ?_) (fun y h1 h2 => ?_) hp
    · have bo : ∀ {p q : Bool}, (p = true ↔ q = true) → p = q := fun {p q} h => by cases p <;> cases q <;> simp_all
      refine bo ?_
      simp only [Bool.or_eq_true, inP_iff]
      omega
    · rw [inP_iff] at h1 h2
      simp only at h1 h2
      omega
    · rw [inP_iff] at h1 h2
      simp only at h1 h2
      omega
  unfold arcL
  rcases pieces_cases a b with ⟨rfl, e⟩ | ⟨h0, h1, e⟩ | ⟨h0, h1, e⟩
  · have c : a < x := by omega
    have e1 : piecesA a x = [(a, x)] := by unfold piecesA; rw [if_neg (by omega), if_pos c]
    have e2 : piecesA x 0 = [(x, 0)] := by unfold piecesA; rw [if_pos rfl]
    rw [e, e1, e2]
    simp only [List.flatMap_cons, List.flatMap_nil, List.append_nil]
    exact (two a x 0 (by omega) (by omega) (by omega)).symm
  · have c : a < x ∧ x < b := by omega
    have e1 : piecesA a x = [(a, x)] := by unfold piecesA; rw [if_neg (by omega), if_pos c.1]
    have e2 : piecesA x b = [(x, b)] := by unfold piecesA; rw [if_neg h0, if_pos c.2]
    rw [e, e1, e2]
    simp only [List.flatMap_cons, List.flatMap_nil, List.append_nil]
    exact (two a x b (by omega) (by omega) (by omega)).symm
  · rcases Int.lt_or_le a x with c | c
    · have e1 : piecesA a x = [(a, x)] := by unfold piecesA; rw [if_neg (by omega), if_pos c]
      have e2 : piecesA x b = [(x, 0), (0, b)] := by unfold piecesA; rw [if_neg h0, if_neg (by omega)]
      rw [e, e1, e2]
      simp only [List.flatMap_cons, List.flatMap_nil, List.append_nil]
      rw [two a x 0 (by omega) (by omega) (by omega), List.append_assoc]
    · by_cases hx0 : x = 0
      · subst hx0
        have e1 : piecesA a 0 = [(a, 0)] := by unfold piecesA; rw [if_pos rfl]
        have e2 : piecesA 0 b = [(0, b)] := by unfold piecesA; rw [if_neg h0, if_pos (by omega)]
        rw [e, e1, e2]
        simp only [List.flatMap_cons, List.flatMap_nil, List.append_nil]
      · have c2 : x < b := by omega
        have e1 : piecesA a x = [(a, 0), (0, x)] := by unfold piecesA; rw [if_neg hx0, if_neg (by omega)]
        have e2 : piecesA x b = [(x, b)] := by unfold piecesA; rw [if_neg h0, if_pos c2]
        rw [e, e1, e2]
        simp only [List.flatMap_cons, List.flatMap_nil, List.append_nil]
        rw [two 0 x b hx0 (by omega) (by omega), List.append_assoc]
/-- The items of a range. -/
def rangeL (u v : ByteArray) (xs : List It) : List It := xs.filter fun x => !lt x.1 u && (decide (v.size = 0) || lt x.1 v)
/-- Two ranges side by side. -/
theorem rangeL_split {u v t : ByteArray} {xs : List It} (hr : Rises xs) (huv : lt v u = false) (hvt : lt t v = false) (hv : v.size ≠ 0) (ht : t.size ≠ 0) : rangeL u v xs ++ rangeL v t xs = rangeL u t xs := by
  unfold rangeL
  have d1 : decide (v.size = 0) = false := decide_eq_false hv
  have d2 : decide (t.size = 0) = false := decide_eq_false ht
  have tr : ∀ {a b c : ByteArray}, lt a b = true → lt c b = false → lt a c = true := fun {a b c} h1 h2 => by
    by_cases e : c = b
    · subst e; exact h1
    · exact lt_trans h1 (lt_of_not h2 e)
  refine (filter_two (R := fun (y z : It) => lt y.1 z.1 = true) _ _ _ (fun y => ?_) (fun y z h1 h2 h3 => ?_) (fun y h1 h2 => ?_) hr).symm
  · simp only [d1, d2, Bool.false_or]
    cases h1 : lt y.1 u <;> cases h2 : lt y.1 v <;> cases h3 : lt y.1 t <;> simp
    · rw [tr h2 hvt] at h3; cases h3
    · rw [tr h1 huv] at h2; cases h2
  · simp only [d1, d2, Bool.false_or, Bool.and_eq_true, Bool.not_eq_true'] at h1 h2
    rw [lt_trans h3 h1.2] at h2
    simp at h2
  · simp only [d1, d2, Bool.false_or, Bool.and_eq_true, Bool.not_eq_true'] at h1 h2
    rw [h1.2] at h2
    simp at h2
/-- From behind its end a range has nothing. -/
theorem rangeL_none {u v : ByteArray} {xs : List It} (huv : lt v u = true) (hv : v.size ≠ 0) : rangeL u v xs = [] := by
  unfold rangeL
  refine List.filter_eq_nil_iff.2 fun x _ e => ?_
  simp only [decide_eq_false hv, Bool.false_or, Bool.and_eq_true, Bool.not_eq_true'] at e
  rw [lt_trans e.2 huv] at e
  simp at e
end Go.Proofs.Ythknenhcnpgkcaa
