import Derived.Test.YthknenhcnpgkcaaNode4
/- What a shelf holds, as a list: put in, replaced, taken away. Plain lists. -/
namespace Go.Proofs.Ythknenhcnpgkcaa
open Go.RowKit
set_option linter.unusedVariables false
def repL (k v : ByteArray) (xs : List It) : List It := xs.map fun i => if i.1 = k then (k, v) else i
def insL (it : It) : List It → List It
  | [] => [it]
  | x :: xs => if lt x.1 it.1 = true then x :: insL it xs else it :: x :: xs
def delL (k : ByteArray) (xs : List It) : List It := xs.filter fun i => decide (i.1 ≠ k)
theorem map_none {k v : ByteArray} {xs : List It} (h : ∀ x ∈ xs, x.1 ≠ k) : xs.map (fun i => if i.1 = k then (k, v) else i) = xs := by
  induction xs with
  | nil => rfl
  | cons x xs ih =>
    rw [List.map_cons, if_neg (h x (by simp)), ih fun y hy => h y (by simp [hy])]
theorem Rep.eq {k v : ByteArray} {xs xs' : List It} (h : Rep k v xs xs') (hr : Rises xs) : xs' = repL k v xs := by
  obtain ⟨A, w, B, rfl, rfl⟩ := h
  obtain ⟨h1, h2, _, _⟩ := hr.mid
  unfold repL
  rw [List.map_append, List.map_cons, map_none (fun x hx => lt_ne (h1 x hx)), map_none (fun x hx e => lt_ne (h2 x hx) e.symm), if_pos rfl]
theorem insL_split {it : It} : ∀ {A B : List It}, (∀ a ∈ A, lt a.1 it.1 = true) → (∀ b ∈ B, lt it.1 b.1 = true) → insL it (A ++ B) = A ++ it :: B
  | [], [], _, _ => rfl
  | [], b :: B, _, hB => by
    rw [List.nil_append, insL, if_neg (by rw [lt_asymm (hB b (by simp))]; simp)]; rfl
  | a :: A, B, hA, hB => by
    rw [List.cons_append, insL, if_pos (hA a (by simp)), insL_split (fun x hx => hA x (by simp [hx])) hB]; rfl
theorem Ins.eq {it : It} {xs xs' : List It} (h : Ins it xs xs') : xs' = insL it xs := by
  obtain ⟨A, B, rfl, rfl, hA, hB⟩ := h
  exact (insL_split hA hB).symm
theorem insL_ins {it : It} {xs : List It} (hr : Rises xs) (hn : ∀ x ∈ xs, x.1 ≠ it.1) : Ins it xs (insL it xs) := by
  induction xs with
  | nil => exact ⟨[], [], rfl, rfl, by simp, by simp⟩
  | cons x xs ih =>
    obtain ⟨h1, h2⟩ := Rises.cons.1 hr
    by_cases c : lt x.1 it.1 = true
    · rw [insL, if_pos c]
      obtain ⟨A, B, e1, e2, hA, hB⟩ := ih h2 fun y hy => hn y (by simp [hy])
      refine ⟨x :: A, B, by rw [e1]; rfl, by rw [e2]; rfl, fun a ha => ?_, hB⟩
      rcases List.mem_cons.1 ha with rfl | ha
      · exact c
      · exact hA a ha
    · rw [insL, if_neg c]
      have hx : lt it.1 x.1 = true := lt_of_not (by simpa using c) (hn x (by simp))
      refine ⟨[], x :: xs, rfl, rfl, by simp, fun b hb => ?_⟩
      rcases List.mem_cons.1 hb with rfl | hb
      · exact hx
      · exact lt_trans hx (h1 b hb)
theorem valueOf_none_iff {k : ByteArray} {xs : List It} : valueOf k xs = none ↔ ∀ x ∈ xs, x.1 ≠ k := by
  refine ⟨fun h x hx e => ?_, valueOf_none⟩
  unfold valueOf at h
  cases hf : xs.find? (fun i => decide (i.1 = k)) with
  | none =>
    rw [List.find?_eq_none] at hf
    exact hf x hx (by simp [e])
  | some i => rw [hf] at h; cases h
theorem insL_length (it : It) (xs : List It) : (insL it xs).length = xs.length + 1 := by
  induction xs with
  | nil => rfl
  | cons x xs ih => rw [insL]; split <;> simp [ih]
theorem repL_length (k v : ByteArray) (xs : List It) : (repL k v xs).length = xs.length := by simp [repL]
/-- What Put says, and what lies there then. -/
def putL (most : Int) (k v : ByteArray) (xs : List It) : Int × List It :=
  if k.size < 1 ∨ 16 < k.size then (3, xs)
  else if 16 < v.size then (4, xs)
  else if (valueOf k xs).isSome then (0, repL k v xs)
  else if most ≤ xs.length then (5, xs)
  else (0, insL (k, v) xs)
theorem putL_rises {most : Int} {k v : ByteArray} {xs : List It} (hr : Rises xs) : Rises (putL most k v xs).2 := by
  unfold putL
  split
  · exact hr
  · split
    · exact hr
    · split
      · rw [rises_map] at hr ⊢
        unfold repL
        rw [List.map_map]
        have : ((fun i : It => i.1) ∘ fun i : It => if i.1 = k then (k, v) else i) = fun i : It => i.1 := by
          funext i
          simp only [Function.comp]
          split
          · rename_i e; exact e.symm
          · rfl
        rw [this]; exact hr
      · split
        · exact hr
        · rename_i hn _
          have : valueOf k xs = none := by
            cases h : valueOf k xs with
            | none => rfl
            | some v => rw [h] at hn; simp at hn
          exact (insL_ins (it := (k, v)) hr (valueOf_none_iff.1 this)).rises hr
end Go.Proofs.Ythknenhcnpgkcaa
