/- An arc cut out in two parts. Plain lists. -/
import Derived.Test.YthknenhcnpgkcaaCut6
namespace Go.Proofs.Ythknenhcnpgkcaa
open Go.RowKit
set_option linter.unusedVariables false
section
variable {a b x : Int} (ha : 0 ≤ a) (ha2 : a < 18446744073709551616) (hb : 0 ≤ b) (hb2 : b < 18446744073709551616) (hx : 0 ≤ x) (hx2 : x < 18446744073709551616) (hin : inArc a b x = true) (hne : x ≠ a)
include ha ha2 hb hb2 hx hx2 hin hne
theorem split_item (y : It) : (inArc a x (adr y) && inArc x b (adr y)) = false ∧ (inArc a x (adr y) || inArc x b (adr y)) = inArc a b (adr y) := by
  have h := arcL_split ha ha2 hb hb2 hx hx2 hin hne (xs := [y]) (List.pairwise_singleton _ _)
  have h1 := congrArg List.length h
  rw [List.length_append] at h1
  have hle := arcL_len_le ha ha2 hb hb2 [y]
  have m1 : y ∈ arcL a x [y] ↔ inArc a x (adr y) = true := by rw [arcL_mem ha ha2 hx hx2]; simp
  have m2 : y ∈ arcL x b [y] ↔ inArc x b (adr y) = true := by rw [arcL_mem hx hx2 hb hb2]; simp
  have m3 : y ∈ arcL a b [y] ↔ inArc a b (adr y) = true := by rw [arcL_mem ha ha2 hb hb2]; simp
  constructor
  · cases c1 : inArc a x (adr y)
    · rfl
    · cases c2 : inArc x b (adr y)
      · rfl
      · have p1 := List.length_pos_of_mem (m1.2 c1)
        have p2 := List.length_pos_of_mem (m2.2 c2)
        simp at hle
        omega
  · rw [Bool.eq_iff_iff, Bool.or_eq_true, ← m1, ← m2, ← m3, ← h, List.mem_append]
theorem outL_split (xs : List It) : outL x b (outL a x xs) = outL a b xs := by
  unfold outL
  rw [List.filter_filter]
  refine List.filter_congr fun y _ => ?_
  rw [← (split_item ha ha2 hb hb2 hx hx2 hin hne y).2]
  cases inArc a x (adr y) <;> cases inArc x b (adr y) <;> rfl
theorem outL_split' (xs : List It) : outL a x (outL x b xs) = outL a b xs := by
  unfold outL
  rw [List.filter_filter]
  refine List.filter_congr fun y _ => ?_
  rw [← (split_item ha ha2 hb hb2 hx hx2 hin hne y).2]
  cases inArc a x (adr y) <;> cases inArc x b (adr y) <;> rfl
end
theorem filter_parts {α : Type} (A B C : α → Bool) : ∀ xs : List α, (∀ x ∈ xs, (A x && B x) = false ∧ (A x || B x) = C x) → (xs.filter A).length + ((xs.filter fun x => !A x).filter B).length = (xs.filter C).length
  | [], _ => rfl
  | x :: xs, h => by
    have ih := filter_parts A B C xs fun y hy => h y (by simp [hy])
    obtain ⟨h1, h2⟩ := h x (by simp)
    cases ca : A x
    · cases cb : B x
      · have cc : C x = false := by rw [← h2, ca, cb]; rfl
        simp only [List.filter_cons, ca, cb, cc, Bool.not_false, if_true, Bool.false_eq_true, if_false]
        exact ih
      · have cc : C x = true := by rw [← h2, ca, cb]; rfl
        simp only [List.filter_cons, ca, cb, cc, Bool.not_false, if_true, Bool.false_eq_true, if_false, List.length_cons]
        omega
    · have cc : C x = true := by rw [← h2, ca]; rfl
      simp only [List.filter_cons, ca, cc, Bool.not_true, if_true, Bool.false_eq_true, if_false, List.length_cons]
      omega
theorem arcL_len2 {a b : Int} (ha : 0 ≤ a) (ha2 : a < 18446744073709551616) (hb : 0 ≤ b) (hb2 : b < 18446744073709551616) (xs : List It) : (arcL a b xs).length = (xs.filter fun y => inArc a b (adr y)).length := by
  have := arcL_len ha ha2 hb hb2 xs
  first | exact this | (rw [this, List.countP_eq_length_filter])
section
variable {a b x : Int} (ha : 0 ≤ a) (ha2 : a < 18446744073709551616) (hb : 0 ≤ b) (hb2 : b < 18446744073709551616) (hx : 0 ≤ x) (hx2 : x < 18446744073709551616) (hin : inArc a b x = true) (hne : x ≠ a)
include ha ha2 hb hb2 hx hx2 hin hne
theorem out_count (xs : List It) : (arcL a x xs).length + (arcL x b (outL a x xs)).length = (arcL a b xs).length := by
  rw [arcL_len2 ha ha2 hx hx2, arcL_len2 hx hx2 hb hb2, arcL_len2 ha ha2 hb hb2]
  exact filter_parts _ _ _ xs fun y _ => split_item ha ha2 hb hb2 hx hx2 hin hne y
theorem out_count' (xs : List It) : (arcL x b xs).length + (arcL a x (outL x b xs)).length = (arcL a b xs).length := by
  rw [arcL_len2 ha ha2 hx hx2, arcL_len2 hx hx2 hb hb2, arcL_len2 ha ha2 hb hb2]
  exact filter_parts _ _ _ xs fun y _ => by rw [Bool.and_comm, Bool.or_comm]; exact split_item ha ha2 hb hb2 hx hx2 hin hne y
end
theorem arc_outL {a b : Int} (ha : 0 ≤ a) (ha2 : a < 18446744073709551616) (hb : 0 ≤ b) (hb2 : b < 18446744073709551616) (xs : List It) : (arcL a b (outL a b xs)).length = 0 := by
  rw [arcL_len2 ha ha2 hb hb2]
  unfold outL
  rw [List.filter_filter, List.length_eq_zero_iff, List.filter_eq_nil_iff]
  intro y _
  cases inArc a b (adr y) <;> simp
end Go.Proofs.Ythknenhcnpgkcaa
