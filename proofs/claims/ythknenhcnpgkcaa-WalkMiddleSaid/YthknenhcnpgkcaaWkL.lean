import Derived.Test.YthknenhcnpgkcaaWk6
/- What Arc$1 has told at each step: plain lists. -/
namespace Go.Proofs.Ythknenhcnpgkcaa
set_option linter.unusedVariables false
set_option linter.unusedSimpArgs false
/-- Told ahead of element j of piece i. -/
def toldA {α β : Type} (P : List β) (A : List α) (t : β → α → Bool) (p : β) (i j : Nat) : List α := (P.take i).flatMap (fun p => A.filter (t p)) ++ (A.take j).filter (t p)
theorem cut_at {α : Type} {L : List α} {i : Nat} {x : α} (h : L[i]? = some x) : L = L.take i ++ x :: L.drop (i + 1) := by
  obtain ⟨hl, rfl⟩ := List.getElem?_eq_some_iff.1 h
  rw [List.getElem_cons_drop, List.take_append_drop]
theorem toldA_tells {α β : Type} {P : List β} {A : List α} {t : β → α → Bool} {p : β} {q : α} {i j : Nat} (hp : P[i]? = some p) (hq : A[j]? = some q) (hin : t p q = true) :
    (toldA P A t p i j).length < (P.flatMap fun p => A.filter (t p)).length ∧ toldA P A t p i j = (P.flatMap fun p => A.filter (t p)).take (toldA P A t p i j).length ∧
    toldA P A t p i (j + 1) = toldA P A t p i j ++ [q] ∧ toldA P A t p i j ++ [q] = (P.flatMap fun p => A.filter (t p)).take ((toldA P A t p i j).length + 1) := by
  obtain ⟨R, hR⟩ : ∃ R, (P.flatMap fun p => A.filter (t p)) = toldA P A t p i j ++ q :: R := by
    refine ⟨(A.drop (j + 1)).filter (t p) ++ (P.drop (i + 1)).flatMap (fun p => A.filter (t p)), ?_⟩
    have hf : A.filter (t p) = (A.take j).filter (t p) ++ q :: (A.drop (j + 1)).filter (t p) := by
      conv => lhs; rw [cut_at hq]
      rw [List.filter_append, List.filter_cons_of_pos hin]
    conv => lhs; rw [cut_at hp]
    rw [List.flatMap_append, List.flatMap_cons, hf, toldA]
    simp
  have hs : toldA P A t p i (j + 1) = toldA P A t p i j ++ [q] := by
    unfold toldA
    rw [List.take_add_one, hq, List.filter_append]
    simp [hin]
  generalize toldA P A t p i j = T at hR hs ⊢
  rw [hR]
  refine ⟨by rw [List.length_append, List.length_cons]; omega, by rw [List.take_left' rfl], hs, ?_⟩
  rw [show T ++ q :: R = (T ++ [q]) ++ R by simp, List.take_left' (by simp)]
theorem toldA_skips {α β : Type} {P : List β} {A : List α} {t : β → α → Bool} {p : β} {q : α} {i j : Nat} (hq : A[j]? = some q) (hin : t p q = false) : toldA P A t p i (j + 1) = toldA P A t p i j := by
  unfold toldA
  rw [List.take_add_one, hq, List.filter_append]
  simp [hin]
theorem toldA_next {α β : Type} {P : List β} {A : List α} {t : β → α → Bool} {p : β} {i : Nat} (hp : P[i]? = some p) (p' : β) : toldA P A t p i A.length = toldA P A t p' (i + 1) 0 := by
  unfold toldA
  rw [List.take_add_one, hp, List.flatMap_append]
  simp
theorem toldA_end {α β : Type} (P : List β) (A : List α) (t : β → α → Bool) (p : β) : toldA P A t p P.length 0 = P.flatMap fun p => A.filter (t p) := by
  unfold toldA
  simp
end Go.Proofs.Ythknenhcnpgkcaa
