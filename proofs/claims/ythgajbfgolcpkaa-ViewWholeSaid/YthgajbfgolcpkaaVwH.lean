import Derived.Test.YthgajbfgolcpkaaVwC
/- The whole ring, and a part of it: the plain law. -/
namespace Go.Proofs.Ythgajbfgolcpkaa
open Go.RowKit
set_option linter.unusedVariables false
set_option linter.unusedSimpArgs false
theorem pieceL_whole (x : Int) : pieceL x x = [(0, 0)] := by
  unfold pieceL
  by_cases h : x = 0
  · rw [if_pos h, h]
  · rw [if_neg h, if_neg (by omega), if_pos rfl]
theorem learn_whole0 (x : Int) : learnAll [] (x, x, 4, 2) = ([(0, 4, 2)], true) := by
  unfold learnAll
  rw [if_neg (by simp)]
  dsimp only
  rw [pieceL_whole]
  decide
theorem learn_whole1 (x : Int) : learnAll [(0, 4, 2)] (x, x, 5, 3) = ([(0, 5, 3)], true) := by
  unfold learnAll
  rw [if_neg (by simp)]
  dsimp only
  rw [pieceL_whole]
  decide
theorem learn_part {p q : Int} (h : OkA p q) (hne : p ≠ q) : ∃ T b A B, learnAll [(0, 4, 2)] (p, q, 5, 3) = (T, b) ∧ T.length ≤ 900 ∧ arcsL T = [A, B] ∧ ([A, B].map (fun o : Ow => o.2.2.1) = [4, 5] ∨ [A, B].map (fun o : Ow => o.2.2.1) = [5, 4]) := by
  obtain ⟨p0, p1, q0, q1⟩ := h
  have hl : learnAll [(0, 4, 2)] (p, q, 5, 3) = (pieceL p q).foldl (learnQ 5 3) ([(0, 4, 2)], false) := by
    unfold learnAll
    rw [if_neg (by simp)]
  rw [hl]
  by_cases hq : q = 0
  · subst hq
    have hp : 0 < p := by omega
    have e1 : pieceL p 0 = [(p, 0)] := pieceL_one (.inl rfl)
    have e2 : (pieceL p 0).foldl (learnQ 5 3) ([(0, 4, 2)], false) = ([(0, 4, 2), (p, 5, 3)], true) := by
      rw [e1]
      simp [learnQ, cutQ, cutL, cutS, placeTo, learnP, stays, hp, p0, show ¬ (0 : Int) = p from by omega]
    refine ⟨_, _, (0, p, 4, 2), (p, 0, 5, 3), e2, by simp, ?_, .inl rfl⟩
    simp [arcsL, ded, outL, nextOf, mergeL]
  · by_cases hpq : p < q
    · have e1 : pieceL p q = [(p, q)] := pieceL_one (.inr hpq)
      have hq2 : 0 < q := by omega
      by_cases hp : p = 0
      · subst hp
        have e2 : (pieceL 0 q).foldl (learnQ 5 3) ([(0, 4, 2)], false) = ([(0, 5, 3), (q, 4, 2)], true) := by
          rw [e1]
          simp [learnQ, cutQ, cutL, cutS, placeTo, learnP, stays, hq2, q0, show ¬ (0 : Int) = q from by omega, show ¬ q ≤ 0 from by omega]
        refine ⟨_, _, (0, q, 5, 3), (q, 0, 4, 2), e2, by simp, ?_, .inr rfl⟩
        simp [arcsL, ded, outL, nextOf, mergeL]
      · have hp2 : 0 < p := by omega
        have hpq2 : p ≤ q := by omega
        have e2 : (pieceL p q).foldl (learnQ 5 3) ([(0, 4, 2)], false) = ([(0, 4, 2), (p, 5, 3), (q, 4, 2)], true) := by
          rw [e1]
          simp [learnQ, cutQ, cutL, cutS, placeTo, learnP, stays, hq2, q0, hp2, p0, hpq, hpq2, show ¬ (0 : Int) = p from by omega, show ¬ p = q from by omega, show ¬ q ≤ p from by omega]
        refine ⟨_, _, (p, q, 5, 3), (q, p, 4, 2), e2, by simp, ?_, .inr rfl⟩
        simp [arcsL, ded, outL, nextOf, mergeL, joinL]
    · have e1 : pieceL p q = [(0, q), (p, 0)] := by
        unfold pieceL
        rw [if_neg hq, if_neg hpq, if_neg hne]
      have hq2 : 0 < q := by omega
      have hp2 : 0 < p := by omega
      have hqp : q < p := by omega
      have hqp2 : q ≤ p := by omega
      have e2 : (pieceL p q).foldl (learnQ 5 3) ([(0, 4, 2)], false) = ([(0, 5, 3), (q, 4, 2), (p, 5, 3)], true) := by
        rw [e1]
        simp [learnQ, cutQ, cutL, cutS, placeTo, learnP, stays, hq2, q0, hp2, p0, hqp, hqp2, show ¬ (0 : Int) = q from by omega, show ¬ q = p from by omega, show ¬ p ≤ q from by omega, show ¬ q ≤ 0 from by omega]
      refine ⟨_, _, (q, p, 4, 2), (p, q, 5, 3), e2, by simp, ?_, .inl rfl⟩
      simp [arcsL, ded, outL, nextOf, mergeL, joinL]
end Go.Proofs.Ythgajbfgolcpkaa
