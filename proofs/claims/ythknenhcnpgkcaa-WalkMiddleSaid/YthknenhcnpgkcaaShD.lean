import Derived.Test.YthknenhcnpgkcaaNode4
/- How deep a tree is. Plain. -/
namespace Go.Proofs.Ythknenhcnpgkcaa
open Go.RowKit
set_option linter.unusedVariables false
theorem weave_len (X : Kid → List It) (m : Nat) : ∀ (L : List Kid) (A : List It), L.length = A.length + 1 → (∀ q ∈ L, m ≤ (X q).length) → A.length + L.length * m ≤ (weave X L A).length
  | [], _, h, _ => by simp at h
  | [q], [], _, h => by have := h q (by simp); simp [weave]; omega
  | q :: r :: L, [], h, _ => by simp at h
  | [q], _ :: _, h, _ => by simp at h
  | q :: r :: L, i :: A, h, hm => by
    have ih := weave_len X m (r :: L) A (by simpa using h) fun s hs => hm s (by simp [hs])
    have := hm q (by simp)
    simp only [weave, List.length_append, List.length_cons] at ih ⊢
    rw [Nat.add_mul (L.length + 1) 1 m]
    omega
theorem At.count3 : ∀ {d lo : Nat} {W : World} {q : Kid}, At d lo W q → 3 ≤ lo → 4 ^ (d + 1) ≤ q.xs.length + 1
  | 0, lo, W, q, ⟨iv, bv, h, h1, h2⟩, hl => by omega
  | d + 1, lo, W, q, ⟨iv, bv, its, kids, h, h1, h2, h3, h4, h5⟩, hl => by
    have hk : ∀ r ∈ kids, 4 ^ (d + 1) - 1 ≤ r.xs.length := fun r hr => by have := At.count3 (h5 r hr) (Nat.le_refl _); omega
    have hw := weave_len Kid.xs (4 ^ (d + 1) - 1) kids its h1 hk
    rw [← h4] at hw
    have hp : 0 < 4 ^ (d + 1) := Nat.pow_pos (by omega)
    have h6 : 4 * (4 ^ (d + 1) - 1) ≤ kids.length * (4 ^ (d + 1) - 1) := Nat.mul_le_mul_right _ (by omega)
    rw [show d + 1 + 1 = (d + 1) + 1 from rfl, Nat.pow_succ 4 (d + 1)]
    omega
/-- A tree of depth d, whose first node is not empty, has at least 4 ^ d items. -/
theorem At.count {d lo : Nat} {W : World} {q : Kid} (h : At d lo W q) (hl : 1 ≤ lo) : 4 ^ d ≤ q.xs.length := by
  cases d with
  | zero => obtain ⟨iv, bv, h, h1, h2⟩ := h; simp; omega
  | succ d =>
    obtain ⟨iv, bv, its, kids, h, h1, h2, h3, h4, h5⟩ := h
    have hk : ∀ r ∈ kids, 4 ^ (d + 1) - 1 ≤ r.xs.length := fun r hr => by have := At.count3 (h5 r hr) (Nat.le_refl _); omega
    have hw := weave_len Kid.xs (4 ^ (d + 1) - 1) kids its h1 hk
    rw [← h4] at hw
    have hp : 0 < 4 ^ (d + 1) := Nat.pow_pos (by omega)
    have h6 : 2 * (4 ^ (d + 1) - 1) ≤ kids.length * (4 ^ (d + 1) - 1) := Nat.mul_le_mul_right _ (by omega)
    omega
/-- The most levels of so many items. -/
def deepUp : Nat → Nat → Nat
  | 0, _ => 1
  | f + 1, n => if n < 4 then 1 else deepUp f (n / 4) + 1
def deepN (n : Nat) : Nat := if n = 0 then 0 else deepUp n n
theorem deepUp_le : ∀ (d f n : Nat), 4 ^ d ≤ n → d ≤ f → d + 1 ≤ deepUp f n
  | 0, f, n, _, _ => by
    cases f with
    | zero => simp [deepUp]
    | succ f => rw [deepUp]; split <;> omega
  | d + 1, 0, n, _, h => by omega
  | d + 1, f + 1, n, h, hf => by
    have hp : 1 ≤ 4 ^ d := Nat.pow_pos (by omega)
    rw [Nat.pow_succ] at h
    rw [deepUp, if_neg (by omega)]
    have := deepUp_le d f (n / 4) (by omega) (by omega)
    omega
theorem deepN_le {d n : Nat} (h : 4 ^ d ≤ n) : d + 1 ≤ deepN n := by
  have hp : 1 ≤ 4 ^ d := Nat.pow_pos (by omega)
  unfold deepN
  rw [if_neg (by omega)]
  refine deepUp_le d n n h ?_
  have : d < 4 ^ d := Nat.lt_pow_self (by omega)
  omega
end Go.Proofs.Ythknenhcnpgkcaa
