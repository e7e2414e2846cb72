import Derived.Test.YthknenhcnpgkcaaKey
/- Keys: plain laws on their order (a part of what the text on keys has). -/
namespace Go.Proofs.Ythknenhcnpgkcaa
open Go.RowKit
theorem less_irrefl : ∀ a : List UInt8, Op.bytesLess a a = false
  | [] => rfl
  | x :: a => by rw [less_cons, less_irrefl a]; simp
theorem less_total : ∀ a b : List UInt8, a ≠ b → Op.bytesLess b a = !Op.bytesLess a b
  | [], [], h => (h rfl).elim
  | [], _ :: _, _ => rfl
  | _ :: _, [], _ => rfl
  | x :: a, y :: b, h => by
    rw [less_cons, less_cons]
    rcases Nat.lt_trichotomy x.toNat y.toNat with c | c | c
    · have e1 : ¬ y.toNat < x.toNat := by omega
      have e2 : ¬ y.toNat = x.toNat := by omega
      simp [c, e1, e2]
    · have hxy : x = y := UInt8.toNat_inj.1 c
      subst hxy
      have := less_total a b (fun e => h (by rw [e]))
      simp [this]
    · have e1 : ¬ x.toNat < y.toNat := by omega
      have e2 : ¬ x.toNat = y.toNat := by omega
      simp [c, e1, e2]
theorem less_asymm (a b : List UInt8) (h : Op.bytesLess a b = true) : Op.bytesLess b a = false := by
  by_cases e : a = b
  · subst e; rw [less_irrefl] at h; cases h
  · rw [less_total a b e, h]; rfl
theorem less_trans : ∀ a b c : List UInt8, Op.bytesLess a b = true → Op.bytesLess b c = true → Op.bytesLess a c = true
  | _, [], _, h, _ => by rw [less_nil_right] at h; cases h
  | _, _ :: _, [], _, h => by rw [less_nil_right] at h; cases h
  | [], _ :: _, _ :: _, _, _ => rfl
  | x :: a, y :: b, z :: c, h1, h2 => by
    rw [less_cons] at *
    simp only [Bool.or_eq_true, Bool.and_eq_true, decide_eq_true_eq] at *
    rcases h1 with h1 | ⟨h1, h1'⟩ <;> rcases h2 with h2 | ⟨h2, h2'⟩
    · left; omega
    · left; omega
    · left; omega
    · right; exact ⟨by omega, less_trans a b c h1' h2'⟩
end Go.Proofs.Ythknenhcnpgkcaa
