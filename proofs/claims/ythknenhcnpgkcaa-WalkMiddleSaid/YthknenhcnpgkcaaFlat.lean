import Derived.Test.YthknenhcnpgkcaaOrd
/- Items as cells. -/
namespace Go.Proofs.Ythknenhcnpgkcaa
open Go.RowKit
def flat : List It → List Value
  | [] => []
  | i :: r => .string i.1 :: .string i.2 :: flat r
theorem flat_append : ∀ a b : List It, flat (a ++ b) = flat a ++ flat b
  | [], _ => rfl
  | i :: a, b => by simp [flat, flat_append a b]
theorem flat_length : ∀ a : List It, (flat a).length = a.length * 2
  | [] => rfl
  | i :: a => by simp [flat, flat_length a]; omega
theorem flat_one : ∀ (a : List It), ∀ u ∈ flat a, u.oneCell' = true
  | [], u, h => by simp [flat] at h
  | i :: a, u, h => by
    rcases List.mem_cons.1 h with rfl | h
    · rfl
    · rcases List.mem_cons.1 h with rfl | h
      · rfl
      · exact flat_one a u h
theorem flat_at : ∀ (a : List It) (i : Nat) (x : It), a[i]? = some x → (flat a)[2 * i]? = some (.string x.1) ∧ (flat a)[2 * i + 1]? = some (.string x.2)
  | y :: a, 0, x, h => by simp at h; subst h; simp [flat]
  | y :: a, i + 1, x, h => by
    have := flat_at a i x (by simpa using h)
    simp only [flat]
    rw [show 2 * (i + 1) = 2 * i + 1 + 1 from by omega, show 2 * i + 1 + 1 + 1 = 2 * i + 1 + 1 + 1 from rfl]
    simpa using this
theorem flat_take : ∀ (a : List It) (i : Nat), (flat a).take (i * 2) = flat (a.take i)
  | _, 0 => by simp [flat]
  | [], i + 1 => by simp [flat]
  | y :: a, i + 1 => by
    rw [show (i + 1) * 2 = i * 2 + 1 + 1 from by omega]
    simp [flat, flat_take a i]
theorem flat_drop : ∀ (a : List It) (i : Nat), (flat a).drop (i * 2) = flat (a.drop i)
  | _, 0 => by simp
  | [], i + 1 => by simp [flat]
  | y :: a, i + 1 => by
    rw [show (i + 1) * 2 = i * 2 + 1 + 1 from by omega]
    simp [flat, flat_drop a i]
theorem flat_set : ∀ (a : List It) (i : Nat) (x : It), i < a.length → flat (a.set i x) = ((flat a).set (2 * i) (.string x.1)).set (2 * i + 1) (.string x.2)
  | y :: a, 0, x, _ => by simp [flat]
  | y :: a, i + 1, x, h => by
    rw [show 2 * (i + 1) = 2 * i + 1 + 1 from by omega]
    simp [flat, flat_set a i x (by simpa using h)]
end Go.Proofs.Ythknenhcnpgkcaa
