/- Texts of this proof, merged: Frame, Items. -/
import Derived.Test.YthknenhcnpgkcaaGreatRows
import Derived.WalkKit
import Derived.ProofKit
import Derived.OpenShut
import Derived.ShutString
import Derived.ChangeOld
import Derived.Below
import Derived.Lib.SmallJoins
import Derived.Test.YthknenhcnpgkcaaGreatMb
import Derived.Deep.SlicePairs
/- What each statement's frame wants once. -/
namespace Go.Proofs.YthknenhcnpgkcaaGreat
open Go.RowKit
theorem own : ownKnob Tryz.prog.godebug = none := by kernel_rfl
theorem laidOut : laidOutB Tryz.prog = true := by kernel_rfl
/-- A number of 64 bits without a sign. -/
def U64 (n : Int) : Prop := (Lit.int .u64 n).wf = true
theorem U64.bd {n : Int} (h : U64 n) : 0 ≤ n ∧ n ≤ 18446744073709551615 := by
  have h : (Lit.int .u64 n).wf = true := h
  simp [Lit.wf, IntKind.min, IntKind.max, IntKind.signed, IntKind.bits] at h
  omega
end Go.Proofs.YthknenhcnpgkcaaGreat

/- A list of items that came in. -/
namespace Go.Proofs.YthknenhcnpgkcaaGreat
open Go.RowKit Go.ChangeShapes Go.WideShapes
def strOf : Value → ByteArray
  | .string s => s
  | _ => ⟨#[]⟩
/-- v is a list of the items its. -/
structure ItemsAt (W : World) (v : Value) (its : List It) : Prop where
  small : ∀ i ∈ its, i.1.size ≤ maxLen ∧ i.2.size ≤ maxLen
  form : (v = .slice none 0 0 ∧ its = []) ∨ ∃ a cap, v = .slice (some a) its.length cap ∧ its.length ≤ cap ∧ cap ≤ maxLen ∧ ∀ j u, (flat its)[j]? = some u → W.cell? (a.add j) = some u
theorem ItemsAt.src {W : World} {v : Value} {its : List It} (h : ItemsAt W v its) : Src W 2 v its.length (flat its) := by
  refine ⟨flat_length its, flat_one its, ?_⟩
  rcases h.form with ⟨rfl, rfl⟩ | ⟨a, cap, rfl, _, _, hc⟩
  · exact .inl ⟨rfl, rfl⟩
  · exact .inr ⟨a, cap, rfl, hc⟩
theorem flat_cells (f : Nat → It) (n j : Nat) (u : Value) (h : (flat ((List.range n).map f))[j]? = some u) : ∃ i, i < n ∧ ((j = i * 2 ∧ u = .string (f i).1) ∨ (j = i * 2 + 1 ∧ u = .string (f i).2)) := by
  have hl : j < (flat ((List.range n).map f)).length := (List.getElem?_eq_some_iff.1 h).1
  rw [flat_length] at hl
  simp at hl
  have hi : j / 2 < n := by omega
  have h2 := flat_at ((List.range n).map f) (j / 2) (f (j / 2)) (by simp [hi])
  refine ⟨j / 2, hi, ?_⟩
  rcases Nat.mod_two_eq_zero_or_one j with e | e
  · have ej : 2 * (j / 2) = j := by omega
    rw [ej, h] at h2
    exact .inl ⟨by omega, Option.some.inj h2.1⟩
  · have ej : 2 * (j / 2) + 1 = j := by omega
    rw [ej, h] at h2
    exact .inr ⟨by omega, Option.some.inj h2.2⟩
set_option maxRecDepth 100000 in
theorem open_items {H : Type} {enc : TypeId × Value → H} {W : World} {v : Value} {d : DataW H} {p : List MemPlace} {r : Reach} {b0 : Nat}
    (hv : Value.okWide Tryz.prog W r b0 22 v) (h : DataW.Trod enc Tryz.prog W 0 (fun _ => true) true 22 v d p) : ∃ its, ItemsAt W v its := by
  obtain ⟨fuel, hf⟩ := h
  obtain ⟨a0, len0, cap0, rfl⟩ := okWide_slice Tryz.underlying22 hv
  rcases Go.Deep.open_slice_pairs Tryz.underlying22 Tryz.underlying59 (by kernel_rfl) rfl rfl (by kernel_rfl) (by kernel_rfl) hf with ⟨e, _⟩ | ⟨a, len, cap, m, n, V0, V1, D0, D1, P0, P1, e, _, hl, hm, hmm, _, hx⟩
  · rw [show Value.slice a0 len0 cap0 = .slice none 0 0 from (List.cons.inj e).1]
    exact ⟨[], by simp, .inl ⟨rfl, rfl⟩⟩
  · rw [show Value.slice a0 len0 cap0 = .slice (some a) len cap from (List.cons.inj e).1]
    have hmm : m = cap := by simpa using hmm
    subst hmm
    have each : ∀ i, i < m → V0 i = .string (strOf (V0 i)) ∧ V1 i = .string (strOf (V1 i)) ∧ (strOf (V0 i)).size ≤ maxLen ∧ (strOf (V1 i)).size ≤ maxLen := by
      intro i hi
      obtain ⟨_, _, h0, h1⟩ := hx i hi
      obtain ⟨s, e, _, hs⟩ := DataW.trod_string Tryz.underlying9 h0
      obtain ⟨s', e', _, hs'⟩ := DataW.trod_string Tryz.underlying9 h1
      have e := (List.cons.inj e).1
      have e' := (List.cons.inj e').1
      rw [e, e']
      exact ⟨rfl, rfl, hs, hs'⟩
    refine ⟨(List.range len).map fun i => (strOf (V0 i), strOf (V1 i)), ?_, .inr ⟨a, m, by simp, by simpa using hl, hm, ?_⟩⟩
    · intro i hi
      obtain ⟨k, hk, rfl⟩ := List.mem_map.1 hi
      have hk := List.mem_range.1 hk
      obtain ⟨_, _, h3, h4⟩ := each k (by omega)
      exact ⟨h3, h4⟩
    · intro j u hu
      obtain ⟨i, hi, h2⟩ := flat_cells _ _ _ _ hu
      obtain ⟨c0, c1, _, _⟩ := hx i (by omega)
      obtain ⟨e0, e1, _, _⟩ := each i (by omega)
      rcases h2 with ⟨rfl, rfl⟩ | ⟨rfl, rfl⟩
      · rw [c0, e0]; rfl
      · rw [c1, e1]; rfl
end Go.Proofs.YthknenhcnpgkcaaGreat
