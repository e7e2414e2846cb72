import Derived.Test.YthgajbfgolcpkaaL
import Derived.ChangeSlices
import Derived.Lib.SmallJoins
/- A list of numbers that came in. -/
namespace Go.Proofs.Ythgajbfgolcpkaa
open Go.RowKit Go.ChangeShapes Go.WideShapes
/-- v is a list of the numbers zs. -/
structure IntsAt (W : World) (v : Value) (zs : List Int) : Prop where
  form : (v = .slice none 0 0 ∧ zs = []) ∨ ∃ a cap, v = .slice (some a) zs.length cap ∧ zs.length ≤ cap ∧ cap ≤ maxLen ∧ ∀ i x, zs[i]? = some x → W.cell? (a.add i) = some (.int .i64 x)
theorem IntsAt.slice {W : World} {v : Value} {zs : List Int} (h : IntsAt W v zs) : ∃ ao cap, v = .slice ao zs.length cap := by
  rcases h.form with ⟨rfl, rfl⟩ | ⟨a, cap, rfl, _⟩
  · exact ⟨_, _, rfl⟩
  · exact ⟨_, _, rfl⟩
theorem IntsAt.at_ {W : World} {ao : Option Addr} {n cap : Nat} {zs : List Int} (h : IntsAt W (.slice ao n cap) zs) {i : Nat} {x : Int} (hx : zs[i]? = some x) : ∃ b o, ao = some ⟨b, o, none⟩ ∧ W.cell? ⟨b, o + i, none⟩ = some (.int .i64 x) := by
  have hi : i < zs.length := (List.getElem?_eq_some_iff.1 hx).1
  rcases h.form with ⟨_, rfl⟩ | ⟨⟨b, o, e⟩, c, hv, _, _, hc⟩
  · simp at hi
  · cases hv
    have h1 := hc i x hx
    have hs : e = none := by
      have := World.cell?_spot (hc 0 _ (List.getElem?_eq_getElem (by omega)))
      simpa [Addr.add] using this
    subst hs
    refine ⟨b, o, rfl, ?_⟩
    rw [Addr.add_lit] at h1
    exact h1
set_option maxRecDepth 100000 in
theorem open_intlist {H : Type} {enc : TypeId × Value → H} {W : World} {v : Value} {d : DataW H} {p : List MemPlace} {r : Reach} {b0 : Nat}
    (hv : Value.okWide Try.prog W r b0 47 v) (h : DataW.Trod enc Try.prog W 0 (fun _ => true) true 47 v d p) : ∃ zs, IntsAt W v zs := by
  obtain ⟨fuel, hf⟩ := h
  obtain ⟨a0, len0, cap0, rfl⟩ := okWide_slice Try.underlying47 hv
  rcases open_ints Try.underlying47 Try.underlying3 (by kernel_rfl) hf with ⟨e, _⟩ | ⟨a, len, cap, zs, e, _, hl, hm, hzl, _, hc, _⟩
  · rw [show Value.slice a0 len0 cap0 = .slice none 0 0 from (List.cons.inj e).1]
    exact ⟨[], ⟨.inl ⟨rfl, rfl⟩⟩⟩
  · rw [show Value.slice a0 len0 cap0 = .slice (some a) len cap from (List.cons.inj e).1]
    have hzl : zs.length = cap := by simpa using hzl
    refine ⟨zs.take len, ⟨.inr ⟨a, cap, by rw [List.length_take, Nat.min_eq_left (by omega)], by rw [List.length_take]; omega, hm, ?_⟩⟩⟩
    intro i x hx
    have hi : i < len := by
      have := (List.getElem?_eq_some_iff.1 hx).1
      rw [List.length_take] at this; omega
    rw [List.getElem?_take_of_lt hi] at hx
    have := hc i (by omega)
    rw [this]
    simp [hx]
end Go.Proofs.Ythgajbfgolcpkaa
