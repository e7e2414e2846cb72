import Derived.Test.YthgajbfgolcpkaaVwA
import Derived.Test.YthgajbfgolcpkaaFrame
import Derived.Deep.Slices
import Derived.Lib.SmallJoins
/- Arcs with their owners that came in. -/
namespace Go.Proofs.Ythgajbfgolcpkaa
open Go.RowKit Go.ChangeShapes Go.WideShapes Go.Deep
set_option linter.unusedVariables false
set_option linter.unusedSimpArgs false
/-- v is a list of the arcs with owners zs. -/
structure OwsAt (W : World) (v : Value) (zs : List Ow) : Prop where
  ok : ∀ o ∈ zs, OkA o.1 o.2.1
  form : (v = .slice none 0 0 ∧ zs = []) ∨ ∃ a cap, v = .slice (some a) zs.length cap ∧ ∀ j u, (flatO zs)[j]? = some u → W.cell? (a.add j) = some u
theorem OwsAt.slice {W : World} {v : Value} {zs : List Ow} (h : OwsAt W v zs) : ∃ ao cap, v = .slice ao zs.length cap := by
  rcases h.form with ⟨rfl, rfl⟩ | ⟨a, cap, rfl, _⟩
  · exact ⟨_, _, rfl⟩
  · exact ⟨_, _, rfl⟩
theorem OwsAt.at_ {W : World} {ao : Option Addr} {n cap : Nat} {zs : List Ow} (h : OwsAt W (.slice ao n cap) zs) {i : Nat} {x : Ow} (hx : zs[i]? = some x) :
    ∃ b o, ao = some ⟨b, o, none⟩ ∧ W.cell? ⟨b, o + i * 4, none⟩ = some (.int .u64 x.1) ∧ W.cell? ⟨b, o + i * 4 + 1, none⟩ = some (.int .u64 x.2.1) ∧ W.cell? ⟨b, o + i * 4 + 2, none⟩ = some (.int .i64 x.2.2.1) ∧ W.cell? ⟨b, o + i * 4 + 3, none⟩ = some (.int .i64 x.2.2.2) := by
  have hi : i < zs.length := (List.getElem?_eq_some_iff.1 hx).1
  rcases h.form with ⟨_, rfl⟩ | ⟨⟨b, o, e⟩, c, hv, hc⟩
  · simp at hi
  · cases hv
    have hs : e = none := by
      have := World.cell?_spot (hc (i * 4 + 0) _ (flatO_at hx 0 _ rfl))
      have e0 := World.cell?_spot (hc (0 * 4 + 0) _ (flatO_at (List.getElem?_eq_getElem (show 0 < zs.length by omega)) 0 _ rfl))
      simpa [Addr.add] using e0
    subst hs
    refine ⟨b, o, rfl, ?_, ?_, ?_, ?_⟩
    · have := hc _ _ (flatO_at hx 0 _ rfl); rw [Addr.add_lit] at this; exact this
    · have := hc _ _ (flatO_at hx 1 _ rfl); rw [Addr.add_lit] at this; exact this
    · have := hc _ _ (flatO_at hx 2 _ rfl); rw [Addr.add_lit] at this; exact this
    · have := hc _ _ (flatO_at hx 3 _ rfl); rw [Addr.add_lit] at this; exact this
theorem u64_ok {a b : Int} (ha : (Lit.int .u64 a).wf = true) (hb : (Lit.int .u64 b).wf = true) : OkA a b := by
  have h1 := U64.bd ha
  have h2 := U64.bd hb
  exact ⟨h1.1, by omega, h2.1, by omega⟩
theorem flatO_cells (f : Nat → Ow) (n j : Nat) (u : Value) (h : (flatO ((List.range n).map f))[j]? = some u) : ∃ i k, i < n ∧ j = i * 4 + k ∧ k < 4 ∧ (owl (f i))[k]? = some u := by
  have hl : j < (flatO ((List.range n).map f)).length := (List.getElem?_eq_some_iff.1 h).1
  rw [flatO_length] at hl
  simp at hl
  have hi : j / 4 < n := by omega
  have hk : j % 4 < 4 := Nat.mod_lt _ (by omega)
  have ho : ∃ x, (owl (f (j / 4)))[j % 4]? = some x := ⟨_, List.getElem?_eq_getElem (by simp [owl]; omega)⟩
  obtain ⟨x, hx⟩ := ho
  have h2 := flatO_at (a := (List.range n).map f) (i := j / 4) (p := f (j / 4)) (by simp [hi]) _ _ hx
  have ej : j / 4 * 4 + j % 4 = j := by omega
  rw [ej, h] at h2
  cases h2
  exact ⟨j / 4, j % 4, hi, by omega, hk, hx⟩
set_option maxRecDepth 100000 in
/-- The cells of one. -/
theorem open_owned_cells {H : Type} {enc : TypeId × Value → H} {W : World} {base : Nat} {spare : Nat → Bool} {held : Bool} {fuel : Nat} {cs : List Value} {x : DataW H × List MemPlace}
    (h : DataW.trod enc Try.prog W base spare held fuel 71 cs = some x) : ∃ o : Ow, cs = owl o ∧ OkA o.1 o.2.1 := by
  obtain ⟨xs, n, _, _, hcl, hxl, hf⟩ := DataW.trod_struct Try.underlying71 h
  have hc4 : cs.length = 4 := hcl.trans (by kernel_rfl)
  match cs, hc4, xs, hxl with
  | [c0, c1, c2, c3], _, [y0, y1, y2], _ =>
    have g0 := hf 0 _ rfl
    have g1 := hf 1 _ rfl
    have g2 := hf 2 _ rfl
    simp [show Try.prog.cellsOf 34 = 2 by kernel_rfl, show Try.prog.cellsOf 3 = 1 by kernel_rfl] at g0 g1 g2
    obtain ⟨zs, m, _, _, _, hzl, hz⟩ := DataW.trod_struct Try.underlying34 g0
    match zs, hzl with
    | [z0, z1], _ =>
      have k0 := hz 0 _ rfl
      have k1 := hz 1 _ rfl
      simp [show Try.prog.cellsOf 32 = 1 by kernel_rfl] at k0 k1
      obtain ⟨a, e0, _, w0⟩ := DataW.trod_int Try.underlying32 k0
      obtain ⟨b, e1, _, w1⟩ := DataW.trod_int Try.underlying32 k1
      obtain ⟨c, e2, _, _⟩ := DataW.trod_int Try.underlying3 g1
      obtain ⟨d, e3, _, _⟩ := DataW.trod_int Try.underlying3 g2
      simp at e0 e1 e2 e3
      subst e0 e1 e2 e3
      exact ⟨(a, b, c, d), rfl, u64_ok w0 w1⟩
set_option maxRecDepth 100000 in
theorem open_owned {H : Type} {enc : TypeId × Value → H} {W : World} {v : Value} {d : DataW H} {p : List MemPlace} {r : Reach} {b0 : Nat}
    (hv : Value.okWide Try.prog W r b0 71 v) (h : DataW.Trod enc Try.prog W 0 (fun _ => true) true 71 v d p) : ∃ o : Ow, v = .agg (owA o) ∧ OkA o.1 o.2.1 := by
  obtain ⟨fuel, hf⟩ := h
  obtain ⟨cs, rfl, hsz⟩ := okWide_struct Try.underlying71 hv
  obtain ⟨o, ho, hk⟩ := open_owned_cells hf
  refine ⟨o, ?_, hk⟩
  have : cs.toList = owl o := by simpa [Value.cells] using ho
  obtain ⟨l⟩ := cs
  simp at this
  subst this
  rfl
set_option maxRecDepth 100000 in
theorem open_owneds {H : Type} {enc : TypeId × Value → H} {W : World} {v : Value} {d : DataW H} {p : List MemPlace} {r : Reach} {b0 : Nat}
    (hv : Value.okWide Try.prog W r b0 69 v) (h : DataW.Trod enc Try.prog W 0 (fun _ => true) true 69 v d p) : ∃ zs, OwsAt W v zs := by
  obtain ⟨fuel, hf⟩ := h
  obtain ⟨a0, len0, cap0, rfl⟩ := okWide_slice Try.underlying69 hv
  rcases open_slice Try.underlying69 hf with ⟨e, _⟩ | ⟨a, len, cap, m, n, D, Pl, e, _, hl, hm, hmm, _, hx⟩
  · rw [show Value.slice a0 len0 cap0 = .slice none 0 0 from (List.cons.inj e).1]
    exact ⟨[], by simp, .inl ⟨rfl, rfl⟩⟩
  · rw [show Value.slice a0 len0 cap0 = .slice (some a) len cap from (List.cons.inj e).1]
    have hmm : m = cap := by simpa using hmm
    subst hmm
    have each : ∀ i, i < m → ∃ o : Ow, OkA o.1 o.2.1 ∧ ∀ k u, (owl o)[k]? = some u → W.cell? (a.add (i * 4 + k)) = some u := by
      intro i hi
      obtain ⟨cs', h1, h2⟩ := hx i hi
      obtain ⟨o, rfl, hk⟩ := open_owned_cells h2
      refine ⟨o, hk, fun k u hu => ?_⟩
      rw [show Try.prog.cellsOf 71 = 4 by kernel_rfl] at h1
      obtain ⟨_, _, hc⟩ := World.cells?_some h1
      have hk4 : k < 4 := (List.getElem?_eq_some_iff.1 hu).1
      rw [← add_add, hc k hk4, hu]
    obtain ⟨f, hf2⟩ := choose_lt (α := Ow) each
    refine ⟨(List.range len).map f, ?_, .inr ⟨a, m, by simp, ?_⟩⟩
    · intro o ho
      obtain ⟨k, hk, rfl⟩ := List.mem_map.1 ho
      have hk := List.mem_range.1 hk
      exact (hf2 k (by omega)).1
    · intro j u hu
      obtain ⟨i, k, hi, rfl, _, h2⟩ := flatO_cells _ _ _ _ hu
      exact (hf2 i (by omega)).2 k u h2
end Go.Proofs.Ythgajbfgolcpkaa
