/- A list of what is to be done that came in. -/
import Derived.Test.YthknenhcnpgkcaaMi
import Derived.Test.YthknenhcnpgkcaaMb
import Derived.Deep.Slices
import Derived.Lib.SmallJoins
namespace Go.Proofs.Ythknenhcnpgkcaa
open Go.RowKit Go.ChangeShapes Go.WideShapes Go.Deep
set_option linter.unusedVariables false
set_option linter.unusedSimpArgs false
/-- What is done: a kind, a key, a value. -/
abbrev Op3 := Int × ByteArray × ByteArray
def opl (o : Op3) : List Value := [.int .i64 o.1, .string o.2.1, .string o.2.2]
def flatP : List Op3 → List Value
  | [] => []
  | o :: r => opl o ++ flatP r
theorem flatP_length : ∀ l : List Op3, (flatP l).length = l.length * 3
  | [] => rfl
  | o :: r => by simp [flatP, flatP_length r, opl]; omega
theorem flatP_at : ∀ {a : List Op3} {i : Nat} {p : Op3}, a[i]? = some p → ∀ (j : Nat) (u : Value), (opl p)[j]? = some u → (flatP a)[i * 3 + j]? = some u
  | [], i, p, h, _, _, _ => by cases h
  | x :: a, 0, p, h, j, u, hu => by
    cases h
    have hj : j < 3 := (List.getElem?_eq_some_iff.1 hu).1
    rw [flatP, List.getElem?_append_left (by simp [opl]; omega)]
    simpa using hu
  | x :: a, i + 1, p, h, j, u, hu => by
    rw [flatP, List.getElem?_append_right (by simp [opl]; omega)]
    have := flatP_at (a := a) (i := i) (p := p) (by simpa using h) j u hu
    rw [← this]
    congr 1
    simp [opl]; omega
/-- v is a list of what is to be done. -/
structure OpsAt (W : World) (v : Value) (zs : List Op3) : Prop where
  ok : ∀ o ∈ zs, o.2.1.size ≤ maxLen ∧ o.2.2.size ≤ maxLen
  form : (v = .slice none 0 0 ∧ zs = []) ∨ ∃ a cap, v = .slice (some a) zs.length cap ∧ ∀ j u, (flatP zs)[j]? = some u → W.cell? (a.add j) = some u
theorem OpsAt.slice {W : World} {v : Value} {zs : List Op3} (h : OpsAt W v zs) : ∃ ao cap, v = .slice ao zs.length cap := by
  rcases h.form with ⟨rfl, rfl⟩ | ⟨a, cap, rfl, _⟩
  · exact ⟨_, _, rfl⟩
  · exact ⟨_, _, rfl⟩
theorem OpsAt.at_ {W : World} {ao : Option Addr} {n cap : Nat} {zs : List Op3} (h : OpsAt W (.slice ao n cap) zs) {i : Nat} {x : Op3} (hx : zs[i]? = some x) :
    ∃ b o, ao = some ⟨b, o, none⟩ ∧ W.cell? ⟨b, o + i * 3, none⟩ = some (.int .i64 x.1) ∧ W.cell? ⟨b, o + i * 3 + 1, none⟩ = some (.string x.2.1) ∧ W.cell? ⟨b, o + i * 3 + 2, none⟩ = some (.string x.2.2) := by
  have hi : i < zs.length := (List.getElem?_eq_some_iff.1 hx).1
  rcases h.form with ⟨_, rfl⟩ | ⟨⟨b, o, e⟩, c, hv, hc⟩
  · simp at hi
  · cases hv
    have hs : e = none := by
      have := World.cell?_spot (hc (i * 3 + 0) _ (flatP_at hx 0 _ rfl))
      have e0 := World.cell?_spot (hc (0 * 3 + 0) _ (flatP_at (List.getElem?_eq_getElem (show 0 < zs.length by omega)) 0 _ rfl))
      simpa [Addr.add] using e0
    subst hs
    refine ⟨b, o, rfl, ?_, ?_, ?_⟩
    · have := hc _ _ (flatP_at hx 0 _ rfl); rw [Addr.add_lit] at this; exact this
    · have := hc _ _ (flatP_at hx 1 _ rfl); rw [Addr.add_lit] at this; exact this
    · have := hc _ _ (flatP_at hx 2 _ rfl); rw [Addr.add_lit] at this; exact this
theorem OpsAt.heap {W W' : World} {v : Value} {zs : List Op3} (h : OpsAt W v zs) (hb : Below W.heap.size W W') : OpsAt W' v zs := by
  refine ⟨h.ok, h.form.imp id ?_⟩
  rintro ⟨a, c, rfl, hc⟩
  refine ⟨a, c, rfl, fun j u hu => ?_⟩
  have := hc j u hu
  rw [hb.cell (World.block_lt_of_cell? _ _ this)]; exact this
theorem flatP_cells (f : Nat → Op3) (n j : Nat) (u : Value) (h : (flatP ((List.range n).map f))[j]? = some u) : ∃ i k, i < n ∧ j = i * 3 + k ∧ k < 3 ∧ (opl (f i))[k]? = some u := by
  have hl : j < (flatP ((List.range n).map f)).length := (List.getElem?_eq_some_iff.1 h).1
  rw [flatP_length] at hl
  simp at hl
  have hi : j / 3 < n := by omega
  have hk : j % 3 < 3 := Nat.mod_lt _ (by omega)
  have ho : ∃ x, (opl (f (j / 3)))[j % 3]? = some x := ⟨_, List.getElem?_eq_getElem (by simp [opl]; omega)⟩
  obtain ⟨x, hx⟩ := ho
  have h2 := flatP_at (a := (List.range n).map f) (i := j / 3) (p := f (j / 3)) (by simp [hi]) _ _ hx
  have ej : j / 3 * 3 + j % 3 = j := by omega
  rw [ej, h] at h2
  cases h2
  exact ⟨j / 3, j % 3, hi, by omega, hk, hx⟩
set_option maxRecDepth 100000 in
/-- The cells of one. -/
theorem open_op_cells {H : Type} {enc : TypeId × Value → H} {W : World} {base : Nat} {spare : Nat → Bool} {held : Bool} {fuel : Nat} {cs : List Value} {x : DataW H × List MemPlace}
    (h : DataW.trod enc Try.prog W base spare held fuel 93 cs = some x) : ∃ o : Op3, cs = opl o ∧ o.2.1.size ≤ maxLen ∧ o.2.2.size ≤ maxLen := by
  obtain ⟨xs, n, _, _, hcl, hxl, hf⟩ := DataW.trod_struct Try.underlying93 h
  have hc3 : cs.length = 3 := hcl.trans (by kernel_rfl)
  match cs, hc3, xs, hxl with
  | [c0, c1, c2], _, [y0, y1, y2], _ =>
    have g0 := hf 0 _ rfl
    have g1 := hf 1 _ rfl
    have g2 := hf 2 _ rfl
    simp [show Try.prog.cellsOf 9 = 1 by kernel_rfl, show Try.prog.cellsOf 3 = 1 by kernel_rfl] at g0 g1 g2
    obtain ⟨a, e0, _, w0⟩ := DataW.trod_int Try.underlying3 g0
    obtain ⟨s, e1, _, w1⟩ := DataW.trod_string Try.underlying9 g1
    obtain ⟨t, e2, _, w2⟩ := DataW.trod_string Try.underlying9 g2
    simp at e0 e1 e2
    subst e0 e1 e2
    exact ⟨(a, s, t), rfl, w1, w2⟩
set_option maxRecDepth 100000 in
theorem open_ops {H : Type} {enc : TypeId × Value → H} {W : World} {v : Value} {d : DataW H} {p : List MemPlace} {r : Reach} {b0 : Nat}
    (hv : Value.okWide Try.prog W r b0 81 v) (h : DataW.Trod enc Try.prog W 0 (fun _ => true) true 81 v d p) : ∃ zs, OpsAt W v zs := by
  obtain ⟨fuel, hf⟩ := h
  obtain ⟨a0, len0, cap0, rfl⟩ := okWide_slice Try.underlying81 hv
  rcases open_slice Try.underlying81 hf with ⟨e, _⟩ | ⟨a, len, cap, m, n, D, Pl, e, _, hl, hm, hmm, _, hx⟩
  · rw [show Value.slice a0 len0 cap0 = .slice none 0 0 from (List.cons.inj e).1]
    exact ⟨[], by simp, .inl ⟨rfl, rfl⟩⟩
  · rw [show Value.slice a0 len0 cap0 = .slice (some a) len cap from (List.cons.inj e).1]
    have hmm : m = cap := by simpa using hmm
    subst hmm
    have each : ∀ i, i < m → ∃ o : Op3, (o.2.1.size ≤ maxLen ∧ o.2.2.size ≤ maxLen) ∧ ∀ k u, (opl o)[k]? = some u → W.cell? (a.add (i * 3 + k)) = some u := by
      intro i hi
      obtain ⟨cs', h1, h2⟩ := hx i hi
      obtain ⟨o, rfl, hk⟩ := open_op_cells h2
      refine ⟨o, hk, fun k u hu => ?_⟩
      rw [show Try.prog.cellsOf 93 = 3 by kernel_rfl] at h1
      obtain ⟨_, _, hc⟩ := World.cells?_some h1
      have hk3 : k < 3 := (List.getElem?_eq_some_iff.1 hu).1
      rw [← add_add, hc k hk3, hu]
    obtain ⟨f, hf2⟩ := choose_lt (α := Op3) each
    refine ⟨(List.range len).map f, ?_, .inr ⟨a, m, by simp, ?_⟩⟩
    · intro o ho
      obtain ⟨k, hk, rfl⟩ := List.mem_map.1 ho
      have hk := List.mem_range.1 hk
      exact (hf2 k (by omega)).1
    · intro j u hu
      obtain ⟨i, k, hi, rfl, _, h2⟩ := flatP_cells _ _ _ _ hu
      exact (hf2 i (by omega)).2 k u h2
end Go.Proofs.Ythknenhcnpgkcaa
