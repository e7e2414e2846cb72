import Derived.Test.YthgajbfgolcpkaaVwC
/- From arc to arc around the ring: the plain law. -/
namespace Go.Proofs.Ythgajbfgolcpkaa
open Go.RowKit
set_option linter.unusedVariables false
set_option linter.unusedSimpArgs false
/-- Each point is known. -/
def Known (l : List Pt) : Prop := ∀ y, 0 ≤ y → y < 18446744073709551616 → 0 ≤ (semF l y).1
theorem Known.learn {l : List Pt} (h : GoodL l) (hk : Known l) {o : Ow} (ho : OkA o.1 o.2.1) : Known (learnAll l o).1 := by
  intro y hy hy2
  rw [(good_learn h ho).2.2.1 y hy hy2]
  have h1 := hk y hy hy2
  unfold newer
  split
  · rename_i c
    have : valid o = true := by
      have := c.1
      cases hv : valid o with
      | true => rfl
      | false => rw [hv] at this; simp at this
    unfold valid at this
    simp at this
    exact this.1.2
  · exact h1
theorem Known.told {l0 : List Pt} (h : GoodL l0) (hk : Known l0) : ∀ zs : List Ow, (∀ o ∈ zs, OkA o.1 o.2.1) → Known (Go.Proofs.Ythgajbfgolcpkaa.told l0 zs)
  | [], _ => hk
  | o :: zs, hz => Known.told (l0 := (learnAll l0 o).1) (good_learn h (hz o (by simp))).1 (hk.learn h (hz o (by simp))) zs fun p hp => hz p (by simp [hp])
theorem Known.ring {l : List Pt} (h : GoodL l) (hk : Known l) : l ≠ [] ∧ gapL l = false ∧ ringB l = true := by
  have hne : l ≠ [] := by
    intro e
    subst e
    have := hk 0 (by omega) (by omega)
    simp [semF] at this
  have hg : gapL l = false := by
    unfold gapL
    rw [List.any_eq_false]
    intro p hp
    have h1 := hk p.1 (h.ge p hp) (h.top p hp)
    rw [h.self hp] at h1
    simp; omega
  refine ⟨hne, hg, ?_⟩
  unfold ringB
  rw [hg]
  cases l with
  | nil => exact absurd rfl hne
  | cons a l => rfl
theorem mod_step (k j m : Nat) : ((k + j) % m + 1) % m = (k + (j + 1)) % m := by
  rw [Nat.mod_add_mod]; rfl
theorem mod_uniq {k j m : Nat} (hk : k < m) (hj : 0 < j) (hjm : j < m) : (k + j) % m ≠ (k + 0) % m := by
  rw [Nat.add_zero, Nat.mod_eq_of_lt hk]
  rcases Nat.lt_or_ge (k + j) m with c | c
  · rw [Nat.mod_eq_of_lt c]; omega
  · rw [Nat.mod_eq_sub_mod c, Nat.mod_eq_of_lt (by omega)]; omega
theorem round_law {l : List Pt} (h : GoodL l) (hk : Known l) {x : Int} (hx : 0 ≤ x) (hx2 : x < 18446744073709551616) :
    ∃ (m : Nat) (f : Nat → Ow), (arcsL l).length = m ∧ 1 ≤ m ∧ ownerL x (arcsL l) = some (f 0) ∧ inB (f 0).1 (f 0).2.1 x = true ∧ (∀ j, 0 ≤ (f j).2.1 ∧ (f j).2.1 < 18446744073709551616) ∧
      (∀ j y, 0 ≤ y → y < 18446744073709551616 → inB (f j).1 (f j).2.1 y = true → ownerL y (arcsL l) = some (f j)) ∧ (∀ j, inB (f (j + 1)).1 (f (j + 1)).2.1 (f j).2.1 = true) ∧ ∀ n, n < m → inB (f 0).1 (f 0).2.1 (f n).2.1 = decide (n + 1 = m) := by
  obtain ⟨hne, hg, _⟩ := hk.ring h
  obtain ⟨hm, hr⟩ := arcs_round h hne hg
  have hok := arcs_ok h
  have hol := fun y hy hy2 => owner_law h (x := y) hy hy2
  generalize arcsL l = L at *
  have huni : ∀ y, 0 ≤ y → y < 18446744073709551616 → ∃ (o : Ow) (i : Nat), ownerL y L = some o ∧ L[i]? = some o ∧ inB o.1 o.2.1 y = true ∧ ∀ (j : Nat) (u : Ow), L[j]? = some u → inB u.1 u.2.1 y = true → j = i := by
    intro y hy hy2
    rcases hol y hy hy2 with ⟨_, o, h1, _, h3, h4⟩ | ⟨c, _⟩
    · obtain ⟨i, h5, h6, h7⟩ := atL_uniq h4
      exact ⟨o, i, h1, h5, h6, h7⟩
    · have := hk y hy hy2; omega
  obtain ⟨o0, k, ho0, hk0, hin0, hu0⟩ := huni x hx hx2
  have hkm : k < L.length := (List.getElem?_eq_some_iff.1 hk0).1
  have hf : ∀ j, L[(k + j) % L.length]? = some ((L[(k + j) % L.length]?).getD (0, 0, 0, 0)) := by
    intro j
    rw [List.getElem?_eq_getElem (Nat.mod_lt _ (by omega))]; rfl
  have hf0 : (L[(k + 0) % L.length]?).getD (0, 0, 0, 0) = o0 := by rw [Nat.add_zero, Nat.mod_eq_of_lt hkm, hk0]; rfl
  generalize hfd : (fun j => (L[(k + j) % L.length]?).getD (0, 0, 0, 0)) = f at *
  have hf : ∀ j, L[(k + j) % L.length]? = some (f j) := by intro j; rw [← hfd]; exact hf j
  have hf0 : f 0 = o0 := by rw [← hfd]; exact hf0
  have hokf : ∀ j, OkA (f j).1 (f j).2.1 := fun j => hok _ (List.mem_of_getElem? (hf j))
  have hnext : ∀ j, (f j).2.1 = (f (j + 1)).1 := by
    intro j
    obtain ⟨u, hu, he⟩ := hr _ _ (hf j)
    rw [mod_step, hf (j + 1)] at hu
    cases hu
    exact he
  refine ⟨L.length, f, rfl, hm, by rw [hf0]; exact ho0, by rw [hf0]; exact hin0, fun j => ⟨(hokf j).b0, (hokf j).b1⟩, fun j y hy hy2 hj => ?_, fun j => by rw [hnext j]; exact inB_from (hokf (j + 1)), fun n hn => ?_⟩
  · obtain ⟨o, i, h1, h2, h3, h4⟩ := huni y hy hy2
    have e := h4 _ _ (hf j) hj
    have h5 := hf j
    rw [e, h2] at h5
    rw [h1, h5]
  · rw [hnext n]
    by_cases c : n + 1 = L.length
    · have e : f (n + 1) = f 0 := by
        have h1 := hf (n + 1)
        have h2 := hf 0
        rw [c, Nat.add_mod_right] at h1
        rw [Nat.add_zero] at h2
        rw [h1] at h2
        rw [c]; exact Option.some.inj h2
      rw [e]
      simp [c, inB_from (hokf 0)]
    · have c2 : decide (n + 1 = L.length) = false := by simp [c]
      rw [c2]
      cases hb : inB (f 0).1 (f 0).2.1 (f (n + 1)).1
      · rfl
      · exfalso
        obtain ⟨o, i, h1, h2, h3, h4⟩ := huni _ (hokf (n + 1)).a0 (hokf (n + 1)).a1
        have e1 := h4 _ _ (hf 0) hb
        have e2 := h4 _ _ (hf (n + 1)) (inB_from (hokf (n + 1)))
        exact mod_uniq hkm (Nat.succ_pos n) (by omega) (e2.trans e1.symm)
end Go.Proofs.Ythgajbfgolcpkaa
