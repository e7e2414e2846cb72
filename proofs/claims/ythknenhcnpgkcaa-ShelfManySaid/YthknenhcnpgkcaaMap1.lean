/- A shelf and a map[int]bool that has the same keys. -/
import Derived.Test.YthknenhcnpgkcaaShC1
import Derived.Test.YthknenhcnpgkcaaMf
import Derived.Maps.OwnSet
import Derived.Maps.OwnOps
namespace Go.Proofs.Ythknenhcnpgkcaa
set_option linter.unusedVariables false
set_option linter.unusedSimpArgs false
open Go.RowKit
open Go.Maps (Keyed)
theorem law_int : Keyed Try.prog 3 := Maps.int_keyed Try.underlying3
theorem zero_bool (w : World) : (zeroValue 4).run Try.prog w = .ok (.bool false) w := by kernel_rfl
/-- What a place reads as. -/
def klit (j : Nat) : Lit := .int .i64 j
set_option maxRecDepth 100000 in
theorem key_klit (j : Nat) (hj : j ≤ 996) : _root_.Go.keyOf Try.prog 3 (.int .i64 (j : Int)) = some (klit j) := Maps.keyOf_int_mk Try.underlying3 (WalkArith.wf_i64 (by omega))
theorem klit_ne {i j : Nat} (h : i ≠ j) : klit i ≠ klit j := fun e => by
  unfold klit at e
  injection e with _ e
  exact h (by omega)
/-- Block b is a map from ints to bools: it has true at the numbers whose keys are in xs, and nothing else. -/
def Had (W : World) (b : Nat) (xs : List It) : Prop :=
  ∃ D : DataW Unit, W.ownsMap Try.prog 3 (plainElem Try.prog 4) b xs.length D ∧ Maps.size D = xs.length ∧ ∀ j : Nat, j ≤ 996 → Maps.has D (klit j) = (valueOf (keyOf j) xs).isSome ∧ D.atKey (klit j) (.lit (.bool false)) = .lit (.bool (valueOf (keyOf j) xs).isSome)
theorem ownsMap_size {H : Type} {w : World} {P : Program} {k : TypeId} {R : Value → Option (DataW H × List MemPlace)} {b n : Nat} {D : DataW H} (h : w.ownsMap P k R b n D) : w.ownsMap P k R b (Maps.size D) D := by
  obtain ⟨es, clock, hb, F, hs, rfl⟩ := h
  exact ⟨es, clock, hb, F, by simp [Maps.size, length_sorted], rfl⟩
theorem Had.keep {W W' : World} {b : Nat} {xs : List It} (h : Had W b xs) (hb : W'.heap[b]? = W.heap[b]?) : Had W' b xs := by
  obtain ⟨D, ⟨es, clock, h1, h2⟩, h3⟩ := h
  exact ⟨D, ⟨es, clock, hb.trans h1, h2⟩, h3⟩
theorem Had.lt {W : World} {b : Nat} {xs : List It} (h : Had W b xs) : b < W.heap.size := by
  obtain ⟨D, h1, _⟩ := h
  exact h1.lt
theorem had_made (W : World) : Had (W.alloc (.map #[] 0)) W.heap.size [] := ⟨.map [], World.ownsMap_made _ _ _ _, rfl, fun j hj => ⟨rfl, rfl⟩⟩
set_option maxRecDepth 100000 in
theorem bool_inv {v : Value} {z : DataW Unit × List MemPlace} (h : plainElem Try.prog 4 v = some z) : ∃ x, v = .bool x ∧ z.1 = .lit (.bool x) := by
  unfold plainElem at h
  rw [Try.underlying4] at h
  split at h
  · cases h; exact ⟨_, rfl, rfl⟩
  · rename_i e; cases e
  · rename_i e; cases e
  · cases h
set_option maxRecDepth 100000 in
theorem Had.look {W : World} {b : Nat} {xs : List It} (h : Had W b xs) (j : Nat) (hj : j ≤ 996) : (Instr.lookup 74 (.map (some b)) (.int .i64 (j : Int)) false).run Try.prog W = .ok (.bool (valueOf (keyOf j) xs).isSome) W := by
  obtain ⟨D, h1, h2, h3⟩ := h
  obtain ⟨v, ps, hrun, hv⟩ := h1.lookup law_int Try.underlying74 (zero_bool W) (plainElem_bool Try.underlying4 false) (key_klit j hj)
  obtain ⟨x, rfl, hx⟩ := bool_inv hv
  rw [(h3 j hj).2] at hx
  injection hx with hx
  injection hx with hx
  rw [hrun, hx]
set_option maxRecDepth 100000 in
theorem Had.len {W : World} {b : Nat} {xs : List It} (h : Had W b xs) (m : Nat) (hm : xs.length = m) (ty : TypeId) : (Builtin.len_ #[74] ty #[.map (some b)]).run Try.prog W = .ok (.int .i64 m) W := by
  obtain ⟨D, h1, h2, h3⟩ := h
  rw [h1.len Try.underlying74 ty, h2, hm]
theorem chg_turned {W W' : World} {b : Nat} (h : W.mapTurned W' b) : Chg (fun k => k = b) W W' := by
  have := h.grown
  exact ⟨this.os, this.tape, this.output, this.size, fun i hi hn => this.block i hi (fun e => hn (by injection e))⟩
set_option maxRecDepth 100000 in
theorem Had.store {W : World} {b : Nat} {xs xs' : List It} (h : Had W b xs) (hn : xs.length ≤ 1000) (j : Nat) (hj : j ≤ 996) (hp : putL 200 (keyOf j) ⟨#[118]⟩ xs = (0, xs')) :
    ∃ W', (Instr.mapUpdate 74 (.map (some b)) (.int .i64 (j : Int)) (.bool true)).run Try.prog W = .ok () W' ∧ Had W' b xs' ∧ Chg (fun k => k = b) W W' := by
  obtain ⟨D, h1, h2, h3⟩ := h
  obtain ⟨W', hrun, hown, hturn⟩ := h1.store law_int Try.underlying74 (by unfold maxLen; omega) (key_klit j hj) (plainElem_bool Try.underlying4 true)
  have hown := ownsMap_size hown
  have htidy := h1.tidy law_int
  have hsz := Maps.size_put htidy (k := klit j) (.lit (.bool true))
  have s1 : (keyOf j).size = 3 := rfl
  rw [putL_ok (by omega) (by omega) (by decide), ← (h3 j hj).1] at hp
  have hkk : WideAt.IsKeyLit (klit j) := law_int.key (key_klit j hj)
  have hlen : Maps.size (D.put (klit j) (.lit (.bool true))) = xs'.length := by
    rw [hsz, h2]
    cases hh : Maps.has D (klit j)
    · rw [hh, if_neg (by simp)] at hp
      rw [if_neg (by simp)]
      split at hp
      · cases hp
      · injection hp with _ hp; rw [← hp, insL_length]
    · rw [hh, if_pos rfl] at hp
      rw [if_pos rfl]
      injection hp with _ hp; rw [← hp, repL_length]
  have hval : ∀ i, i ≤ 996 → valueOf (keyOf i) xs' = if i = j then some ⟨#[118]⟩ else valueOf (keyOf i) xs := fun i hi => by
    cases hh : Maps.has D (klit j)
    · rw [hh, if_neg (by simp)] at hp
      have hnn : valueOf (keyOf j) xs = none := by
        have := (h3 j hj).1
        rw [hh] at this
        cases hv : valueOf (keyOf j) xs with
        | none => rfl
        | some v => rw [hv] at this; cases this
      split at hp
      · cases hp
      · injection hp with _ hp
        rw [← hp]
        by_cases e : i = j
        · rw [if_pos e, e]; exact valueOf_insL_self hnn
        · rw [if_neg e]; exact valueOf_insL_ne fun e' => e (keyOf_inj hi hj e')
    · rw [hh, if_pos rfl] at hp
      injection hp with _ hp
      rw [← hp]
      by_cases e : i = j
      · rw [if_pos e, e]; exact valueOf_repL_self (isSome_iff.1 (by rw [← (h3 j hj).1]; exact hh))
      · rw [if_neg e]; exact valueOf_repL_ne fun e' => e (keyOf_inj hi hj e')
  refine ⟨W', hrun, ⟨_, by rw [← hlen]; exact hown, hlen, fun i hi => ?_⟩, chg_turned hturn⟩
  rw [hval i hi]
  by_cases e : i = j
  · subst e
    rw [if_pos rfl]
    exact ⟨Maps.has_put_same h1.isMap hkk _, Maps.atKey_put_same h1.isMap hkk _ _⟩
  · rw [if_neg e, Maps.has_put_other (klit_ne e), Maps.atKey_put_other (klit_ne e)]
    exact h3 i hi
set_option maxRecDepth 100000 in
theorem Had.drop {W : World} {b : Nat} {xs : List It} (h : Had W b xs) (hr : Rises xs) (j : Nat) (hj : j ≤ 996) (ty : TypeId) :
    ∃ W', (Builtin.delete_ #[74, 3] ty #[.map (some b), .int .i64 (j : Int)]).run Try.prog W = .ok (.tuple #[]) W' ∧ Had W' b (delL (keyOf j) xs) ∧ Chg (fun k => k = b) W W' := by
  obtain ⟨D, h1, h2, h3⟩ := h
  obtain ⟨W', hrun, hown, hturn⟩ := h1.drop law_int Try.underlying74 (key_klit j hj) ty
  have hown := ownsMap_size hown
  have htidy := h1.tidy law_int
  have hsz := Maps.size_del htidy (k := klit j)
  have hlen : Maps.size (D.del (klit j)) = (delL (keyOf j) xs).length := by
    rw [(h3 j hj).1, h2] at hsz
    cases hh : valueOf (keyOf j) xs with
    | none => rw [hh] at hsz; rw [delL_none hh]; simpa using hsz
    | some v =>
      have := delL_length hr (isSome_iff.1 (show (valueOf (keyOf j) xs).isSome = true by rw [hh]; rfl))
      rw [hh] at hsz
      simp at hsz
      omega
  refine ⟨W', hrun, ⟨_, by rw [← hlen]; exact hown, hlen, fun i hi => ?_⟩, chg_turned hturn⟩
  by_cases e : i = j
  · subst e
    rw [valueOf_delL_self]
    exact ⟨Maps.has_del_same, Maps.atKey_del_same _⟩
  · rw [valueOf_delL_ne (fun e' => e (keyOf_inj hi hj e')), Maps.has_del_other (klit_ne e), Maps.atKey_del_other (klit_ne e)]
    exact h3 i hi
end Go.Proofs.Ythknenhcnpgkcaa
