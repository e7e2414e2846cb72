import Derived.Test.YthknenhcnpgkcaaSeq
/- Ranges over functions whose body appends to a list in a block: what it keeps (as in XVwE). -/
namespace Go.Proofs.Ythknenhcnpgkcaa
open Go.RowKit Go.Shelf
set_option linter.unusedVariables false
set_option linter.unusedSimpArgs false
/-- The block of the list in block A. -/
def ownOf (A : Nat) (W : World) : Option Nat := match W.heap[A]? with
  | some (.cells cs _ _) => (cs[0]?).bind Value.ownBlock
  | _ => none
/-- Nothing but the list in block A, and its block, and the blocks of S, has changed. -/
structure KpOS (A : Nat) (S : Nat → Prop) (W W' : World) : Prop where
  size : W.heap.size ≤ W'.heap.size
  keep : ∀ k o, W.heap[k]? = some o → o.isCells = true → k ≠ A → ¬ S k → ownOf A W ≠ some k → W'.heap[k]? = W.heap[k]?
  own : ∀ k, k < W.heap.size → ownOf A W' = some k → ownOf A W = some k
  typ : ∀ k cs t fr, W.heap[k]? = some (.cells cs t fr) → t ≠ 34 → k ≠ A → ¬ S k → W'.heap[k]? = W.heap[k]?
abbrev KpO (A : Nat) : World → World → Prop := KpOS A (fun _ => False)
theorem ownOf_same {A : Nat} {W W' : World} (h : W'.heap[A]? = W.heap[A]?) : ownOf A W' = ownOf A W := by unfold ownOf; rw [h]
theorem KpOS.refl (A : Nat) (S : Nat → Prop) (W : World) : KpOS A S W W := ⟨Nat.le_refl _, fun _ _ _ _ _ _ _ => rfl, fun _ _ h => h, fun _ _ _ _ _ _ _ _ => rfl⟩
theorem KpO.refl (A : Nat) (W : World) : KpO A W W := KpOS.refl _ _ _
theorem KpOS.trans {A : Nat} {S : Nat → Prop} {X Y Z : World} (h : KpOS A S X Y) (k : KpOS A S Y Z) : KpOS A S X Z :=
  ⟨Nat.le_trans h.size k.size, fun i o hi hc hA hS hn => by
    have h1 := h.keep i o hi hc hA hS hn
    exact (k.keep i o (h1.trans hi) hc hA hS fun e => hn (h.own i (lt_of_heap hi) e)).trans h1,
   fun i hi e => h.own i hi (k.own i (Nat.lt_of_lt_of_le hi h.size) e),
   fun i cs t fr hi ht hA hS => by
    have h1 := h.typ i cs t fr hi ht hA hS
    exact (k.typ i cs t fr (h1.trans hi) ht hA hS).trans h1⟩
theorem KpOS.below {A : Nat} {S : Nat → Prop} {W W' : World} (hA : A < W.heap.size) (h : Below W.heap.size W W') : KpOS A S W W' :=
  ⟨h.size, fun k o hk _ _ _ _ => h.block k (lt_of_heap hk), fun k _ e => by rwa [ownOf_same (h.block A hA)] at e, fun k cs t fr hk _ _ _ => h.block k (lt_of_heap hk)⟩
/-- Blocks of S alone have changed. -/
theorem KpOS.chg {A : Nat} {S : Nat → Prop} {W W' : World} (h : Chg S W W') (hA : A < W.heap.size) (hSA : ¬ S A) : KpOS A S W W' :=
  ⟨h.size, fun k o hk _ _ hn _ => h.block k (lt_of_heap hk) hn, fun k _ e => by rwa [ownOf_same (h.block A hA hSA)] at e, fun k cs t fr hk _ _ hn => h.block k (lt_of_heap hk) hn⟩
theorem KpOS.putObj {A : Nat} {S : Nat → Prop} {W : World} {l : Nat} {o : Obj} (o' : Obj) (h : W.heap[l]? = some o) (hc : o.isCells = false) (hA : l ≠ A) : KpOS A S W (W.putObj l o') :=
  ⟨by simp, fun k q hk hq _ _ _ => World.putObj_heap_other (fun e => by subst e; rw [h] at hk; cases hk; rw [hc] at hq; cases hq),
   fun k _ e => by rwa [ownOf_same (World.putObj_heap_other (fun e => hA e.symm))] at e,
   fun k cs t fr hk _ _ _ => World.putObj_heap_other (fun e => by subst e; rw [h] at hk; cases hk; cases hc)⟩
theorem KpO.putObj {A : Nat} {W : World} {l : Nat} {o : Obj} (o' : Obj) (h : W.heap[l]? = some o) (hc : o.isCells = false) (hA : l ≠ A) : KpO A W (W.putObj l o') := KpOS.putObj o' h hc hA
theorem KpOS.mono {A : Nat} {S T : Nat → Prop} {W W' : World} (h : KpOS A S W W') (hs : ∀ k, S k → T k) : KpOS A T W W' :=
  ⟨h.size, fun k o hk hc hA hn ho => h.keep k o hk hc hA (fun e => hn (hs k e)) ho, h.own, fun k cs t fr hk ht hA hn => h.typ k cs t fr hk ht hA (fun e => hn (hs k e))⟩
/-- What such a body does not reach: all but block A and the list's own block. -/
theorem fen_OS (A : Nat) (S : Nat → Prop) : Fen (KpOS A S) (fun r X => A < X.heap.size ∧ r ≠ A ∧ ¬ S r ∧ ownOf A X ≠ some r) :=
  ⟨fun h => h.size, fun {X Y r} h hr hk => ⟨⟨Nat.lt_of_lt_of_le h.1 hk.size, h.2.1, h.2.2.1, fun e => h.2.2.2 (hk.own r hr e)⟩, fun o ho hc => (hk.keep r o ho hc h.2.1 h.2.2.1 h.2.2.2).trans ho⟩,
   fun {X Y r} h hb => ⟨Nat.lt_of_lt_of_le h.1 hb.size, h.2.1, h.2.2.1, by rw [ownOf_same (hb.block A h.1)]; exact h.2.2.2⟩⟩
theorem fen_O (A : Nat) : Fen (KpO A) (fun r X => A < X.heap.size ∧ r ≠ A ∧ ¬ False ∧ ownOf A X ≠ some r) := fen_OS A (fun _ => False)
/-- As Fen; and whatever holds no items, and lies at or beyond E, is kept. -/
structure FenA (E : Nat) (K : World → World → Prop) (Rk : Nat → World → Prop) : Prop where
  fen : Fen K Rk
  late : ∀ {X Y : World} {k : Nat} {cs : Array Value} {t : TypeId} {fr : Nat × Nat}, E ≤ k → X.heap[k]? = some (.cells cs t fr) → t ≠ 34 → K X Y → Y.heap[k]? = X.heap[k]?
theorem fenA_S {E : Nat} {S : Nat → Prop} (hS : ∀ k, S k → k < E) : FenA E (KpS S) (fun r _ => ¬ S r) :=
  ⟨fen_S S, fun he hk _ h => h.2 _ _ hk rfl fun hs => by have := hS _ hs; omega⟩
theorem fenA_OS {E A : Nat} {S : Nat → Prop} (hA : A < E) (hS : ∀ k, S k → k < E) : FenA E (KpOS A S) (fun r X => A < X.heap.size ∧ r ≠ A ∧ ¬ S r ∧ ownOf A X ≠ some r) :=
  ⟨fen_OS A S, fun he hk ht h => h.typ _ _ _ _ hk ht (by omega) fun hs => by have := hS _ hs; omega⟩
/-- At the start: the list in block A is nil, or lies in a block that was there. -/
theorem fresh_OS {A : Nat} {S : Nat → Prop} {w : World} (hA : A < w.heap.size) (hS : ∀ k, S k → k < w.heap.size) (ho : ∀ r, ownOf A w = some r → r < w.heap.size) (W : World) (r : Nat) (hb : Below w.heap.size w W) (hr : W.heap.size ≤ r) : A < W.heap.size ∧ r ≠ A ∧ ¬ S r ∧ ownOf A W ≠ some r := by
  have := hb.size
  refine ⟨by omega, by omega, fun e => ?_, fun e => ?_⟩
  · have := hS r e; omega
  · rw [ownOf_same (hb.block A hA)] at e
    have := ho r e
    omega
theorem fresh_O {A : Nat} {w : World} (hA : A < w.heap.size) (ho : ∀ r, ownOf A w = some r → r < w.heap.size) (W : World) (r : Nat) (hb : Below w.heap.size w W) (hr : W.heap.size ≤ r) : A < W.heap.size ∧ r ≠ A ∧ ¬ False ∧ ownOf A W ≠ some r :=
  fresh_OS (S := fun _ => False) hA (fun _ h => h.elim) ho W r hb hr
end Go.Proofs.Ythknenhcnpgkcaa
