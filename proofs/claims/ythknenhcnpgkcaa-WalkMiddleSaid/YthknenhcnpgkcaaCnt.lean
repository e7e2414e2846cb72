import Derived.Test.YthknenhcnpgkcaaRun
/- What a call changes, and whose block is whose: by counts. -/
namespace Go.Proofs.Ythknenhcnpgkcaa
set_option linter.unusedVariables false
set_option linter.unusedSimpArgs false
open Go.RowKit
/-- From w to w' the blocks of S may have changed, and blocks came; no others. -/
structure Chg (S : Nat → Prop) (w w' : World) : Prop where
  os : w'.os = w.os
  tape : w'.tape = w.tape
  output : w'.output = w.output
  size : w.heap.size ≤ w'.heap.size
  block : ∀ k, k < w.heap.size → ¬ S k → w'.heap[k]? = w.heap[k]?
theorem Chg.refl (S : Nat → Prop) (w : World) : Chg S w w := ⟨rfl, rfl, rfl, Nat.le_refl _, fun _ _ _ => rfl⟩
theorem Chg.trans {S T : Nat → Prop} {a b c : World} (h : Chg S a b) (k : Chg T b c) (hs : ∀ i, i < a.heap.size → T i → S i) : Chg S a c :=
  ⟨k.os.trans h.os, k.tape.trans h.tape, k.output.trans h.output, Nat.le_trans h.size k.size, fun i hi hn => (k.block i (Nat.lt_of_lt_of_le hi h.size) (fun ht => hn (hs i hi ht))).trans (h.block i hi hn)⟩
theorem Chg.mono {S T : Nat → Prop} {a b : World} (h : Chg S a b) (hs : ∀ i, i < a.heap.size → S i → T i) : Chg T a b := ⟨h.os, h.tape, h.output, h.size, fun i hi hn => h.block i hi (fun hS => hn (hs i hi hS))⟩
theorem Chg.of_below {S : Nat → Prop} {a b : World} (h : Below a.heap.size a b) : Chg S a b := ⟨h.os, h.tape, h.output, h.size, fun i hi _ => h.block i hi⟩
theorem Chg.below {S : Nat → Prop} {a b : World} {B : Nat} (h : Chg S a b) (hB : B ≤ a.heap.size) (hs : ∀ i, S i → B ≤ i) : Below B a b := ⟨h.os, h.tape, h.output, h.size, fun i hi => h.block i (by omega) (fun hS => by have := hs i hS; omega)⟩
theorem Chg.of_grown {r : Option Nat} {a b : World} (h : a.grownBy b r) : Chg (fun k => r = some k) a b := ⟨h.os, h.tape, h.output, h.size, fun i hi hn => h.block i hi (fun e => hn e.symm)⟩
theorem Chg.put {S : Nat → Prop} {a b : World} (h : Chg S a b) {g : Nat} (hg : g < a.heap.size → S g) (o : Obj) : Chg S a (put b g o) :=
  ⟨h.os, h.tape, h.output, by rw [size_put]; exact h.size, fun i hi hn => by
    rw [heap_put_other _ _ _ _ (fun e => hn (by subst e; exact hg hi))]; exact h.block i hi hn⟩
theorem Chg.drew {S : Nat → Prop} {a b : World} (h : Chg S a b) : Chg S a b.drew := ⟨h.os, h.tape, h.output, h.size, h.block⟩
theorem Chg.alloc {S : Nat → Prop} {a b : World} (h : Chg S a b) (o : Obj) : Chg S a (b.alloc o) :=
  h.trans (T := S) (Chg.of_below ((Below.refl _ _).alloc (Nat.le_refl _) _)) (fun _ _ h => h)
abbrev Cnt := Nat → Nat
def one (p : Nat) : Cnt := fun k => if k = p then 1 else 0
def blk (v : Value) : Cnt := fun k => if v.ownBlock = some k then 1 else 0
theorem one_le (p k : Nat) : one p k ≤ 1 := by unfold one; split <;> omega
theorem blk_le (v : Value) (k : Nat) : blk v k ≤ 1 := by unfold blk; split <;> omega
@[simp] theorem one_self (p : Nat) : one p p = 1 := by simp [one]
theorem one_ne {p k : Nat} (h : one p k ≠ 0) : k = p := by unfold one at h; split at h <;> simp_all
theorem one_zero {p k : Nat} (h : one p k = 0) : k ≠ p := by unfold one at h; split at h <;> simp_all
theorem blk_ne {v : Value} {k : Nat} (h : blk v k ≠ 0) : v.ownBlock = some k := by unfold blk at h; split at h <;> simp_all
theorem blk_zero {v : Value} {k : Nat} (h : blk v k = 0) : v.ownBlock ≠ some k := by unfold blk at h; split at h <;> simp_all
@[simp] theorem blk_nil (n c k : Nat) : blk (.slice none n c) k = 0 := by simp [blk, Value.ownBlock]
@[simp] theorem blk_at (r o n c k : Nat) (s : Option Nat) : blk (.slice (some ⟨r, o, none⟩) n c) k = one r k := by
  unfold blk one; simp [Value.ownBlock, eq_comm]
/-- A row of the program's own, wherever it lies. -/
abbrev Row (W : World) (e : TypeId) (size : Nat) (v : Value) (n : Nat) (xs : List Value) : Prop := W.ownsRow 0 e size v n xs
theorem Row.lt {W : World} {e : TypeId} {size : Nat} {v : Value} {n : Nat} {xs : List Value} (h : Row W e size v n xs) {k : Nat} (hk : blk v k ≠ 0) : k < W.heap.size := (World.ownsRow.lt h k (blk_ne hk)).2
theorem Row.keep {W W' : World} {e : TypeId} {size : Nat} {v : Value} {n : Nat} {xs : List Value} (h : Row W e size v n xs) (hh : ∀ k, blk v k ≠ 0 → W'.heap[k]? = W.heap[k]?) : Row W' e size v n xs :=
  owns_heap h fun k hk => hh k (by unfold blk; rw [if_pos hk]; omega)
theorem Row.chg {W W' : World} {e : TypeId} {size : Nat} {v : Value} {n : Nat} {xs : List Value} (h : Row W e size v n xs) {S : Nat → Prop} (hc : Chg S W W') (hs : ∀ k, blk v k ≠ 0 → ¬ S k) : Row W' e size v n xs :=
  h.keep fun k hk => hc.block k (h.lt hk) (hs k hk)
/-- From a footprint c in w to c' in w': only c's blocks have changed; c' has c's blocks, and new ones, each once. -/
structure Upd (w w' : World) (c c' : Cnt) : Prop where
  chg : Chg (fun k => c k ≠ 0) w w'
  le : ∀ k, c' k ≤ 1
  old : ∀ k, k < w.heap.size → c' k ≤ c k
theorem Upd.trans {a b d : World} {c c' c2 : Cnt} (h : Upd a b c c') (k : Upd b d c' c2) : Upd a d c c2 :=
  ⟨h.chg.trans k.chg (fun i hi hn => by have := h.old i hi; omega), k.le, fun i hi => Nat.le_trans (k.old i (Nat.lt_of_lt_of_le hi h.chg.size)) (h.old i hi)⟩
end Go.Proofs.Ythknenhcnpgkcaa
