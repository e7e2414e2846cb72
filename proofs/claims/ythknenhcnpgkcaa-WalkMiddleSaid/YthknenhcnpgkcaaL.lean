import Derived.Test.YthknenhcnpgkcaaProg
import Derived.WalkKit
import Derived.WalkSpells
import Derived.WalkLawsBesides
import Derived.Deep.QuietTactic
import Derived.BigQuiet
import Derived.StillTailTactics

namespace Go.Proofs.Ythknenhcnpgkcaa
open Go.RowKit
theorem hid {p : Prop} (h : p) : Hid p := h
/-- A later world: all that lay in w lies as it lay. -/
structure Fut (w : World) where
  val : World
  below : Below w.heap.size w val
instance (w : World) : Nonempty (Fut w) := ⟨⟨w, Below.refl _ _⟩⟩
def Fut.n {w : World} (u : Fut w) : Nat := u.val.heap.size - w.heap.size
@[go_sem] theorem Fut.size {w : World} (u : Fut w) : u.val.heap.size = w.heap.size + u.n := by
  have := u.below.size; unfold Fut.n; omega
@[go_sem] theorem Fut.cell {w : World} (u : Fut w) (b o : Nat) (h : b < w.heap.size) : u.val.cell? ⟨b, o, none⟩ = w.cell? ⟨b, o, none⟩ := u.below.cell (p := ⟨b, o, none⟩) h
@[go_sem] theorem Fut.frozen {w : World} (u : Fut w) (b o : Nat) (h : b < w.heap.size) : u.val.frozen? ⟨b, o, none⟩ = w.frozen? ⟨b, o, none⟩ := u.below.frozen (p := ⟨b, o, none⟩) h
theorem isSome_setCell (w : World) (a : Addr) (v : Value) : (w.setCell a v).cell? a = (w.cell? a).map (fun _ => v) := by
  cases h : w.cell? a with
  | some x => exact World.cell?_setCell_same _ _ _ h
  | none =>
    unfold World.cell? at h
    simp only [World.setCell, World.cell?, Array.getElem?_modify, ↓reduceIte, Option.map_none]
    cases hb : w.heap[a.block]? with
    | none => simp
    | some x =>
      cases x <;> simp_all
@[go_sem high] theorem cell_set (w : World) (b o b' o' : Nat) (v : Value) : (w.setCell ⟨b, o, none⟩ v).cell? ⟨b', o', none⟩ =
    if (⟨b, o, none⟩ : Addr) = ⟨b', o', none⟩ then (w.cell? ⟨b', o', none⟩).map (fun _ => v) else w.cell? ⟨b', o', none⟩ := by
  split
  · rename_i h; rw [h]; exact isSome_setCell _ _ _
  · rename_i h; exact World.cell?_setCell_other _ _ _ _ h
@[go_sem] theorem lt_tail0 (a : Nat) : (a < a + 1) = True := by simp only [eq_iff_iff, iff_true]; omega
@[go_sem] theorem lt_tail1 (a n0 : Nat) : (a < a + 1 + n0) = True := by simp only [eq_iff_iff, iff_true]; omega
@[go_sem] theorem lt_tail2 (a n0 n1 : Nat) : (a < a + 1 + n0 + n1) = True := by simp only [eq_iff_iff, iff_true]; omega
@[go_sem] theorem lt_tail3 (a n0 n1 n2 : Nat) : (a < a + 1 + n0 + n1 + n2) = True := by simp only [eq_iff_iff, iff_true]; omega
@[go_sem] theorem lt_tail4 (a n0 n1 n2 n3 : Nat) : (a < a + 1 + n0 + n1 + n2 + n3) = True := by simp only [eq_iff_iff, iff_true]; omega
@[go_sem] theorem lt_tail5 (a n0 n1 n2 n3 n4 : Nat) : (a < a + 1 + n0 + n1 + n2 + n3 + n4) = True := by simp only [eq_iff_iff, iff_true]; omega
@[go_sem] theorem lt_tail6 (a n0 n1 n2 n3 n4 n5 : Nat) : (a < a + 1 + n0 + n1 + n2 + n3 + n4 + n5) = True := by simp only [eq_iff_iff, iff_true]; omega
@[go_sem] theorem lt_tail7 (a n0 n1 n2 n3 n4 n5 n6 : Nat) : (a < a + 1 + n0 + n1 + n2 + n3 + n4 + n5 + n6) = True := by simp only [eq_iff_iff, iff_true]; omega
@[go_sem] theorem lt_tail8 (a n0 n1 n2 n3 n4 n5 n6 n7 : Nat) : (a < a + 1 + n0 + n1 + n2 + n3 + n4 + n5 + n6 + n7) = True := by simp only [eq_iff_iff, iff_true]; omega
@[go_sem] theorem lt_tail9 (a n0 n1 n2 n3 n4 n5 n6 n7 n8 : Nat) : (a < a + 1 + n0 + n1 + n2 + n3 + n4 + n5 + n6 + n7 + n8) = True := by simp only [eq_iff_iff, iff_true]; omega
@[go_sem] theorem lt_tail10 (a n0 n1 n2 n3 n4 n5 n6 n7 n8 n9 : Nat) : (a < a + 1 + n0 + n1 + n2 + n3 + n4 + n5 + n6 + n7 + n8 + n9) = True := by simp only [eq_iff_iff, iff_true]; omega
@[go_sem] theorem lt_tail11 (a n0 n1 n2 n3 n4 n5 n6 n7 n8 n9 n10 : Nat) : (a < a + 1 + n0 + n1 + n2 + n3 + n4 + n5 + n6 + n7 + n8 + n9 + n10) = True := by simp only [eq_iff_iff, iff_true]; omega
@[go_sem] theorem lt_tail12 (a n0 n1 n2 n3 n4 n5 n6 n7 n8 n9 n10 n11 : Nat) : (a < a + 1 + n0 + n1 + n2 + n3 + n4 + n5 + n6 + n7 + n8 + n9 + n10 + n11) = True := by simp only [eq_iff_iff, iff_true]; omega
@[go_sem] theorem lt_tail13 (a n0 n1 n2 n3 n4 n5 n6 n7 n8 n9 n10 n11 n12 : Nat) : (a < a + 1 + n0 + n1 + n2 + n3 + n4 + n5 + n6 + n7 + n8 + n9 + n10 + n11 + n12) = True := by simp only [eq_iff_iff, iff_true]; omega
@[go_sem] theorem lt_tail14 (a n0 n1 n2 n3 n4 n5 n6 n7 n8 n9 n10 n11 n12 n13 : Nat) : (a < a + 1 + n0 + n1 + n2 + n3 + n4 + n5 + n6 + n7 + n8 + n9 + n10 + n11 + n12 + n13) = True := by simp only [eq_iff_iff, iff_true]; omega
@[go_sem] theorem lt_base1 (a s n0 : Nat) (h : a < s) : (a < s + n0) = True := by simp only [eq_iff_iff, iff_true]; omega
@[go_sem] theorem lt_base2 (a s n0 n1 : Nat) (h : a < s) : (a < s + n0 + n1) = True := by simp only [eq_iff_iff, iff_true]; omega
@[go_sem] theorem lt_base3 (a s n0 n1 n2 : Nat) (h : a < s) : (a < s + n0 + n1 + n2) = True := by simp only [eq_iff_iff, iff_true]; omega
@[go_sem] theorem lt_base4 (a s n0 n1 n2 n3 : Nat) (h : a < s) : (a < s + n0 + n1 + n2 + n3) = True := by simp only [eq_iff_iff, iff_true]; omega
@[go_sem] theorem lt_base5 (a s n0 n1 n2 n3 n4 : Nat) (h : a < s) : (a < s + n0 + n1 + n2 + n3 + n4) = True := by simp only [eq_iff_iff, iff_true]; omega
@[go_sem] theorem lt_base6 (a s n0 n1 n2 n3 n4 n5 : Nat) (h : a < s) : (a < s + n0 + n1 + n2 + n3 + n4 + n5) = True := by simp only [eq_iff_iff, iff_true]; omega
@[go_sem] theorem lt_base7 (a s n0 n1 n2 n3 n4 n5 n6 : Nat) (h : a < s) : (a < s + n0 + n1 + n2 + n3 + n4 + n5 + n6) = True := by simp only [eq_iff_iff, iff_true]; omega
@[go_sem] theorem lt_base8 (a s n0 n1 n2 n3 n4 n5 n6 n7 : Nat) (h : a < s) : (a < s + n0 + n1 + n2 + n3 + n4 + n5 + n6 + n7) = True := by simp only [eq_iff_iff, iff_true]; omega
@[go_sem] theorem lt_base9 (a s n0 n1 n2 n3 n4 n5 n6 n7 n8 : Nat) (h : a < s) : (a < s + n0 + n1 + n2 + n3 + n4 + n5 + n6 + n7 + n8) = True := by simp only [eq_iff_iff, iff_true]; omega
@[go_sem] theorem lt_base10 (a s n0 n1 n2 n3 n4 n5 n6 n7 n8 n9 : Nat) (h : a < s) : (a < s + n0 + n1 + n2 + n3 + n4 + n5 + n6 + n7 + n8 + n9) = True := by simp only [eq_iff_iff, iff_true]; omega
@[go_sem] theorem lt_base11 (a s n0 n1 n2 n3 n4 n5 n6 n7 n8 n9 n10 : Nat) (h : a < s) : (a < s + n0 + n1 + n2 + n3 + n4 + n5 + n6 + n7 + n8 + n9 + n10) = True := by simp only [eq_iff_iff, iff_true]; omega
@[go_sem] theorem lt_base12 (a s n0 n1 n2 n3 n4 n5 n6 n7 n8 n9 n10 n11 : Nat) (h : a < s) : (a < s + n0 + n1 + n2 + n3 + n4 + n5 + n6 + n7 + n8 + n9 + n10 + n11) = True := by simp only [eq_iff_iff, iff_true]; omega
theorem Fut.heap {w : World} (u : Fut w) (b : Nat) (h : b < w.heap.size) : u.val.heap[b]? = w.heap[b]? := u.below.block b h
theorem Below.fut {B : Nat} {a w : World} (h : Below B a w) (hB : B ≤ w.heap.size) (u : Fut w) : Below B a u.val := h.trans (u.below.mono hB)
/-- What a call that only makes new memory says. -/
def Makes (v : Value) (w : World) (e : Ending) (w' : World) : Prop := e = .returned v ∧ ∃ u : Fut w, w' = u.val
theorem Makes.mk {v : Value} {w w' : World} {e : Ending} (he : e = .returned v) (h : Below w.heap.size w w') : Makes v w e w' := ⟨he, ⟨w', h⟩, rfl⟩
theorem Calls.fut_of {P : Program} {f : FuncId} {args : Array Value} {w : World} {u : Fut w} {v : Value}
    (h : Calls P f args u.val (Makes v u.val)) : Calls P f args u.val fun e w'' => e = .returned v ∧ ∃ u : Fut w, w'' = u.val :=
  h.mono fun _ _ ⟨he, u', hu⟩ => ⟨he, ⟨_, Below.fut u.below u.below.size u'⟩, hu⟩
theorem wp_region_fut_lit {P : Program} {id : Nat} {Q : Exit → Act → World → Prop} {a : Act} {w : World} {l : List Oper} (hm : P.follows .mixedOrders = true) (hB : Region.lexB .any l.toArray = true)
    (h : wpQuiet P l.toArray (fun w' => ∃ u : Fut w, w' = u.val) (fun a' => ∀ w', (∃ u : Fut w, w' = u.val) → Q .normal a' w') l a) : (Code.region id l.toArray true).wp P Q a w :=
  wp_region_quiet (C := fun w' => ∃ u : Fut w, w' = u.val) hm hB ⟨⟨_, (Below.refl _ _).drew⟩, rfl⟩ (by simpa using h)
theorem rounds_step {P : Program} {c : Code} {Q : Exit → Act → World → Prop} {n : Nat} {a : Act} {w : World} (h : c.wp P (Exit.then (Code.rounds P c Q n) Q) a w) : Code.rounds P c Q (n + 1) a w := h
end Go.Proofs.Ythknenhcnpgkcaa
