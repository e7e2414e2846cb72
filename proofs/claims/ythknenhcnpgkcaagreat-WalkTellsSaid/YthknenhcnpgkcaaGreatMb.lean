/- Texts of this proof, merged: L, Put, St, Run, Cnt, Key, Keyb, LessP, Ord, Flat, Same. -/
import Derived.Test.YthknenhcnpgkcaaGreatProg
import Derived.WalkKit
import Derived.WalkSpells
import Derived.WalkLawsBesides
import Derived.Deep.QuietTactic
import Derived.BigQuiet
import Derived.StillTailTactics
import Derived.Deep.AppendLies
import Derived.Deep.RegionLaw
import Derived.Lib.AppendZeros
import Derived.Lib.Overlaps
import Derived.Deep.RegionWith

namespace Go.Proofs.YthknenhcnpgkcaaGreat
open Go.RowKit
theorem hid {p : Prop} (h : p) : Hid p := h
/-- A later world: all that lay in w lies as it lay. -/
structure Fut (w : World) where
  val : World
  below : Below w.heap.size w val
instance (w : World) : Nonempty (Fut w) := ⟨⟨w, Below.refl _ _⟩⟩
def Fut.n {w : World} (u : Fut w) : Nat := u.val.heap.size - w.heap.size
@[go_sem] theorem Fut.size {w : World} (u : Fut w) : u.val.heap.size = w.heap.size + u.n := by
  have := u.below.size; unfold Fut.n; omega
@[go_sem] theorem Fut.cell {w : World} (u : Fut w) (b o : Nat) (h : b < w.heap.size) : u.val.cell? ⟨b, o, none⟩ = w.cell? ⟨b, o, none⟩ := u.below.cell (p := ⟨b, o, none⟩) h
@[go_sem] theorem Fut.frozen {w : World} (u : Fut w) (b o : Nat) (h : b < w.heap.size) : u.val.frozen? ⟨b, o, none⟩ = w.frozen? ⟨b, o, none⟩ := u.below.frozen (p := ⟨b, o, none⟩) h
theorem isSome_setCell (w : World) (a : Addr) (v : Value) : (w.setCell a v).cell? a = (w.cell? a).map (fun _ => v) := by
  cases h : w.cell? a with
  | some x => exact World.cell?_setCell_same _ _ _ h
  | none =>
    unfold World.cell? at h
    simp only [World.setCell, World.cell?, Array.getElem?_modify, ↓reduceIte, Option.map_none]
    cases hb : w.heap[a.block]? with
    | none => simp
    | some x =>
      cases x <;> simp_all
@[go_sem high] theorem cell_set (w : World) (b o b' o' : Nat) (v : Value) : (w.setCell ⟨b, o, none⟩ v).cell? ⟨b', o', none⟩ =
    if (⟨b, o, none⟩ : Addr) = ⟨b', o', none⟩ then (w.cell? ⟨b', o', none⟩).map (fun _ => v) else w.cell? ⟨b', o', none⟩ := by
  split
  · rename_i h; rw [h]; exact isSome_setCell _ _ _
  · rename_i h; exact World.cell?_setCell_other _ _ _ _ h
@[go_sem] theorem lt_tail0 (a : Nat) : (a < a + 1) = True := by simp only [eq_iff_iff, iff_true]; omega
@[go_sem] theorem lt_tail1 (a n0 : Nat) : (a < a + 1 + n0) = True := by simp only [eq_iff_iff, iff_true]; omega
@[go_sem] theorem lt_tail2 (a n0 n1 : Nat) : (a < a + 1 + n0 + n1) = True := by simp only [eq_iff_iff, iff_true]; omega
@[go_sem] theorem lt_tail3 (a n0 n1 n2 : Nat) : (a < a + 1 + n0 + n1 + n2) = True := by simp only [eq_iff_iff, iff_true]; omega
@[go_sem] theorem lt_tail4 (a n0 n1 n2 n3 : Nat) : (a < a + 1 + n0 + n1 + n2 + n3) = True := by simp only [eq_iff_iff, iff_true]; omega
@[go_sem] theorem lt_tail5 (a n0 n1 n2 n3 n4 : Nat) : (a < a + 1 + n0 + n1 + n2 + n3 + n4) = True := by simp only [eq_iff_iff, iff_true]; omega
@[go_sem] theorem lt_tail6 (a n0 n1 n2 n3 n4 n5 : Nat) : (a < a + 1 + n0 + n1 + n2 + n3 + n4 + n5) = True := by simp only [eq_iff_iff, iff_true]; omega
@[go_sem] theorem lt_tail7 (a n0 n1 n2 n3 n4 n5 n6 : Nat) : (a < a + 1 + n0 + n1 + n2 + n3 + n4 + n5 + n6) = True := by simp only [eq_iff_iff, iff_true]; omega
@[go_sem] theorem lt_tail8 (a n0 n1 n2 n3 n4 n5 n6 n7 : Nat) : (a < a + 1 + n0 + n1 + n2 + n3 + n4 + n5 + n6 + n7) = True := by simp only [eq_iff_iff, iff_true]; omega
@[go_sem] theorem lt_tail9 (a n0 n1 n2 n3 n4 n5 n6 n7 n8 : Nat) : (a < a + 1 + n0 + n1 + n2 + n3 + n4 + n5 + n6 + n7 + n8) = True := by simp only [eq_iff_iff, iff_true]; omega
@[go_sem] theorem lt_tail10 (a n0 n1 n2 n3 n4 n5 n6 n7 n8 n9 : Nat) : (a < a + 1 + n0 + n1 + n2 + n3 + n4 + n5 + n6 + n7 + n8 + n9) = True := by simp only [eq_iff_iff, iff_true]; omega
@[go_sem] theorem lt_tail11 (a n0 n1 n2 n3 n4 n5 n6 n7 n8 n9 n10 : Nat) : (a < a + 1 + n0 + n1 + n2 + n3 + n4 + n5 + n6 + n7 + n8 + n9 + n10) = True := by simp only [eq_iff_iff, iff_true]; omega
@[go_sem] theorem lt_tail12 (a n0 n1 n2 n3 n4 n5 n6 n7 n8 n9 n10 n11 : Nat) : (a < a + 1 + n0 + n1 + n2 + n3 + n4 + n5 + n6 + n7 + n8 + n9 + n10 + n11) = True := by simp only [eq_iff_iff, iff_true]; omega
@[go_sem] theorem lt_tail13 (a n0 n1 n2 n3 n4 n5 n6 n7 n8 n9 n10 n11 n12 : Nat) : (a < a + 1 + n0 + n1 + n2 + n3 + n4 + n5 + n6 + n7 + n8 + n9 + n10 + n11 + n12) = True := by simp only [eq_iff_iff, iff_true]; omega
@[go_sem] theorem lt_tail14 (a n0 n1 n2 n3 n4 n5 n6 n7 n8 n9 n10 n11 n12 n13 : Nat) : (a < a + 1 + n0 + n1 + n2 + n3 + n4 + n5 + n6 + n7 + n8 + n9 + n10 + n11 + n12 + n13) = True := by simp only [eq_iff_iff, iff_true]; omega
@[go_sem] theorem lt_base1 (a s n0 : Nat) (h : a < s) : (a < s + n0) = True := by simp only [eq_iff_iff, iff_true]; omega
@[go_sem] theorem lt_base2 (a s n0 n1 : Nat) (h : a < s) : (a < s + n0 + n1) = True := by simp only [eq_iff_iff, iff_true]; omega
@[go_sem] theorem lt_base3 (a s n0 n1 n2 : Nat) (h : a < s) : (a < s + n0 + n1 + n2) = True := by simp only [eq_iff_iff, iff_true]; omega
@[go_sem] theorem lt_base4 (a s n0 n1 n2 n3 : Nat) (h : a < s) : (a < s + n0 + n1 + n2 + n3) = True := by simp only [eq_iff_iff, iff_true]; omega
@[go_sem] theorem lt_base5 (a s n0 n1 n2 n3 n4 : Nat) (h : a < s) : (a < s + n0 + n1 + n2 + n3 + n4) = True := by simp only [eq_iff_iff, iff_true]; omega
@[go_sem] theorem lt_base6 (a s n0 n1 n2 n3 n4 n5 : Nat) (h : a < s) : (a < s + n0 + n1 + n2 + n3 + n4 + n5) = True := by simp only [eq_iff_iff, iff_true]; omega
@[go_sem] theorem lt_base7 (a s n0 n1 n2 n3 n4 n5 n6 : Nat) (h : a < s) : (a < s + n0 + n1 + n2 + n3 + n4 + n5 + n6) = True := by simp only [eq_iff_iff, iff_true]; omega
@[go_sem] theorem lt_base8 (a s n0 n1 n2 n3 n4 n5 n6 n7 : Nat) (h : a < s) : (a < s + n0 + n1 + n2 + n3 + n4 + n5 + n6 + n7) = True := by simp only [eq_iff_iff, iff_true]; omega
@[go_sem] theorem lt_base9 (a s n0 n1 n2 n3 n4 n5 n6 n7 n8 : Nat) (h : a < s) : (a < s + n0 + n1 + n2 + n3 + n4 + n5 + n6 + n7 + n8) = True := by simp only [eq_iff_iff, iff_true]; omega
@[go_sem] theorem lt_base10 (a s n0 n1 n2 n3 n4 n5 n6 n7 n8 n9 : Nat) (h : a < s) : (a < s + n0 + n1 + n2 + n3 + n4 + n5 + n6 + n7 + n8 + n9) = True := by simp only [eq_iff_iff, iff_true]; omega
@[go_sem] theorem lt_base11 (a s n0 n1 n2 n3 n4 n5 n6 n7 n8 n9 n10 : Nat) (h : a < s) : (a < s + n0 + n1 + n2 + n3 + n4 + n5 + n6 + n7 + n8 + n9 + n10) = True := by simp only [eq_iff_iff, iff_true]; omega
@[go_sem] theorem lt_base12 (a s n0 n1 n2 n3 n4 n5 n6 n7 n8 n9 n10 n11 : Nat) (h : a < s) : (a < s + n0 + n1 + n2 + n3 + n4 + n5 + n6 + n7 + n8 + n9 + n10 + n11) = True := by simp only [eq_iff_iff, iff_true]; omega
theorem Fut.heap {w : World} (u : Fut w) (b : Nat) (h : b < w.heap.size) : u.val.heap[b]? = w.heap[b]? := u.below.block b h
theorem Below.fut {B : Nat} {a w : World} (h : Below B a w) (hB : B ≤ w.heap.size) (u : Fut w) : Below B a u.val := h.trans (u.below.mono hB)
/-- What a call that only makes new memory says. -/
def Makes (v : Value) (w : World) (e : Ending) (w' : World) : Prop := e = .returned v ∧ ∃ u : Fut w, w' = u.val
theorem Makes.mk {v : Value} {w w' : World} {e : Ending} (he : e = .returned v) (h : Below w.heap.size w w') : Makes v w e w' := ⟨he, ⟨w', h⟩, rfl⟩
theorem Calls.fut_of {P : Program} {f : FuncId} {args : Array Value} {w : World} {u : Fut w} {v : Value}
    (h : Calls P f args u.val (Makes v u.val)) : Calls P f args u.val fun e w'' => e = .returned v ∧ ∃ u : Fut w, w'' = u.val :=
  h.mono fun _ _ ⟨he, u', hu⟩ => ⟨he, ⟨_, Below.fut u.below u.below.size u'⟩, hu⟩
theorem wp_region_fut_lit {P : Program} {id : Nat} {Q : Exit → Act → World → Prop} {a : Act} {w : World} {l : List Oper} (hm : P.follows .mixedOrders = true) (hB : Region.lexB .any l.toArray = true)
    (h : wpQuiet P l.toArray (fun w' => ∃ u : Fut w, w' = u.val) (fun a' => ∀ w', (∃ u : Fut w, w' = u.val) → Q .normal a' w') l a) : (Code.region id l.toArray true).wp P Q a w :=
  wp_region_quiet (C := fun w' => ∃ u : Fut w, w' = u.val) hm hB ⟨⟨_, (Below.refl _ _).drew⟩, rfl⟩ (by simpa using h)
theorem rounds_step {P : Program} {c : Code} {Q : Exit → Act → World → Prop} {n : Nat} {a : Act} {w : World} (h : c.wp P (Exit.then (Code.rounds P c Q n) Q) a w) : Code.rounds P c Q (n + 1) a w := h
end Go.Proofs.YthknenhcnpgkcaaGreat

/- A world in which one block holds something else: methods through a pointer. -/
namespace Go.Proofs.YthknenhcnpgkcaaGreat
open Go.RowKit
/-- Block g holds o. -/
def put (w : World) (g : Nat) (o : Obj) : World := { w with heap := w.heap.setIfInBounds g o }
@[go_sem] theorem size_put (w : World) (g : Nat) (o : Obj) : (put w g o).heap.size = w.heap.size := by simp [put]
theorem heap_put_at (w : World) (g : Nat) (o : Obj) (h : g < w.heap.size) : (put w g o).heap[g]? = some o := by simp [put, h]
theorem heap_put_other (w : World) (g k : Nat) (o : Obj) (h : k ≠ g) : (put w g o).heap[k]? = w.heap[k]? := by
  simp only [put]; rw [Array.getElem?_setIfInBounds_ne (by omega)]
theorem put_self {w : World} {g : Nat} {o : Obj} (h : w.heap[g]? = some o) : put w g o = w := by
  unfold put
  have : w.heap.setIfInBounds g o = w.heap := by
    apply Array.ext_getElem?
    intro i
    by_cases e : i = g
    · subst e
      have hl := (Array.getElem?_eq_some_iff.1 h).1
      rw [Array.getElem?_setIfInBounds_self_of_lt hl, h]
    · rw [Array.getElem?_setIfInBounds_ne (by omega)]
  rw [this]
@[go_sem] theorem put_put (w : World) (g : Nat) (o o' : Obj) : put (put w g o) g o' = put w g o' := by
  unfold put; simp
@[go_sem] theorem put_drew (w : World) (g : Nat) (o : Obj) : put w.drew g o = (put w g o).drew := rfl
@[go_sem] theorem cell_put (w : World) (g b i : Nat) (cs : Array Value) (t : TypeId) (fr : Nat × Nat) : (put w g (.cells cs t fr)).cell? ⟨b, i, none⟩ =
    if (⟨b, 0, none⟩ : Addr) = ⟨g, 0, none⟩ then (if g < w.heap.size then cs[i]? else none) else w.cell? ⟨b, i, none⟩ := by
  unfold World.cell?
  by_cases h : (⟨b, 0, none⟩ : Addr) = ⟨g, 0, none⟩
  · rw [if_pos h]
    obtain rfl : b = g := congrArg Addr.block h
    by_cases hl : b < w.heap.size
    · rw [if_pos hl]; dsimp only; rw [heap_put_at _ _ _ hl]; rfl
    · rw [if_neg hl]; dsimp only
      rw [Array.getElem?_eq_none (by rw [size_put]; omega)]
  · rw [if_neg h]
    dsimp only
    rw [heap_put_other _ _ _ _ (fun e => h (by rw [e]))]
@[go_sem] theorem frozen_put (w : World) (g b i : Nat) (cs : Array Value) (t : TypeId) : (put w g (.cells cs t)).frozen? ⟨b, i, none⟩ =
    if (⟨b, 0, none⟩ : Addr) = ⟨g, 0, none⟩ then false else w.frozen? ⟨b, i, none⟩ := by
  unfold World.frozen?
  by_cases h : (⟨b, 0, none⟩ : Addr) = ⟨g, 0, none⟩
  · rw [if_pos h]
    obtain rfl : b = g := congrArg Addr.block h
    by_cases hl : b < w.heap.size
    · dsimp only; rw [heap_put_at _ _ _ hl]; simp
    · dsimp only
      rw [Array.getElem?_eq_none (by rw [size_put]; omega)]
  · rw [if_neg h]
    dsimp only
    rw [heap_put_other _ _ _ _ (fun e => h (by rw [e]))]
@[go_sem high] theorem setCell_put (w : World) (g i : Nat) (cs : Array Value) (t : TypeId) (fr : Nat × Nat) (v : Value) : (put w g (.cells cs t fr)).setCell ⟨g, i, none⟩ v = put w g (.cells (cs.setIfInBounds i v) t fr) := by
  unfold World.setCell put
  congr 1
  apply Array.ext_getElem?
  intro k
  simp only [Array.getElem?_modify]
  by_cases e : k = g
  · subst e
    by_cases hl : k < w.heap.size
    · rw [Array.getElem?_setIfInBounds_self_of_lt hl, Array.getElem?_setIfInBounds_self_of_lt hl]; simp
    · rw [Array.getElem?_eq_none (by simp; omega), Array.getElem?_eq_none (by simp; omega)]; simp
  · rw [if_neg (by omega), Array.getElem?_setIfInBounds_ne (by omega), Array.getElem?_setIfInBounds_ne (by omega)]
theorem Below.atPut {B : Nat} {a w : World} (h : Below B a w) {g : Nat} (hg : B ≤ g) (o : Obj) : Below B a (put w g o) :=
  h.trans ⟨rfl, rfl, rfl, by rw [size_put]; exact Nat.le_refl _, fun k hk => heap_put_other _ _ _ _ (by omega)⟩
/-- A later world of one in which block g holds o: there block g holds o. -/
theorem Fut.put_self {w : World} {g : Nat} {o : Obj} (u : Fut (put w g o)) (h : g < w.heap.size) : u.val = put u.val g o :=
  (YthknenhcnpgkcaaGreat.put_self (by rw [u.heap g (by rw [size_put]; exact h), heap_put_at _ _ _ h])).symm
/-- What a call that puts o into block g, and else only makes new memory, says. -/
def Puts (v : Value) (w : World) (g : Nat) (o : Obj) (e : Ending) (w' : World) : Prop := e = .returned v ∧ ∃ u : Fut (put w g o), w' = put u.val g o
theorem Puts.mk {v : Value} {w w' : World} {g : Nat} {o : Obj} {e : Ending} (hg : g < w.heap.size) (he : e = .returned v) (h : Below w.heap.size (put w g o) w') : Puts v w g o e w' := by
  have h' : Below (put w g o).heap.size (put w g o) w' := by rw [size_put]; exact h
  exact ⟨he, ⟨⟨w', h'⟩, Fut.put_self ⟨w', h'⟩ hg⟩⟩
/-- Into a world whose block g is put. -/
theorem below_to_put {w w' : World} {g : Nat} {o : Obj} (h : Below w.heap.size w w') : Below w.heap.size (put w g o) (put w' g o) :=
  ⟨h.os, h.tape, h.output, by rw [size_put, size_put]; exact h.size, fun k hk => by
    by_cases e : k = g
    · subst e
      rw [heap_put_at _ _ _ hk, heap_put_at _ _ _ (Nat.lt_of_lt_of_le hk h.size)]
    · rw [heap_put_other _ _ _ _ e, heap_put_other _ _ _ _ e]; exact h.block k hk⟩
@[go_sem] theorem setCell_put_other (w : World) (g b i : Nat) (o : Obj) (v : Value) (h : ((⟨b, 0, none⟩ : Addr) = ⟨g, 0, none⟩) = False) : (put w g o).setCell ⟨b, i, none⟩ v = put (w.setCell ⟨b, i, none⟩ v) g o := by
  have hne : b ≠ g := fun e => by rw [e] at h; exact h.mp rfl
  unfold World.setCell put
  congr 1
  apply Array.ext_getElem?
  intro k
  simp only [Array.getElem?_modify]
  by_cases e : k = b
  · subst e
    rw [if_pos rfl, Array.getElem?_setIfInBounds_ne (by omega), Array.getElem?_setIfInBounds_ne (by omega), Array.getElem?_modify, if_pos rfl]
  · rw [if_neg (by omega)]
    by_cases e' : k = g
    · subst e'
      by_cases hl : k < w.heap.size
      · rw [Array.getElem?_setIfInBounds_self_of_lt hl, Array.getElem?_setIfInBounds_self_of_lt (by simpa using hl)]
      · rw [Array.getElem?_eq_none (by simp; omega), Array.getElem?_eq_none (by simp; omega)]
    · rw [Array.getElem?_setIfInBounds_ne (by omega), Array.getElem?_setIfInBounds_ne (by omega), Array.getElem?_modify, if_neg (by omega)]
/-- Row r of world W holds a slice of n elements of 'size' cells, xs; cur: all its cells. -/
structure RowAt (W : World) (r : Nat) (e : TypeId) (size n cap : Nat) (xs cur : List Value) : Prop where
  heap : W.heap[r]? = some (.cells cur.toArray e)
  le : n ≤ cap
  max : cap ≤ maxLen
  len : cur.length = cap * size
  take : cur.take (n * size) = xs
theorem RowAt.lt {W : World} {r : Nat} {e : TypeId} {size n cap : Nat} {xs cur : List Value} (h : RowAt W r e size n cap xs cur) : r < W.heap.size := (Array.getElem?_eq_some_iff.1 h.heap).1
theorem RowAt.xlen {W : World} {r : Nat} {e : TypeId} {size n cap : Nat} {xs cur : List Value} (h : RowAt W r e size n cap xs cur) : xs.length = n * size := by
  rw [← h.take, List.length_take, h.len]; exact Nat.min_eq_left (Nat.mul_le_mul_right _ h.le)
theorem RowAt.owns {W : World} {r : Nat} {e : TypeId} {size n cap : Nat} {xs cur : List Value} (h : RowAt W r e size n cap xs cur) : W.ownsRow 0 e size (.slice (some ⟨r, 0, none⟩) n cap) n xs :=
  ⟨h.xlen, .inr ⟨r, cap, cur.toArray, rfl, Nat.zero_le _, h.heap, h.le, h.max, by simpa using h.len, by simpa using h.take⟩⟩
/-- A slice of the program's own: nil, or a row. -/
def Own (W : World) (r : Nat) (e : TypeId) (size : Nat) (v : Value) (n : Nat) (xs : List Value) : Prop :=
  (v = .slice none 0 0 ∧ n = 0 ∧ xs = []) ∨ ∃ cap cur, v = .slice (some ⟨r, 0, none⟩) n cap ∧ RowAt W r e size n cap xs cur
theorem append_put {P : Program} (W : World) (t ty e : TypeId) (i : TypeInfo) (z : Value) (size bytes : Nat) (ht : P.underlying t = some (.slice e)) (hi : P.info? e = some i) (hz : i.zero = some z)
    (hsize : i.size = size) (hby : i.bytes = bytes) (hzs : z.cells.size = size) (hsz : 0 < size)
    (r : Nat) (v : Value) (n : Nat) (xs : List Value) (hown : Own W r e size v n xs)
    (a : Addr) (m c : Nat) (news : List Value) (hl : news.length = m * size) (hnews : ∀ j u, news[j]? = some u → W.cell? (a.add j) = some u) (h1 : ∀ u ∈ news, u.oneCell' = true)
    (hm : 0 < m) (h63 : n + m ≤ maxLen) (hbytes : (n + m) * bytes ≤ 140737488355328) (g : Nat) (C : Obj) (hg : W.heap[g]? = some C) (hgr : g ≠ r) :
    ∃ (R0 : Obj) (u : Fut (put W r R0)) (r' cap' : Nat) (cur' : List Value),
      (Builtin.append_ #[t, t] ty #[v, .slice (some a) m c]).run P W = .ok (.slice (some ⟨r', 0, none⟩) (n + m) cap') (put (put u.val g C) r' (.cells cur'.toArray e)) ∧
      RowAt (put (put u.val g C) r' (.cells cur'.toArray e)) r' e size (n + m) cap' (xs ++ news) cur' ∧ r' ≠ g ∧ r' < u.val.heap.size ∧ (r' = r ∨ W.heap.size ≤ r') := by
  have hgl : g < W.heap.size := (Array.getElem?_eq_some_iff.1 hg).1
  have hown' : W.ownsRow 0 e size v n xs := by
    rcases hown with ⟨rfl, rfl, rfl⟩ | ⟨cap, cur, rfl, h⟩
    · exact World.ownsRow_nil W 0 e size
    · exact h.owns
  have hvo : v.ownBlock = none ∨ v.ownBlock = some r := by
    rcases hown with ⟨rfl, rfl, rfl⟩ | ⟨cap, cur, rfl, h⟩
    · exact .inl rfl
    · exact .inr rfl
  obtain ⟨r', cap', w', hrun, ho, hgrow, hwhere, hlt⟩ := run_append_lies (P := P) W t ty 0 e i z size bytes ht hi hz hsize hby hzs hsz v n xs hown' a m c news hl hnews h1 hm h63 hbytes (Nat.zero_le _) W.heap.size rfl
  have hr' : r' = r ∨ W.heap.size ≤ r' := by
    rcases hwhere with h | h
    · rcases hvo with h' | h'
      · rw [h'] at h; cases h
      · rw [h'] at h; left; exact (Option.some.inj h).symm
    · right; omega
  have hne : r' ≠ g := by rcases hr' with h | h <;> omega
  obtain ⟨hxl, hcase⟩ := ho
  rcases hcase with ⟨h, _⟩ | ⟨g1, cap1, cur1, hv, _, hh, hle, hmx, hcs, htk⟩
  · cases h
  obtain ⟨rfl, rfl⟩ : r' = g1 ∧ cap' = cap1 := by
    injection hv with h2 _ h3
    injection h2 with h2
    exact ⟨congrArg Addr.block h2, h3⟩
  have hwg : w'.heap[g]? = some C := by
    rw [hgrow.block g hgl (by rcases hvo with h | h <;> rw [h] <;> simp [hgr])]; exact hg
  have hw : put (put w' g C) r' (.cells cur1.toList.toArray e) = w' := by
    rw [put_self hwg]; exact put_self (by simpa using hh)
  obtain ⟨R0, hR0⟩ : ∃ R0, r < W.heap.size → w'.heap[r]? = some R0 := by
    by_cases h : r < W.heap.size
    · have : r < w'.heap.size := Nat.lt_of_lt_of_le h hgrow.size
      exact ⟨w'.heap[r], fun _ => Array.getElem?_eq_getElem this⟩
    · exact ⟨default, fun h' => absurd h' h⟩
  have hb : Below (put W r R0).heap.size (put W r R0) w' := ⟨hgrow.os, hgrow.tape, hgrow.output, by rw [size_put]; exact hgrow.size, fun k hk => by
    rw [size_put] at hk
    by_cases e' : k = r
    · subst e'; rw [hR0 hk, heap_put_at _ _ _ hk]
    · rw [heap_put_other _ _ _ _ e']
      exact hgrow.block k hk (by rcases hvo with h | h <;> rw [h] <;> simp [e'])⟩
  refine ⟨R0, ⟨w', hb⟩, r', cap', cur1.toList, ?_, ?_, hne, hlt, hr'⟩
  · show _ = Result.ok _ (put (put w' g C) r' (.cells cur1.toList.toArray e))
    rw [hw]; exact hrun
  · show RowAt (put (put w' g C) r' (.cells cur1.toList.toArray e)) r' e size (n + m) cap' (xs ++ news) cur1.toList
    rw [hw]
    exact ⟨by simpa using hh, hle, hmx, by simpa using hcs, htk⟩
/-- What a call that puts o into block g and makes one block L of its own, which it hands back, says. -/
def PutsNew (mkv : Nat → Value) (w : World) (g : Nat) (o L : Obj) (e : Ending) (w' : World) : Prop :=
  ∃ (u : Fut (put w g o)) (u2 : Fut (u.val.alloc L)), e = .returned (mkv u.val.heap.size) ∧ w' = put u2.val g o
theorem PutsNew.mk {mkv : Nat → Value} {w w' : World} (W0 : World) {g b : Nat} {o L : Obj} {e : Ending} (hg : g < w.heap.size) (he : e = .returned (mkv b)) (hb : b = W0.heap.size) (h1 : Below (W0.heap.size + 1) (W0.alloc L) w') (h0 : Below w.heap.size (put w g o) W0) : PutsNew mkv w g o L e w' := by
  have h0' : Below (put w g o).heap.size (put w g o) W0 := by rw [size_put]; exact h0
  have h1' : Below (W0.alloc L).heap.size (W0.alloc L) w' := by rw [World.size_alloc]; exact h1
  have hs := h0.size
  rw [size_put] at hs
  subst hb
  refine ⟨⟨W0, h0'⟩, ⟨w', h1'⟩, he, (put_self ?_).symm⟩
  show w'.heap[g]? = some o
  rw [h1.block g (by omega), Below.heap_alloc _ _ _ (by omega), h0.block g hg, heap_put_at _ _ _ hg]
end Go.Proofs.YthknenhcnpgkcaaGreat

/- An object of the program's own: one block that holds a struct, and a row of its own; as a fact about a world that is not looked into. -/
namespace Go.Proofs.YthknenhcnpgkcaaGreat
open Go.RowKit
@[go_sem] theorem alloc_put (w : World) (g : Nat) (o x : Obj) (h : g < w.heap.size) : (put w g o).alloc x = put (w.alloc x) g o := by
  unfold put World.alloc
  congr 1
  apply Array.ext_getElem?
  intro k
  simp only [Array.getElem?_push, Array.getElem?_setIfInBounds, Array.size_setIfInBounds, Array.size_push]
  by_cases e : g = k
  · subst e; rw [if_neg (by omega), if_pos rfl, if_pos rfl, if_pos h, if_pos (by omega)]
  · rw [if_neg e, if_neg e]
@[go_sem] theorem cell_put_other (w : World) (g b i : Nat) (o : Obj) (h : ((⟨b, 0, none⟩ : Addr) = ⟨g, 0, none⟩) = False) : (put w g o).cell? ⟨b, i, none⟩ = w.cell? ⟨b, i, none⟩ := by
  unfold World.cell?
  dsimp only
  rw [heap_put_other _ _ _ _ (fun e => by rw [e] at h; exact h.mp rfl)]
theorem owns_heap {w w' : World} {base : Nat} {e : TypeId} {size : Nat} {v : Value} {n : Nat} {xs : List Value} (h : w.ownsRow base e size v n xs) (hh : ∀ k, v.ownBlock = some k → w'.heap[k]? = w.heap[k]?) : w'.ownsRow base e size v n xs := by
  refine ⟨h.1, ?_⟩
  rcases h.2 with hn | ⟨g, cap, cur, rfl, hb, hgg, rest⟩
  · exact .inl hn
  · exact .inr ⟨g, cap, cur, rfl, hb, by rw [hh g rfl]; exact hgg, rest⟩
theorem owns_put {w : World} {base : Nat} {e : TypeId} {size : Nat} {v : Value} {n : Nat} {xs : List Value} (h : w.ownsRow base e size v n xs) {g : Nat} (hg : v.ownBlock ≠ some g) (o : Obj) : (put w g o).ownsRow base e size v n xs :=
  owns_heap h fun k hk => heap_put_other _ _ _ _ (fun e => hg (by rw [hk, e]))
theorem owns_below {w w' : World} {base : Nat} {e : TypeId} {size : Nat} {v : Value} {n : Nat} {xs : List Value} (h : w.ownsRow base e size v n xs) (hb : Below w.heap.size w w') : w'.ownsRow base e size v n xs :=
  owns_heap h fun k hk => hb.block k (h.lt k hk).2
/-- A world to begin from, and blocks behind it that stay as they are. -/
structure Base extends World where
  keep : Nat → Option Obj
/-- Block g of world W (made behind w0) holds o, and v is a row of n elements xs of the program's own; the blocks that w0 keeps lie there. -/
structure ObjAt (o : Obj) (e : TypeId) (size : Nat) (w0 : Base) (g : Nat) (n : Nat) (xs : List Value) (W : World) (v : Value) : Prop where
  below : Below w0.heap.size w0.toWorld W
  heap : W.heap[g]? = some o
  owns : W.ownsRow w0.heap.size e size v n xs
  base : w0.heap.size ≤ g
  ne : v.ownBlock ≠ some g
  kept : ∀ k q, w0.keep k = some q → W.heap[k]? = some q ∧ k ≠ g ∧ v.ownBlock ≠ some k
theorem lt_of_heap {W : World} {k : Nat} {q : Obj} (h : W.heap[k]? = some q) : k < W.heap.size := (Array.getElem?_eq_some_iff.1 h).1
theorem ObjAt.lt {o : Obj} {e : TypeId} {size : Nat} {w0 : Base} {g n : Nat} {xs : List Value} {W : World} {v : Value} (h : ObjAt o e size w0 g n xs W v) : g < W.heap.size := (Array.getElem?_eq_some_iff.1 h.heap).1
theorem ObjAt.size {o : Obj} {e : TypeId} {size : Nat} {w0 : Base} {g n : Nat} {xs : List Value} {W : World} {v : Value} (h : ObjAt o e size w0 g n xs W v) : w0.heap.size ≤ W.heap.size := h.below.size
theorem ObjAt.on {o : Obj} {e : TypeId} {size : Nat} {w0 : Base} {g n : Nat} {xs : List Value} {W W' : World} {v : Value} (h : ObjAt o e size w0 g n xs W v) (hb : Below W.heap.size W W') : ObjAt o e size w0 g n xs W' v :=
  ⟨h.below.trans (hb.mono h.size), by rw [hb.block g h.lt]; exact h.heap, owns_below h.owns hb, h.base, h.ne, fun k q hk => ⟨by rw [hb.block k (lt_of_heap (h.kept k q hk).1)]; exact (h.kept k q hk).1, (h.kept k q hk).2⟩⟩
/-- The struct is written. -/
theorem ObjAt.upd {o o' : Obj} {e : TypeId} {size : Nat} {w0 : Base} {g n : Nat} {xs : List Value} {W W' : World} {v : Value} (h : ObjAt o e size w0 g n xs W v) (hb : Below W.heap.size (put W g o') W') : ObjAt o' e size w0 g n xs W' v := by
  have hp : ObjAt o' e size w0 g n xs (put W g o') v := ⟨Below.atPut h.below h.base _, heap_put_at _ _ _ h.lt, owns_put h.owns h.ne _, h.base, h.ne, fun k q hk => ⟨by rw [heap_put_other _ _ _ _ (h.kept k q hk).2.1]; exact (h.kept k q hk).1, (h.kept k q hk).2⟩⟩
  exact hp.on (by rw [size_put]; exact hb)
theorem ObjAt.fut_put {o o' : Obj} {e : TypeId} {size : Nat} {w0 : Base} {g n : Nat} {xs : List Value} {W : World} {v : Value} (h : ObjAt o e size w0 g n xs (put W g o) v) (u : Fut (put W g o)) : ObjAt o' e size w0 g n xs (put u.val g o') v :=
  (h.on u.below).upd (Below.refl _ _)
theorem ObjAt.re {o o' : Obj} {e : TypeId} {size : Nat} {w0 : Base} {g n : Nat} {xs : List Value} {W : World} {v : Value} (h : ObjAt o e size w0 g n xs (put W g o) v) : ObjAt o' e size w0 g n xs (put W g o') v := by
  simpa using h.upd (W' := put W g o') (o' := o') (by rw [put_put]; exact Below.refl _ _)
theorem ObjAt.drew_put {o : Obj} {e : TypeId} {size : Nat} {w0 : Base} {g n : Nat} {xs : List Value} {W : World} {v : Value} (h : ObjAt o e size w0 g n xs (put W g o) v) : ObjAt o e size w0 g n xs (put W g o).drew v :=
  h.on (Below.refl _ _).drew
/-- .. and lets go of its row. -/
theorem ObjAt.nil {o o' : Obj} {e : TypeId} {size : Nat} {w0 : Base} {g n : Nat} {xs : List Value} {W W' : World} {v : Value} (h : ObjAt o e size w0 g n xs W v) (hb : Below W.heap.size (put W g o') W') : ObjAt o' e size w0 g 0 [] W' (.slice none 0 0) := by
  have hp : ObjAt o' e size w0 g 0 [] (put W g o') (.slice none 0 0) := ⟨Below.atPut h.below h.base _, heap_put_at _ _ _ h.lt, World.ownsRow_nil _ _ _ _, h.base, by simp [Value.ownBlock], fun k q hk => ⟨by rw [heap_put_other _ _ _ _ (h.kept k q hk).2.1]; exact (h.kept k q hk).1, (h.kept k q hk).2.1, by simp [Value.ownBlock]⟩⟩
  exact hp.on (by rw [size_put]; exact hb)
/-- Elements of another place are appended to the row: the run, and what holds behind it (before v' is stored). -/
theorem append_obj {P : Program} {o : Obj} {e : TypeId} {size : Nat} {w0 : Base} {g n : Nat} {xs : List Value} {W : World} {v : Value} (h : ObjAt o e size w0 g n xs W v)
    (t ty : TypeId) (i : TypeInfo) (z : Value) (bytes : Nat) (ht : P.underlying t = some (.slice e)) (hi : P.info? e = some i) (hz : i.zero = some z)
    (hsize : i.size = size) (hby : i.bytes = bytes) (hzs : z.cells.size = size) (hsz : 0 < size)
    (a : Addr) (m c : Nat) (news : List Value) (hl : news.length = m * size) (hnews : ∀ j u, news[j]? = some u → W.cell? (a.add j) = some u) (h1 : ∀ u ∈ news, u.oneCell' = true)
    (h63 : n + m ≤ maxLen) (hbytes : (n + m) * bytes ≤ 140737488355328) :
    ∃ v' W', (Builtin.append_ #[t, t] ty #[v, .slice (some a) m c]).run P W = .ok v' (put W' g o) ∧ W.grownBy W' v.ownBlock ∧ ∀ o', ObjAt o' e size w0 g (n + m) (xs ++ news) (put W' g o') v' := by
  obtain ⟨v', W', hr, ho, hg, _, hown⟩ := run_append_own_at (P := P) W w0.heap.size t ty e i z size bytes ht hi hz hsize hby hzs hsz v n xs h.owns a m c news hl hnews h1 h63 hbytes h.size
  have hgl : g < W'.heap.size := Nat.lt_of_lt_of_le h.lt hg.size
  have hne : v'.ownBlock ≠ some g := by
    rcases hown with he | he
    · rw [he]; exact h.ne
    · intro hh
      have hlt := h.lt
      rw [he] at hh
      have := Option.some.inj hh
      omega
  refine ⟨v', W', ?_, hg, fun o' => ⟨?_, heap_put_at _ _ _ hgl, owns_put ho hne _, h.base, hne, fun k q hk => ?_⟩⟩
  · rw [put_self (w := W')]
    · exact hr
    · rw [hg.block g h.lt (fun e => h.ne e.symm)]; exact h.heap
  · refine Below.atPut (h.below.grown hg h.size ?_) h.base _
    intro k hk
    exact (h.owns.lt k hk).1
  · obtain ⟨h1, h2, h3⟩ := h.kept k q hk
    have hl := lt_of_heap h1
    refine ⟨by rw [heap_put_other _ _ _ _ h2, hg.block k hl (fun e => h3 e.symm)]; exact h1, h2, ?_⟩
    rcases hown with he | he
    · rw [he]; exact h3
    · intro hh
      rw [he] at hh
      have := Option.some.inj hh
      omega
/-- One more block that stays as it is. -/
def Base.with (w0 : Base) (L : Nat) (q : Obj) : Base := { w0 with keep := fun k => if k = L then some q else w0.keep k }
@[simp] theorem Base.with_heap (w0 : Base) (L : Nat) (q : Obj) : (w0.with L q).heap = w0.heap := rfl
theorem Base.with_self (w0 : Base) (L : Nat) (q : Obj) : (w0.with L q).keep L = some q := by simp [Base.with]
theorem Base.with_other {w0 : Base} {L : Nat} {q : Obj} {k : Nat} {r : Obj} (h : w0.keep k = some r) (hne : k ≠ L) : (w0.with L q).keep k = some r := by simp [Base.with, hne, h]
theorem ObjAt.learn {o : Obj} {e : TypeId} {size : Nat} {w0 : Base} {g n : Nat} {xs : List Value} {W : World} {v : Value} (h : ObjAt o e size w0 g n xs W v) {L : Nat} {q : Obj} (hL : W.heap[L]? = some q) (hg : L ≠ g) (hv : v.ownBlock ≠ some L) : ObjAt o e size (w0.with L q) g n xs W v :=
  ⟨h.below, h.heap, h.owns, h.base, h.ne, fun k r hk => by
    by_cases e : k = L
    · subst e
      rw [Base.with_self] at hk
      cases hk
      exact ⟨hL, hg, hv⟩
    · exact h.kept k r (by simpa [Base.with, e] using hk)⟩
/-- Elements in memory: nil, or m elements news behind an address. -/
def Src (W : World) (size : Nat) (sv : Value) (m : Nat) (news : List Value) : Prop :=
  news.length = m * size ∧ (∀ u ∈ news, u.oneCell' = true) ∧ ((sv = .slice none 0 0 ∧ m = 0) ∨ ∃ a c, sv = .slice (some a) m c ∧ ∀ j u, news[j]? = some u → W.cell? (a.add j) = some u)
theorem Src.nil (W : World) (size : Nat) : Src W size (.slice none 0 0) 0 [] := ⟨by simp, by simp, .inl ⟨rfl, rfl⟩⟩
theorem Src.heap {W W' : World} {size m : Nat} {sv : Value} {news : List Value} (h : Src W size sv m news) (hb : Below W.heap.size W W') : Src W' size sv m news := by
  refine ⟨h.1, h.2.1, h.2.2.imp id ?_⟩
  rintro ⟨a, c, rfl, hc⟩
  refine ⟨a, c, rfl, fun j u hu => ?_⟩
  have := hc j u hu
  rw [hb.cell (World.block_lt_of_cell? _ _ this)]; exact this
theorem append_src {P : Program} {o : Obj} {e : TypeId} {size : Nat} {w0 : Base} {g n : Nat} {xs : List Value} {W : World} {v : Value} (h : ObjAt o e size w0 g n xs W v)
    (t ty : TypeId) (i : TypeInfo) (z : Value) (bytes : Nat) (ht : P.underlying t = some (.slice e)) (hi : P.info? e = some i) (hz : i.zero = some z)
    (hsize : i.size = size) (hby : i.bytes = bytes) (hzs : z.cells.size = size) (hsz : 0 < size)
    (sv : Value) (m : Nat) (news : List Value) (hs : Src W size sv m news)
    (h63 : n + m ≤ maxLen) (hbytes : (n + m) * bytes ≤ 140737488355328) :
    ∃ v' W', (Builtin.append_ #[t, t] ty #[v, sv]).run P W = .ok v' (put W' g o) ∧ W.grownBy W' v.ownBlock ∧ ∀ o', ObjAt o' e size w0 g (n + m) (xs ++ news) (put W' g o') v' := by
  obtain ⟨hl, h1, hs⟩ := hs
  rcases hs with ⟨rfl, rfl⟩ | ⟨a, c, rfl, hc⟩
  · obtain rfl : news = [] := List.eq_nil_of_length_eq_zero (by omega)
    refine ⟨v, W, ?_, ⟨rfl, rfl, rfl, Nat.le_refl _, fun _ _ _ => rfl⟩, fun o' => ?_⟩
    · rw [put_self h.heap]; exact run_append_owned_none (P := P) W w0.heap.size t ty e i size ht hi v n xs h.owns
    · simpa using (h.upd (o' := o') (Below.refl _ _))
  · exact append_obj h t ty i z bytes ht hi hz hsize hby hzs hsz a m c news hl hc h1 h63 hbytes
theorem below_put_fut {B : Nat} {a w : World} {g : Nat} {o o2 : Obj} (h : Below B (put a g o) (put w g o)) (hB : B ≤ w.heap.size) (u : Fut (put w g o2)) : Below B (put a g o) (put u.val g o) :=
  ⟨u.below.os.trans h.os, u.below.tape.trans h.tape, u.below.output.trans h.output, by
    have := h.size; have h2 := u.below.size; rw [size_put] at *; rw [size_put]; simp only [size_put] at this; omega, fun k hk => by
    have h1 := h.block k hk
    have h3 : (put w g o2).heap.size = w.heap.size := size_put w g o2
    by_cases e : k = g
    · subst e
      by_cases hw : k < w.heap.size
      · rw [heap_put_at _ _ _ (by have := u.below.size; omega)]; rw [heap_put_at _ _ _ hw] at h1; exact h1
      · omega
    · rw [heap_put_other _ _ _ _ e] at h1 ⊢
      rw [u.below.block k (by omega), heap_put_other _ _ _ _ e]; exact h1⟩
theorem heap_drew_eq (w : World) (k : Nat) : w.drew.heap[k]? = w.heap[k]? := rfl
theorem heap_alloc_at (w : World) (o : Obj) (k : Nat) (h : k = w.heap.size) : (w.alloc o).heap[k]? = some o := by subst h; exact heap_alloc_new w o
theorem heap_alloc_other (w : World) (o : Obj) (k : Nat) (h : k < w.heap.size) : (w.alloc o).heap[k]? = w.heap[k]? := Below.heap_alloc w o k h
theorem wp_append_run {P : Program} {w : World} {o : Oper} {a : Act} {K : Act → World → Prop} {Q : Exit → Act → World → Prop} (s x : Operand) (t : TypeId)
    (ho : o.op = .call { callee := .builtin .append, args := #[s, x], argTypes := #[t, t] }) (v sv : Value) (hs : a.eval s = v) (hx : a.eval x = sv) (v' : Value) (w' : World)
    (hrun : (Builtin.append_ #[t, t] o.type #[v, sv]).run P w = .ok v' w') (h : K (a.put o.dst v') w') : o.wp P a w K Q := by
  unfold Oper.wp execOp
  simp only [ho, resolve, invoke, builtin, Sem.run_bind, Sem.run_pure, Result.andThen_ok, List.map_toArray, List.map_cons, List.map_nil, hs, hx, hrun]
  exact h
theorem step_append_run {P : Program} {w : World} {ops : Array Oper} {o : Oper} {a : Act} {K : Act → World → Prop} {Q : Exit → Act → World → Prop} {E : Prop} (hgd : o.guard = none) (s x : Operand) (t : TypeId)
    (ho : o.op = .call { callee := .builtin .append, args := #[s, x], argTypes := #[t, t] }) (v sv : Value) (hs : a.eval s = v) (hx : a.eval x = sv) (v' : Value) (w' : World)
    (hrun : (Builtin.append_ #[t, t] o.type #[v, sv]).run P w = .ok v' w') (h : K (a.put o.dst v') w') :
    if Region.wanted o (yielded ops a.tmps) = true then Oper.wp P o a w K Q else E := by
  have hw : Region.wanted o (yielded ops a.tmps) = true := by simp [Region.wanted, hgd]
  rw [if_pos hw]
  exact wp_append_run s x t ho v sv hs hx v' w' hrun h
theorem wpList_append_run {P : Program} {w : World} {ops : Array Oper} {rest : List Oper} {o : Oper} {a : Act} {Q : Exit → Act → World → Prop} (hgd : o.guard = none) (s x : Operand) (t : TypeId)
    (ho : o.op = .call { callee := .builtin .append, args := #[s, x], argTypes := #[t, t] }) (v sv : Value) (hs : a.eval s = v) (hx : a.eval x = sv) (v' : Value) (w' : World)
    (hrun : (Builtin.append_ #[t, t] o.type #[v, sv]).run P w = .ok v' w') (h : wpList P ops Q rest (a.put o.dst v') w') : wpList P ops Q (o :: rest) a w :=
  wpList_plain hgd fun _ hK => wp_append_run s x t ho v sv hs hx v' w' hrun (hK _ _ h)
theorem owns_slice {w : World} {base : Nat} {e : TypeId} {size : Nat} {v : Value} {n : Nat} {xs : List Value} (h : w.ownsRow base e size v n xs) : ∃ ao c, v = .slice ao n c := by
  rcases h.2 with ⟨rfl, rfl⟩ | ⟨g, cap, cur, rfl, _⟩
  · exact ⟨_, _, rfl⟩
  · exact ⟨_, _, rfl⟩
end Go.Proofs.YthknenhcnpgkcaaGreat

/- Runs of the built-in copy, clear and append on rows whose elements have several cells. -/
namespace Go.Proofs.YthknenhcnpgkcaaGreat
set_option linter.unusedVariables false
set_option linter.unusedSimpArgs false
open Go.RowKit
theorem setRow_put {W : World} {g : Nat} {cur : Array Value} {t : TypeId} {fr : Nat × Nat} (h : W.heap[g]? = some (.cells cur t fr)) (cs : Array Value) : W.setRow g cs = put W g (.cells cs t fr) := by
  have hl := lt_of_heap h
  have := setRow_heap W g cur cs t fr h
  unfold put
  have e : (W.setRow g cs).heap = W.heap.setIfInBounds g (.cells cs t fr) := by
    apply Array.ext_getElem?
    intro k
    by_cases hk : k = g
    · subst hk
      rw [this, Array.getElem?_setIfInBounds_self_of_lt hl]
    · rw [Array.getElem?_setIfInBounds_ne (by omega)]
      simp only [World.setRow, Array.getElem?_modify]
      rw [if_neg (by omega)]
  have e2 : W.setRow g cs = { W with heap := (W.setRow g cs).heap } := rfl
  rw [e2, e]
theorem run_copy_many {P : Program} (w : World) (dT sT ty elem : TypeId) (size g o dLen dCap : Nat) (a : Addr) (sLen sCap : Nat) (cur : Array Value) (t : TypeId) (cs : List Value)
    (hu : P.underlying dT = some (.slice elem)) (hs : (P.info? elem).map (·.size) = some size)
    (hg : w.heap[g]? = some (.cells cur t (0, 0))) (hn : cs.length = Nat.min sLen dLen * size)
    (hsrc : ∀ j v, cs[j]? = some v → w.cell? (a.add j) = some v) (hfit : o + cs.length ≤ cur.size) (h1 : ∀ v ∈ cs, v.oneCell' = true) :
    (Builtin.copy_ #[dT, sT] ty #[.slice (some ⟨g, o, none⟩) dLen dCap, .slice (some a) sLen sCap]).run P w =
      .ok (goInt (Nat.min sLen dLen)) (put w g (.cells (cur.toList.take o ++ cs ++ cur.toList.drop (o + cs.length)).toArray t)) := by
  have hl := run_loadCells_list (P := P) w a cs hsrc
  have hst := run_storeCells_at P g o t cs 0 cur w hg (by simpa using hfit) h1
  rw [← setRow_put hg]
  cases hq : P.info? elem with
  | none => simp [hq] at hs
  | some i =>
    have hi : i.size = size := by simpa [hq] using hs
    simp [Builtin.copy_, run_underlying hu, Builtin.lenOf, Builtin.firstCells, sizeOf, typeInfo, hq, hi, ← hn, hl, hst]
def zerosOf (z : Value) (n : Nat) : List Value := (Builtin.zeroCells z.cells n).toList
theorem zerosOf_len (z : Value) (n : Nat) : (zerosOf z n).length = n * z.cells.size := by unfold zerosOf; rw [Array.length_toList, size_zeroCells]
theorem zerosOf_one (z : Value) (h : ∀ u ∈ z.cells.toList, u.oneCell' = true) (n : Nat) : ∀ u ∈ zerosOf z n, u.oneCell' = true := by
  intro u hu
  unfold zerosOf Builtin.zeroCells at hu
  rw [Array.toList_map, List.mem_map] at hu
  obtain ⟨i, hi, rfl⟩ := hu
  have hpos : 0 < z.cells.size := by
    rcases Nat.eq_zero_or_pos z.cells.size with h0 | h0
    · rw [h0] at hi; simp at hi
    · exact h0
  have hlt : i % z.cells.size < z.cells.size := Nat.mod_lt _ hpos
  rw [getElem!_pos z.cells _ hlt]
  exact h _ (by simp)
theorem run_clear_many {P : Program} (w : World) (t e ty : TypeId) (z : Value) (ht : P.underlying t = some (.slice e)) (hv : ∀ w, (zeroValue e).run P w = .ok z w) (h1 : ∀ u ∈ z.cells.toList, u.oneCell' = true)
    (g o n c : Nat) (hn : 0 < n) (cur : Array Value) (ct : TypeId) (hg : w.heap[g]? = some (.cells cur ct (0, 0))) (hfit : o + n * z.cells.size ≤ cur.size) :
    (Builtin.clear_ #[t] ty #[.slice (some ⟨g, o, none⟩) n c]).run P w = .ok (.tuple #[]) (put w g (.cells (cur.toList.take o ++ zerosOf z n ++ cur.toList.drop (o + (zerosOf z n).length)).toArray ct)) := by
  have hst := run_storeCells_at P g o ct (zerosOf z n) 0 cur w hg (by simpa [zerosOf_len] using hfit) (zerosOf_one z h1 n)
  rw [← setRow_put hg]
  obtain ⟨m, rfl⟩ : ∃ m, n = m + 1 := ⟨n - 1, by omega⟩
  simp only [Nat.add_zero] at hst
  simp only [zerosOf] at hst ⊢
  simp [Builtin.clear_, run_underlying ht, hv, hst]
theorem wp_copy_run {P : Program} {w : World} {o : Oper} {a : Act} {K : Act → World → Prop} {Q : Exit → Act → World → Prop} (s x : Operand) (ts : Array TypeId)
    (ho : o.op = .call { callee := .builtin .copy, args := #[s, x], argTypes := ts }) (v sv : Value) (hs : a.eval s = v) (hx : a.eval x = sv) (v' : Value) (w' : World)
    (hrun : (Builtin.copy_ ts o.type #[v, sv]).run P w = .ok v' w') (h : K (a.put o.dst v') w') : o.wp P a w K Q := by
  unfold Oper.wp execOp
  simp only [ho, resolve, invoke, builtin, Sem.run_bind, Sem.run_pure, Result.andThen_ok, List.map_toArray, List.map_cons, List.map_nil, hs, hx, hrun]
  exact h
theorem wpList_copy_run {P : Program} {w : World} {ops : Array Oper} {rest : List Oper} {o : Oper} {a : Act} {Q : Exit → Act → World → Prop} (hgd : o.guard = none) (s x : Operand) (ts : Array TypeId)
    (ho : o.op = .call { callee := .builtin .copy, args := #[s, x], argTypes := ts }) (v sv : Value) (hs : a.eval s = v) (hx : a.eval x = sv) (v' : Value) (w' : World)
    (hrun : (Builtin.copy_ ts o.type #[v, sv]).run P w = .ok v' w') (h : wpList P ops Q rest (a.put o.dst v') w') : wpList P ops Q (o :: rest) a w :=
  wpList_plain hgd fun _ hK => wp_copy_run s x ts ho v sv hs hx v' w' hrun (hK _ _ h)
theorem step_copy_run {P : Program} {w : World} {ops : Array Oper} {o : Oper} {a : Act} {K : Act → World → Prop} {Q : Exit → Act → World → Prop} {E : Prop} (hgd : o.guard = none) (s x : Operand) (ts : Array TypeId)
    (ho : o.op = .call { callee := .builtin .copy, args := #[s, x], argTypes := ts }) (v sv : Value) (hs : a.eval s = v) (hx : a.eval x = sv) (v' : Value) (w' : World)
    (hrun : (Builtin.copy_ ts o.type #[v, sv]).run P w = .ok v' w') (h : K (a.put o.dst v') w') : if Region.wanted o (yielded ops a.tmps) = true then Oper.wp P o a w K Q else E := by
  have hw : Region.wanted o (yielded ops a.tmps) = true := by simp [Region.wanted, hgd]
  rw [if_pos hw]
  exact wp_copy_run s x ts ho v sv hs hx v' w' hrun h
theorem wp_clear_run {P : Program} {w : World} {o : Oper} {a : Act} {K : Act → World → Prop} {Q : Exit → Act → World → Prop} (s : Operand) (ts : Array TypeId)
    (ho : o.op = .call { callee := .builtin .clear, args := #[s], argTypes := ts }) (v : Value) (hs : a.eval s = v) (v' : Value) (w' : World)
    (hrun : (Builtin.clear_ ts o.type #[v]).run P w = .ok v' w') (h : K (a.put o.dst v') w') : o.wp P a w K Q := by
  unfold Oper.wp execOp
  simp only [ho, resolve, invoke, builtin, Sem.run_bind, Sem.run_pure, Result.andThen_ok, List.map_toArray, List.map_cons, List.map_nil, hs, hrun]
  exact h
theorem wpList_clear_run {P : Program} {w : World} {ops : Array Oper} {rest : List Oper} {o : Oper} {a : Act} {Q : Exit → Act → World → Prop} (hgd : o.guard = none) (s : Operand) (ts : Array TypeId)
    (ho : o.op = .call { callee := .builtin .clear, args := #[s], argTypes := ts }) (v : Value) (hs : a.eval s = v) (v' : Value) (w' : World)
    (hrun : (Builtin.clear_ ts o.type #[v]).run P w = .ok v' w') (h : wpList P ops Q rest (a.put o.dst v') w') : wpList P ops Q (o :: rest) a w :=
  wpList_plain hgd fun _ hK => wp_clear_run s ts ho v hs v' w' hrun (hK _ _ h)
/-- append(s[:i], make([]T, k)...) where there is no room: a new row. -/
theorem run_append_zeros_grows {P : Program} (w : World) (t tn ty e : TypeId) (i : TypeInfo) (z : Value) (k kn : IntKind) (size bytes : Nat) (ht : P.underlying t = some (.slice e)) (htn : P.underlying tn = some (.int kn)) (hi : P.info? e = some i) (hz : i.zero = some z)
    (hsize : i.size = size) (hby : i.bytes = bytes)
    (a : Addr) (n cap m : Nat) (news : List Value) (hl : news.length = n * size) (hnews : ∀ j u, news[j]? = some u → w.cell? (a.add j) = some u)
    (h0 : 0 < m) (hs : 0 < size) (hroom : cap < n + m) (h63 : ((n + m : Nat) : Int) ≤ 9223372036854775807) (h48 : (n + m) * bytes ≤ 140737488355328) :
    ∃ cap', n + m ≤ cap' ∧ cap' ≤ maxLen ∧ (Builtin.append_ #[t, tn] ty #[.slice (some a) n cap, .int k m]).run P w =
      .ok (.slice (some ⟨w.heap.size, 0, none⟩) (n + m) cap') (w.drew.alloc (.cells (news ++ zerosOf z m ++ zerosOf z (cap' - (n + m))).toArray e)) := by
  subst hsize hby
  refine ⟨grownCap w (n + m) cap e, grownCap_ge w _ _ e, grownCap_le_maxLen w _ _ e (by unfold maxLen; omega), ?_⟩
  have hn : m ≠ 0 := by omega
  have hw : IntKind.i64.wrap (m : Int) = m := by rw [IntKind.wrap_i64]; omega
  have h63' : ¬ (9223372036854775807 < (n : Int) + (m : Int)) := by omega
  have h48' : ¬ (281474976710656 < Builtin.nextslicecap (n + m) cap * i.bytes) := by
    have := growslice_fits (need := n + m) (old := cap) (bytes := i.bytes) (by omega) h48
    omega
  have h48i : ¬ (281474976710656 < (m : Int) * (i.bytes : Int)) := by
    have h1 : m * i.bytes ≤ (n + m) * i.bytes := Nat.mul_le_mul_right _ (by omega)
    rw [← Int.natCast_mul]
    omega
  have hneg : ¬ ((m : Int) < 0) := by omega
  have hns : ¬ (m * i.size = 0) := Nat.mul_ne_zero hn (by omega)
  have hroom' : ¬ (n + m ≤ cap) := by omega
  have hf := run_firstCells_some (P := P) w.drew i.size n a n cap news hl hnews
  simp [Builtin.append_, run_underlying ht, run_underlying htn, sizeOf, typeInfo, zeroValue, hi, hz, asInt, asIntOf, hw, hn, hneg, hns, h63', h48', h48i, hroom', Question.forced, hf, newRow, grownCap, Builtin.lenOf, zerosOf]
  congr 2
  apply Array.toList_inj.1
  simp
/-- An append of zeros (a number in the slice's place) whose run is known. -/
theorem wpList_append2_run {P : Program} {w : World} {ops : Array Oper} {rest : List Oper} {o : Oper} {a : Act} {Q : Exit → Act → World → Prop} (hgd : o.guard = none) (s x : Operand) (t tn : TypeId)
    (ho : o.op = .call { callee := .builtin .append, args := #[s, x], argTypes := #[t, tn] }) (vs vx : Value) (hs : a.eval s = vs) (hx : a.eval x = vx)
    (v' : Value) (w' : World) (hr : (Builtin.append_ #[t, tn] o.type #[vs, vx]).run P w = .ok v' w') (h : wpList P ops Q rest (a.put o.dst v') w') : wpList P ops Q (o :: rest) a w :=
  Lib.wpList_append_run w hgd s x t tn ho vs vx hs hx v' w' hr h
/-- A whole struct is stored into its block. -/
theorem wp_store_row {P : Program} {w : World} {o : Oper} {a : Act} {K : Act → World → Prop} {Q : Exit → Act → World → Prop} (ty : TypeId) (x y : Operand) (ho : o.op = .store ty x y) (g : Nat) (cs cur : Array Value)
    (hx : a.eval x = .pointer (some ⟨g, 0, none⟩)) (hy : a.eval y = .agg cs) (hg : w.heap[g]? = some (.cells cur ty)) (hi : (P.info? ty).map (·.size) = some cs.size) (hs : cur.size = cs.size) (h1 : cs.all (·.oneCell') = true)
    (h : K (a.put o.dst (.tuple #[])) (put w g (.cells cs ty))) : o.wp P a w K Q := by
  unfold Oper.wp execOp
  have hr := run_storeVar_row (P := P) w g ty ty cur cs hg hi hs h1
  rw [setRow_put hg] at hr
  simp only [ho, hx, hy, Instr.storeAt, Instr.sureAddr, Sem.run_bind, Sem.run_pure, Result.andThen_ok, hr]
  exact h
theorem wpList_store_row {P : Program} {w : World} {ops : Array Oper} {rest : List Oper} {o : Oper} {a : Act} {Q : Exit → Act → World → Prop} (hgd : o.guard = none) (ty : TypeId) (x y : Operand) (ho : o.op = .store ty x y) (g : Nat) (cs cur : Array Value)
    (hx : a.eval x = .pointer (some ⟨g, 0, none⟩)) (hy : a.eval y = .agg cs) (hg : w.heap[g]? = some (.cells cur ty)) (hi : (P.info? ty).map (·.size) = some cs.size) (hs : cur.size = cs.size) (h1 : cs.all (·.oneCell') = true)
    (h : wpList P ops Q rest (a.put o.dst (.tuple #[])) (put w g (.cells cs ty))) : wpList P ops Q (o :: rest) a w :=
  wpList_plain hgd fun _ hK => wp_store_row ty x y ho g cs cur hx hy hg hi hs h1 (hK _ _ h)
end Go.Proofs.YthknenhcnpgkcaaGreat

/- What a call changes, and whose block is whose: by counts. -/
namespace Go.Proofs.YthknenhcnpgkcaaGreat
set_option linter.unusedVariables false
set_option linter.unusedSimpArgs false
open Go.RowKit
/-- From w to w' the blocks of S may have changed, and blocks came; no others. -/
structure Chg (S : Nat → Prop) (w w' : World) : Prop where
  os : w'.os = w.os
  tape : w'.tape = w.tape
  output : w'.output = w.output
  size : w.heap.size ≤ w'.heap.size
  block : ∀ k, k < w.heap.size → ¬ S k → w'.heap[k]? = w.heap[k]?
theorem Chg.refl (S : Nat → Prop) (w : World) : Chg S w w := ⟨rfl, rfl, rfl, Nat.le_refl _, fun _ _ _ => rfl⟩
theorem Chg.trans {S T : Nat → Prop} {a b c : World} (h : Chg S a b) (k : Chg T b c) (hs : ∀ i, i < a.heap.size → T i → S i) : Chg S a c :=
  ⟨k.os.trans h.os, k.tape.trans h.tape, k.output.trans h.output, Nat.le_trans h.size k.size, fun i hi hn => (k.block i (Nat.lt_of_lt_of_le hi h.size) (fun ht => hn (hs i hi ht))).trans (h.block i hi hn)⟩
theorem Chg.mono {S T : Nat → Prop} {a b : World} (h : Chg S a b) (hs : ∀ i, i < a.heap.size → S i → T i) : Chg T a b := ⟨h.os, h.tape, h.output, h.size, fun i hi hn => h.block i hi (fun hS => hn (hs i hi hS))⟩
theorem Chg.of_below {S : Nat → Prop} {a b : World} (h : Below a.heap.size a b) : Chg S a b := ⟨h.os, h.tape, h.output, h.size, fun i hi _ => h.block i hi⟩
theorem Chg.below {S : Nat → Prop} {a b : World} {B : Nat} (h : Chg S a b) (hB : B ≤ a.heap.size) (hs : ∀ i, S i → B ≤ i) : Below B a b := ⟨h.os, h.tape, h.output, h.size, fun i hi => h.block i (by omega) (fun hS => by have := hs i hS; omega)⟩
theorem Chg.of_grown {r : Option Nat} {a b : World} (h : a.grownBy b r) : Chg (fun k => r = some k) a b := ⟨h.os, h.tape, h.output, h.size, fun i hi hn => h.block i hi (fun e => hn e.symm)⟩
theorem Chg.put {S : Nat → Prop} {a b : World} (h : Chg S a b) {g : Nat} (hg : g < a.heap.size → S g) (o : Obj) : Chg S a (put b g o) :=
  ⟨h.os, h.tape, h.output, by rw [size_put]; exact h.size, fun i hi hn => by
    rw [heap_put_other _ _ _ _ (fun e => hn (by subst e; exact hg hi))]; exact h.block i hi hn⟩
theorem Chg.drew {S : Nat → Prop} {a b : World} (h : Chg S a b) : Chg S a b.drew := ⟨h.os, h.tape, h.output, h.size, h.block⟩
theorem Chg.alloc {S : Nat → Prop} {a b : World} (h : Chg S a b) (o : Obj) : Chg S a (b.alloc o) :=
  h.trans (T := S) (Chg.of_below ((Below.refl _ _).alloc (Nat.le_refl _) _)) (fun _ _ h => h)
abbrev Cnt := Nat → Nat
def one (p : Nat) : Cnt := fun k => if k = p then 1 else 0
def blk (v : Value) : Cnt := fun k => if v.ownBlock = some k then 1 else 0
theorem one_le (p k : Nat) : one p k ≤ 1 := by unfold one; split <;> omega
theorem blk_le (v : Value) (k : Nat) : blk v k ≤ 1 := by unfold blk; split <;> omega
@[simp] theorem one_self (p : Nat) : one p p = 1 := by simp [one]
theorem one_ne {p k : Nat} (h : one p k ≠ 0) : k = p := by unfold one at h; split at h <;> simp_all
theorem one_zero {p k : Nat} (h : one p k = 0) : k ≠ p := by unfold one at h; split at h <;> simp_all
theorem blk_ne {v : Value} {k : Nat} (h : blk v k ≠ 0) : v.ownBlock = some k := by unfold blk at h; split at h <;> simp_all
theorem blk_zero {v : Value} {k : Nat} (h : blk v k = 0) : v.ownBlock ≠ some k := by unfold blk at h; split at h <;> simp_all
@[simp] theorem blk_nil (n c k : Nat) : blk (.slice none n c) k = 0 := by simp [blk, Value.ownBlock]
@[simp] theorem blk_at (r o n c k : Nat) (s : Option Nat) : blk (.slice (some ⟨r, o, none⟩) n c) k = one r k := by
  unfold blk one; simp [Value.ownBlock, eq_comm]
/-- A row of the program's own, wherever it lies. -/
abbrev Row (W : World) (e : TypeId) (size : Nat) (v : Value) (n : Nat) (xs : List Value) : Prop := W.ownsRow 0 e size v n xs
theorem Row.lt {W : World} {e : TypeId} {size : Nat} {v : Value} {n : Nat} {xs : List Value} (h : Row W e size v n xs) {k : Nat} (hk : blk v k ≠ 0) : k < W.heap.size := (World.ownsRow.lt h k (blk_ne hk)).2
theorem Row.keep {W W' : World} {e : TypeId} {size : Nat} {v : Value} {n : Nat} {xs : List Value} (h : Row W e size v n xs) (hh : ∀ k, blk v k ≠ 0 → W'.heap[k]? = W.heap[k]?) : Row W' e size v n xs :=
  owns_heap h fun k hk => hh k (by unfold blk; rw [if_pos hk]; omega)
theorem Row.chg {W W' : World} {e : TypeId} {size : Nat} {v : Value} {n : Nat} {xs : List Value} (h : Row W e size v n xs) {S : Nat → Prop} (hc : Chg S W W') (hs : ∀ k, blk v k ≠ 0 → ¬ S k) : Row W' e size v n xs :=
  h.keep fun k hk => hc.block k (h.lt hk) (hs k hk)
/-- From a footprint c in w to c' in w': only c's blocks have changed; c' has c's blocks, and new ones, each once. -/
structure Upd (w w' : World) (c c' : Cnt) : Prop where
  chg : Chg (fun k => c k ≠ 0) w w'
  le : ∀ k, c' k ≤ 1
  old : ∀ k, k < w.heap.size → c' k ≤ c k
theorem Upd.trans {a b d : World} {c c' c2 : Cnt} (h : Upd a b c c') (k : Upd b d c' c2) : Upd a d c c2 :=
  ⟨h.chg.trans k.chg (fun i hi hn => by have := h.old i hi; omega), k.le, fun i hi => Nat.le_trans (k.old i (Nat.lt_of_lt_of_le hi h.chg.size)) (h.old i hi)⟩
end Go.Proofs.YthknenhcnpgkcaaGreat

/- Contracts of package key. -/
namespace Go.Proofs.YthknenhcnpgkcaaGreat
open Go.RowKit
theorem less_nil_left (l : List UInt8) : Op.bytesLess [] l = decide (0 < l.length) := by cases l <;> simp [Op.bytesLess]
theorem less_nil_right (l : List UInt8) : Op.bytesLess l [] = false := by cases l <;> simp [Op.bytesLess]
theorem less_cons (x y : UInt8) (l m : List UInt8) : Op.bytesLess (x :: l) (y :: m) = (decide (x.toNat < y.toNat) || (decide (x.toNat = y.toNat) && Op.bytesLess l m)) := by
  simp only [Op.bytesLess]
  congr 1
  · congr 1
    rw [Bool.eq_iff_iff]; simp [← UInt8.toNat_inj]
theorem drop_at (a : ByteArray) (i : Nat) (h : i < a.size) : a.data.toList.drop i = a[i] :: a.data.toList.drop (i + 1) := by
  rw [List.drop_eq_getElem_cons (by simpa using h)]; rfl
theorem drop_end (a : ByteArray) (i : Nat) (h : a.size ≤ i) : a.data.toList.drop i = [] := by
  rw [List.drop_eq_nil_iff]; simpa using h
theorem drop_len (a : ByteArray) (i : Nat) : (a.data.toList.drop i).length = a.size - i := by simp
def LessAt (a b : ByteArray) (i : Nat) : Prop := Op.bytesLess (a.data.toList.drop i) (b.data.toList.drop i) = Op.bytesLess a.data.toList b.data.toList
theorem LessAt.zero (a b : ByteArray) : LessAt a b 0 := rfl
theorem LessAt.succ {a b : ByteArray} {i : Nat} (h : LessAt a b i) (ha : i < a.size) (hb : i < b.size) (e : a[i].toNat = b[i].toNat) : LessAt a b (i + 1) := by
  unfold LessAt at *
  rw [← h, drop_at a i ha, drop_at b i hb, less_cons, e]; simp
theorem LessAt.lt {a b : ByteArray} {i : Nat} (h : LessAt a b i) (ha : i < a.size) (hb : i < b.size) (e : a[i].toNat < b[i].toNat) : Op.bytesLess a.data.toList b.data.toList = true := by
  unfold LessAt at *
  rw [← h, drop_at a i ha, drop_at b i hb, less_cons]; simp [e]
theorem LessAt.gt {a b : ByteArray} {i : Nat} (h : LessAt a b i) (ha : i < a.size) (hb : i < b.size) (e : b[i].toNat < a[i].toNat) : Op.bytesLess a.data.toList b.data.toList = false := by
  unfold LessAt at *
  rw [← h, drop_at a i ha, drop_at b i hb, less_cons]; simp; omega
theorem LessAt.stop {a b : ByteArray} {i : Nat} (h : LessAt a b i) (ha : i ≤ a.size) (hb : i ≤ b.size) (e : i = a.size ∨ i = b.size) : Op.bytesLess a.data.toList b.data.toList = decide (a.size < b.size) := by
  unfold LessAt at *
  rw [← h]
  rcases e with rfl | rfl
  · rw [drop_end a _ (Nat.le_refl _), less_nil_left, drop_len]; congr 1; simp only [eq_iff_iff]; omega
  · rw [drop_end b _ (Nat.le_refl _), less_nil_right]; simp; omega
theorem Fut.trans {w : World} (u : Fut w) (u' : Fut u.val) : ∃ v : Fut w, u'.val = v.val := ⟨⟨u'.val, Below.fut u.below u.below.size u'⟩, rfl⟩
set_option maxHeartbeats 1000000 in
theorem less_any (a b : ByteArray) (ha : a.size ≤ maxLen) (hb : b.size ≤ maxLen) (w : World) :
    Calls Tryz.prog 27 #[.string a, .string b] w (Makes (.bool (Op.bytesLess a.data.toList b.data.toList)) w) := by
  unfold maxLen at ha hb
  rcases Decidable.em (b.size < a.size) with h | h
  · go_enter Tryz.func27, Tryz.ntmps27
    go_wp2
    go_step3
    go_wp2
    go_step3
    go_wp2
    go_loopw [5, 17] (fun v x wr => ∃ i : Nat, i ≤ b.size ∧ x = .int .i64 i ∧ v = .bool (decide (a.size < b.size)) ∧ Hid (LessAt a b i) ∧ ∃ u : Fut w, wr = u.val) (fun _ x _ => b.size - (intOf x).toNat)
    case atStart => exact ⟨0, Nat.zero_le _, rfl, rfl, hid (.zero a b), ⟨⟨w, Below.refl _ _⟩, rfl⟩⟩
    case round =>
      obtain ⟨i, hi, rfl, rfl, hl, u, rfl⟩ := hrel
      by_cases hk : i < b.size
      · have hia : i < a.size := by omega
        have hib : i < b.size := by omega
        rcases Nat.lt_trichotomy a[i].toNat b[i].toNat with c | c | c
        · have HR := hid (hl.out.lt hia hib c)
          go_wp2_with (first | (((with_reducible refine wp_region_fut_lit (by kernel_rfl) (by kernel_rfl) ?_)); (repeat (go_big_quiet_step ((first | fail)))); ((with_reducible refine wpQuiet_nil ?_)); rintro _ ⟨u, rfl⟩; (try (rw [Fut.put_self u (by first | assumption | (simp [go_sem]; done) | (simp [go_sem]; omega))]))))
          rw [Exit.noGoto_ret]
          go_ret
          exact .mk (by rw [HR.out]; rfl) (by repeat' (first | exact Below.refl _ _ | with_reducible assumption | omega | with_reducible refine below_put_fut ?_ ?_ _ | with_reducible refine below_to_put ?_ | with_reducible refine Below.alloc ?_ ?_ _ | with_reducible refine Below.fut ?_ ?_ _ | with_reducible refine Below.drew ?_ | with_reducible refine Below.setCell ?_ ?_ _ | with_reducible refine Below.atPut ?_ ?_ _ | (simp [go_sem]; done) | (simp [go_sem]; omega)))
        · have HR := hid (hl.out.succ hia hib c)
          have c1 : a[i].toNat ≤ b[i].toNat := by omega
          have c2 : b[i].toNat ≤ a[i].toNat := by omega
          clear c
          go_wp2_with (first | (((with_reducible refine wp_region_fut_lit (by kernel_rfl) (by kernel_rfl) ?_)); (repeat (go_big_quiet_step ((first | fail)))); ((with_reducible refine wpQuiet_nil ?_)); rintro _ ⟨u, rfl⟩; (try (rw [Fut.put_self u (by first | assumption | (simp [go_sem]; done) | (simp [go_sem]; omega))]))))
          go_roundw
          case rel => exact ⟨i + 1, by omega, by go_num, rfl, HR, ⟨⟨_, (by repeat' (first | exact Below.refl _ _ | with_reducible assumption | omega | with_reducible refine below_put_fut ?_ ?_ _ | with_reducible refine below_to_put ?_ | with_reducible refine Below.alloc ?_ ?_ _ | with_reducible refine Below.fut ?_ ?_ _ | with_reducible refine Below.drew ?_ | with_reducible refine Below.setCell ?_ ?_ _ | with_reducible refine Below.atPut ?_ ?_ _ | (simp [go_sem]; done) | (simp [go_sem]; omega)))⟩, rfl⟩⟩
          case measure => simp [intOf]; omega
        · have HR := hid (hl.out.gt hia hib c)
          go_wp2_with (first | (((with_reducible refine wp_region_fut_lit (by kernel_rfl) (by kernel_rfl) ?_)); (repeat (go_big_quiet_step ((first | fail)))); ((with_reducible refine wpQuiet_nil ?_)); rintro _ ⟨u, rfl⟩; (try (rw [Fut.put_self u (by first | assumption | (simp [go_sem]; done) | (simp [go_sem]; omega))]))))
          rw [Exit.noGoto_ret]
          go_ret
          exact .mk (by rw [HR.out]; rfl) (by repeat' (first | exact Below.refl _ _ | with_reducible assumption | omega | with_reducible refine below_put_fut ?_ ?_ _ | with_reducible refine below_to_put ?_ | with_reducible refine Below.alloc ?_ ?_ _ | with_reducible refine Below.fut ?_ ?_ _ | with_reducible refine Below.drew ?_ | with_reducible refine Below.setCell ?_ ?_ _ | with_reducible refine Below.atPut ?_ ?_ _ | (simp [go_sem]; done) | (simp [go_sem]; omega)))
      · have HR := hid (hl.out.stop (by omega) (by omega) (by omega))
        go_wp2_with (first | (((with_reducible refine wp_region_fut_lit (by kernel_rfl) (by kernel_rfl) ?_)); (repeat (go_big_quiet_step ((first | fail)))); ((with_reducible refine wpQuiet_nil ?_)); rintro _ ⟨u, rfl⟩; (try (rw [Fut.put_self u (by first | assumption | (simp [go_sem]; done) | (simp [go_sem]; omega))]))))
        rw [Exit.noGoto_ret]
        go_ret
        exact .mk (by rw [HR.out]; rfl) (by repeat' (first | exact Below.refl _ _ | with_reducible assumption | omega | with_reducible refine below_put_fut ?_ ?_ _ | with_reducible refine below_to_put ?_ | with_reducible refine Below.alloc ?_ ?_ _ | with_reducible refine Below.fut ?_ ?_ _ | with_reducible refine Below.drew ?_ | with_reducible refine Below.setCell ?_ ?_ _ | with_reducible refine Below.atPut ?_ ?_ _ | (simp [go_sem]; done) | (simp [go_sem]; omega)))
  · go_enter Tryz.func27, Tryz.ntmps27
    go_wp2
    go_step3
    go_wp2
    go_step3
    go_wp2
    go_loopw [5, 17] (fun v x wr => ∃ i : Nat, i ≤ a.size ∧ x = .int .i64 i ∧ v = .bool (decide (a.size < b.size)) ∧ Hid (LessAt a b i) ∧ ∃ u : Fut w, wr = u.val) (fun _ x _ => a.size - (intOf x).toNat)
    case atStart => exact ⟨0, Nat.zero_le _, rfl, rfl, hid (.zero a b), ⟨⟨w, Below.refl _ _⟩, rfl⟩⟩
    case round =>
      obtain ⟨i, hi, rfl, rfl, hl, u, rfl⟩ := hrel
      by_cases hk : i < a.size
      · have hia : i < a.size := by omega
        have hib : i < b.size := by omega
        rcases Nat.lt_trichotomy a[i].toNat b[i].toNat with c | c | c
        · have HR := hid (hl.out.lt hia hib c)
          go_wp2_with (first | (((with_reducible refine wp_region_fut_lit (by kernel_rfl) (by kernel_rfl) ?_)); (repeat (go_big_quiet_step ((first | fail)))); ((with_reducible refine wpQuiet_nil ?_)); rintro _ ⟨u, rfl⟩; (try (rw [Fut.put_self u (by first | assumption | (simp [go_sem]; done) | (simp [go_sem]; omega))]))))
          rw [Exit.noGoto_ret]
          go_ret
          exact .mk (by rw [HR.out]; rfl) (by repeat' (first | exact Below.refl _ _ | with_reducible assumption | omega | with_reducible refine below_put_fut ?_ ?_ _ | with_reducible refine below_to_put ?_ | with_reducible refine Below.alloc ?_ ?_ _ | with_reducible refine Below.fut ?_ ?_ _ | with_reducible refine Below.drew ?_ | with_reducible refine Below.setCell ?_ ?_ _ | with_reducible refine Below.atPut ?_ ?_ _ | (simp [go_sem]; done) | (simp [go_sem]; omega)))
        · have HR := hid (hl.out.succ hia hib c)
          have c1 : a[i].toNat ≤ b[i].toNat := by omega
          have c2 : b[i].toNat ≤ a[i].toNat := by omega
          clear c
          go_wp2_with (first | (((with_reducible refine wp_region_fut_lit (by kernel_rfl) (by kernel_rfl) ?_)); (repeat (go_big_quiet_step ((first | fail)))); ((with_reducible refine wpQuiet_nil ?_)); rintro _ ⟨u, rfl⟩; (try (rw [Fut.put_self u (by first | assumption | (simp [go_sem]; done) | (simp [go_sem]; omega))]))))
          go_roundw
          case rel => exact ⟨i + 1, by omega, by go_num, rfl, HR, ⟨⟨_, (by repeat' (first | exact Below.refl _ _ | with_reducible assumption | omega | with_reducible refine below_put_fut ?_ ?_ _ | with_reducible refine below_to_put ?_ | with_reducible refine Below.alloc ?_ ?_ _ | with_reducible refine Below.fut ?_ ?_ _ | with_reducible refine Below.drew ?_ | with_reducible refine Below.setCell ?_ ?_ _ | with_reducible refine Below.atPut ?_ ?_ _ | (simp [go_sem]; done) | (simp [go_sem]; omega)))⟩, rfl⟩⟩
          case measure => simp [intOf]; omega
        · have HR := hid (hl.out.gt hia hib c)
          go_wp2_with (first | (((with_reducible refine wp_region_fut_lit (by kernel_rfl) (by kernel_rfl) ?_)); (repeat (go_big_quiet_step ((first | fail)))); ((with_reducible refine wpQuiet_nil ?_)); rintro _ ⟨u, rfl⟩; (try (rw [Fut.put_self u (by first | assumption | (simp [go_sem]; done) | (simp [go_sem]; omega))]))))
          rw [Exit.noGoto_ret]
          go_ret
          exact .mk (by rw [HR.out]; rfl) (by repeat' (first | exact Below.refl _ _ | with_reducible assumption | omega | with_reducible refine below_put_fut ?_ ?_ _ | with_reducible refine below_to_put ?_ | with_reducible refine Below.alloc ?_ ?_ _ | with_reducible refine Below.fut ?_ ?_ _ | with_reducible refine Below.drew ?_ | with_reducible refine Below.setCell ?_ ?_ _ | with_reducible refine Below.atPut ?_ ?_ _ | (simp [go_sem]; done) | (simp [go_sem]; omega)))
      · have HR := hid (hl.out.stop (by omega) (by omega) (by omega))
        go_wp2_with (first | (((with_reducible refine wp_region_fut_lit (by kernel_rfl) (by kernel_rfl) ?_)); (repeat (go_big_quiet_step ((first | fail)))); ((with_reducible refine wpQuiet_nil ?_)); rintro _ ⟨u, rfl⟩; (try (rw [Fut.put_self u (by first | assumption | (simp [go_sem]; done) | (simp [go_sem]; omega))]))))
        rw [Exit.noGoto_ret]
        go_ret
        exact .mk (by rw [HR.out]; rfl) (by repeat' (first | exact Below.refl _ _ | with_reducible assumption | omega | with_reducible refine below_put_fut ?_ ?_ _ | with_reducible refine below_to_put ?_ | with_reducible refine Below.alloc ?_ ?_ _ | with_reducible refine Below.fut ?_ ?_ _ | with_reducible refine Below.drew ?_ | with_reducible refine Below.setCell ?_ ?_ _ | with_reducible refine Below.atPut ?_ ?_ _ | (simp [go_sem]; done) | (simp [go_sem]; omega)))
end Go.Proofs.YthknenhcnpgkcaaGreat

/- Contracts of package key: Addr. -/
namespace Go.Proofs.YthknenhcnpgkcaaGreat
open Go.RowKit
/-- The byte at a place; 0 behind the end. -/
def byteAt (l : List UInt8) (i : Nat) : Nat := (l.getD i 0).toNat
/-- The number of the first i bytes. -/
def addrUp (l : List UInt8) : Nat → Nat
  | 0 => 0
  | i + 1 => addrUp l i * 256 + byteAt l i
def addrN (l : List UInt8) : Nat := addrUp l 8
theorem byteAt_lt (l : List UInt8) (i : Nat) : byteAt l i < 256 := UInt8.toNat_lt _
theorem addrUp_lt (l : List UInt8) : ∀ i, addrUp l i < 256 ^ i
  | 0 => by simp [addrUp]
  | i + 1 => by
    have := addrUp_lt l i
    have := byteAt_lt l i
    simp only [addrUp, Nat.pow_succ]; omega
theorem byteAt_in (a : ByteArray) (i : Nat) (h : i < a.size) : byteAt a.data.toList i = a[i].toNat := by
  unfold byteAt
  have e : a.data.toList[i]? = some a[i] := by rw [List.getElem?_eq_getElem (by simpa using h)]; rfl
  rw [List.getD, e]; rfl
theorem byteAt_out (a : ByteArray) (i : Nat) (h : a.size ≤ i) : byteAt a.data.toList i = 0 := by
  unfold byteAt
  have e : a.data.toList[i]? = none := by rw [List.getElem?_eq_none_iff]; simpa using h
  rw [List.getD, e]; rfl
theorem or_byte (X c : Nat) (hX : X < 72057594037927936) (hc : c < 256) : bits .or .u64 ((X : Int) * 256) (IntKind.u64.wrap c) = ((X * 256 + c : Nat) : Int) := by
  have e2 : IntKind.u64.wrap (c : Int) = c := by rw [IntKind.wrap_u64]; omega
  rw [e2]
  have := bits_join .u64 64 (by decide) (fun n h0 h1 => by rw [IntKind.wrap_u64]; omega) 8 ((X : Int) * 256) c (by omega) (by omega) (by omega) (by omega) (by omega)
  omega
theorem shl_byte (X : Nat) : (X : Int) * 256 = ((X * 256 + 0 : Nat) : Int) := by omega
set_option maxHeartbeats 1000000 in
theorem addr_any (a : ByteArray) (ha : a.size ≤ maxLen) (r : Nat) (hr : addrN a.data.toList = r) (w : World) :
    Calls Tryz.prog 30 #[.string a] w (Makes (.int .u64 r) w) := by
  unfold maxLen at ha
  go_enter Tryz.func30, Tryz.ntmps30
  go_wp2
  go_loopw [3, 5] (fun v x wr => ∃ i : Nat, i ≤ 8 ∧ x = .int .i64 i ∧ v = .int .u64 (addrUp a.data.toList i) ∧ ∃ u : Fut w, wr = u.val) (fun _ x _ => 8 - (intOf x).toNat)
  case atStart => exact ⟨0, by omega, rfl, rfl, ⟨⟨w, Below.refl _ _⟩, rfl⟩⟩
  case round =>
    obtain ⟨i, hi, rfl, rfl, u, rfl⟩ := hrel
    have hb := addrUp_lt a.data.toList i
    by_cases hk : i < 8
    · have hp : 256 ^ i ≤ 256 ^ 7 := Nat.pow_le_pow_right (by omega) (by omega)
      have hbd : addrUp a.data.toList i < 72057594037927936 := by omega
      clear hb hp
      by_cases hs : i < a.size
      · have HR := hid (or_byte (addrUp a.data.toList i) a[i].toNat hbd (UInt8.toNat_lt _))
        have HB := hid (byteAt_in a i hs)
        go_wp2_with (first | (((with_reducible refine wp_region_fut_lit (by kernel_rfl) (by kernel_rfl) ?_)); (repeat (go_big_quiet_step ((first | fail)))); ((with_reducible refine wpQuiet_nil ?_)); rintro _ ⟨u, rfl⟩; (try (rw [Fut.put_self u (by first | assumption | (simp [go_sem]; done) | (simp [go_sem]; omega))]))))
        go_roundw
        case rel => exact ⟨i + 1, by omega, by go_num, by simp only [addrUp]; rw [HB.out, HR.out], ⟨⟨_, (by repeat' (first | exact Below.refl _ _ | with_reducible assumption | omega | with_reducible refine below_put_fut ?_ ?_ _ | with_reducible refine below_to_put ?_ | with_reducible refine Below.alloc ?_ ?_ _ | with_reducible refine Below.fut ?_ ?_ _ | with_reducible refine Below.drew ?_ | with_reducible refine Below.setCell ?_ ?_ _ | with_reducible refine Below.atPut ?_ ?_ _ | (simp [go_sem]; done) | (simp [go_sem]; omega)))⟩, rfl⟩⟩
        case measure => simp [intOf]; omega
      · have HR := hid (shl_byte (addrUp a.data.toList i))
        have HB := hid (byteAt_out a i (by omega))
        go_wp2_with (first | (((with_reducible refine wp_region_fut_lit (by kernel_rfl) (by kernel_rfl) ?_)); (repeat (go_big_quiet_step ((first | fail)))); ((with_reducible refine wpQuiet_nil ?_)); rintro _ ⟨u, rfl⟩; (try (rw [Fut.put_self u (by first | assumption | (simp [go_sem]; done) | (simp [go_sem]; omega))]))))
        go_roundw
        case rel => exact ⟨i + 1, by omega, by go_num, by simp only [addrUp]; rw [HB.out, HR.out], ⟨⟨_, (by repeat' (first | exact Below.refl _ _ | with_reducible assumption | omega | with_reducible refine below_put_fut ?_ ?_ _ | with_reducible refine below_to_put ?_ | with_reducible refine Below.alloc ?_ ?_ _ | with_reducible refine Below.fut ?_ ?_ _ | with_reducible refine Below.drew ?_ | with_reducible refine Below.setCell ?_ ?_ _ | with_reducible refine Below.atPut ?_ ?_ _ | (simp [go_sem]; done) | (simp [go_sem]; omega)))⟩, rfl⟩⟩
        case measure => simp [intOf]; omega
    · obtain rfl : i = 8 := by omega
      clear hb
      have HR := hid hr
      clear hr
      go_wp2_with (first | (((with_reducible refine wp_region_fut_lit (by kernel_rfl) (by kernel_rfl) ?_)); (repeat (go_big_quiet_step ((first | fail)))); ((with_reducible refine wpQuiet_nil ?_)); rintro _ ⟨u, rfl⟩; (try (rw [Fut.put_self u (by first | assumption | (simp [go_sem]; done) | (simp [go_sem]; omega))]))))
      go_ret
      exact .mk (by rw [← HR.out]; rfl) (by repeat' (first | exact Below.refl _ _ | with_reducible assumption | omega | with_reducible refine below_put_fut ?_ ?_ _ | with_reducible refine below_to_put ?_ | with_reducible refine Below.alloc ?_ ?_ _ | with_reducible refine Below.fut ?_ ?_ _ | with_reducible refine Below.drew ?_ | with_reducible refine Below.setCell ?_ ?_ _ | with_reducible refine Below.atPut ?_ ?_ _ | (simp [go_sem]; done) | (simp [go_sem]; omega)))
end Go.Proofs.YthknenhcnpgkcaaGreat

/- Keys: plain laws on their order (a part of what the text on keys has). -/
namespace Go.Proofs.YthknenhcnpgkcaaGreat
open Go.RowKit
theorem less_irrefl : ∀ a : List UInt8, Op.bytesLess a a = false
  | [] => rfl
  | x :: a => by rw [less_cons, less_irrefl a]; simp
theorem less_total : ∀ a b : List UInt8, a ≠ b → Op.bytesLess b a = !Op.bytesLess a b
  | [], [], h => (h rfl).elim
  | [], _ :: _, _ => rfl
  | _ :: _, [], _ => rfl
  | x :: a, y :: b, h => by
    rw [less_cons, less_cons]
    rcases Nat.lt_trichotomy x.toNat y.toNat with c | c | c
    · have e1 : ¬ y.toNat < x.toNat := by omega
      have e2 : ¬ y.toNat = x.toNat := by omega
      simp [c, e1, e2]
    · have hxy : x = y := UInt8.toNat_inj.1 c
      subst hxy
      have := less_total a b (fun e => h (by rw [e]))
      simp [this]
    · have e1 : ¬ x.toNat < y.toNat := by omega
      have e2 : ¬ x.toNat = y.toNat := by omega
      simp [c, e1, e2]
theorem less_asymm (a b : List UInt8) (h : Op.bytesLess a b = true) : Op.bytesLess b a = false := by
  by_cases e : a = b
  · subst e; rw [less_irrefl] at h; cases h
  · rw [less_total a b e, h]; rfl
theorem less_trans : ∀ a b c : List UInt8, Op.bytesLess a b = true → Op.bytesLess b c = true → Op.bytesLess a c = true
  | _, [], _, h, _ => by rw [less_nil_right] at h; cases h
  | _, _ :: _, [], _, h => by rw [less_nil_right] at h; cases h
  | [], _ :: _, _ :: _, _, _ => rfl
  | x :: a, y :: b, z :: c, h1, h2 => by
    rw [less_cons] at *
    simp only [Bool.or_eq_true, Bool.and_eq_true, decide_eq_true_eq] at *
    rcases h1 with h1 | ⟨h1, h1'⟩ <;> rcases h2 with h2 | ⟨h2, h2'⟩
    · left; omega
    · left; omega
    · left; omega
    · right; exact ⟨by omega, less_trans a b c h1' h2'⟩
end Go.Proofs.YthknenhcnpgkcaaGreat

/- Sorted lists of items: putting in, taking away, looking up; a node's items and what is below it, woven. Plain lists, no program. -/
namespace Go.Proofs.YthknenhcnpgkcaaGreat
open Go.RowKit
abbrev It := ByteArray × ByteArray
/-- Key a comes ahead of key b. -/
def lt (a b : ByteArray) : Bool := Op.bytesLess a.data.toList b.data.toList
theorem ba_ext {a b : ByteArray} (h : a.data.toList = b.data.toList) : a = b := by
  cases a; cases b; simp at h; rw [h]
theorem lt_irrefl (a : ByteArray) : lt a a = false := less_irrefl _
theorem lt_trans {a b c : ByteArray} (h : lt a b = true) (k : lt b c = true) : lt a c = true := less_trans _ _ _ h k
theorem lt_asymm {a b : ByteArray} (h : lt a b = true) : lt b a = false := less_asymm _ _ h
theorem lt_total {a b : ByteArray} (h : a ≠ b) : lt b a = !lt a b := less_total _ _ (fun e => h (ba_ext e))
theorem lt_ne {a b : ByteArray} (h : lt a b = true) : a ≠ b := by rintro rfl; rw [lt_irrefl] at h; cases h
theorem lt_of_not {a b : ByteArray} (h : lt a b = false) (hne : a ≠ b) : lt b a = true := by rw [lt_total hne, h]; rfl
/-- Rising. -/
def Rises (xs : List It) : Prop := xs.Pairwise fun a b => lt a.1 b.1 = true
theorem Rises.append {xs ys : List It} : Rises (xs ++ ys) ↔ Rises xs ∧ Rises ys ∧ ∀ a ∈ xs, ∀ b ∈ ys, lt a.1 b.1 = true := List.pairwise_append
theorem Rises.cons {x : It} {ys : List It} : Rises (x :: ys) ↔ (∀ b ∈ ys, lt x.1 b.1 = true) ∧ Rises ys := List.pairwise_cons
theorem Rises.mid {A B : List It} {x : It} (h : Rises (A ++ x :: B)) : (∀ a ∈ A, lt a.1 x.1 = true) ∧ (∀ b ∈ B, lt x.1 b.1 = true) ∧ Rises A ∧ Rises B := by
  obtain ⟨h1, h2, h3⟩ := Rises.append.1 h
  obtain ⟨h4, h5⟩ := Rises.cons.1 h2
  exact ⟨fun a ha => h3 a ha x (by simp), h4, h1, h5⟩
/-- xs' is xs with it put in at its place; no such key was there. -/
def Ins (it : It) (xs xs' : List It) : Prop := ∃ A B, xs = A ++ B ∧ xs' = A ++ it :: B ∧ (∀ a ∈ A, lt a.1 it.1 = true) ∧ (∀ b ∈ B, lt it.1 b.1 = true)
theorem Ins.wrap {it : It} {xs xs' P Q : List It} (h : Ins it xs xs') (hP : ∀ a ∈ P, lt a.1 it.1 = true) (hQ : ∀ b ∈ Q, lt it.1 b.1 = true) : Ins it (P ++ (xs ++ Q)) (P ++ (xs' ++ Q)) := by
  obtain ⟨A, B, rfl, rfl, hA, hB⟩ := h
  refine ⟨P ++ A, B ++ Q, by simp, by simp, fun a ha => ?_, fun b hb => ?_⟩
  · rcases List.mem_append.1 ha with h | h
    · exact hP a h
    · exact hA a h
  · rcases List.mem_append.1 hb with h | h
    · exact hB b h
    · exact hQ b h
theorem Ins.rises {it : It} {xs xs' : List It} (h : Ins it xs xs') (hr : Rises xs) : Rises xs' := by
  obtain ⟨A, B, rfl, rfl, hA, hB⟩ := h
  obtain ⟨h1, h2, h3⟩ := Rises.append.1 hr
  refine Rises.append.2 ⟨h1, Rises.cons.2 ⟨hB, h2⟩, fun a ha b hb => ?_⟩
  rcases List.mem_cons.1 hb with rfl | hb
  · exact hA a ha
  · exact h3 a ha b hb
theorem Ins.length {it : It} {xs xs' : List It} (h : Ins it xs xs') : xs'.length = xs.length + 1 := by
  obtain ⟨A, B, rfl, rfl, _, _⟩ := h
  simp; omega
theorem Ins.mem {it : It} {xs xs' : List It} (h : Ins it xs xs') (x : It) : x ∈ xs' ↔ x = it ∨ x ∈ xs := by
  obtain ⟨A, B, rfl, rfl, _, _⟩ := h
  simp only [List.mem_append, List.mem_cons]
  constructor <;> rintro (h | h | h) <;> simp [h]
/-- Rising lists with the same members are the same. -/
theorem Rises.ext : ∀ {xs ys : List It}, Rises xs → Rises ys → (∀ x, x ∈ xs ↔ x ∈ ys) → xs = ys
  | [], [], _, _, _ => rfl
  | [], y :: ys, _, _, h => by have := (h y).2 (by simp); cases this
  | x :: xs, [], _, _, h => by have := (h x).1 (by simp); cases this
  | x :: xs, y :: ys, hx, hy, h => by
    obtain ⟨hx1, hx2⟩ := Rises.cons.1 hx
    obtain ⟨hy1, hy2⟩ := Rises.cons.1 hy
    have e : x = y := by
      rcases List.mem_cons.1 ((h x).1 (by simp)) with e | e
      · exact e
      · rcases List.mem_cons.1 ((h y).2 (by simp)) with e2 | e2
        · exact e2.symm
        · have a := hy1 x e
          have b := hx1 y e2
          rw [lt_asymm a] at b; cases b
    subst e
    rw [Rises.ext hx2 hy2 fun z => ?_]
    constructor
    · intro hz
      rcases List.mem_cons.1 ((h z).1 (by simp [hz])) with e | e
      · subst e; have := hx1 z hz; rw [lt_irrefl] at this; cases this
      · exact e
    · intro hz
      rcases List.mem_cons.1 ((h z).2 (by simp [hz])) with e | e
      · subst e; have := hy1 z hz; rw [lt_irrefl] at this; cases this
      · exact e
theorem Rises.key_inj {xs : List It} (h : Rises xs) {a b : It} (ha : a ∈ xs) (hb : b ∈ xs) (e : a.1 = b.1) : a = b := by
  obtain ⟨A, B, rfl⟩ := List.append_of_mem ha
  obtain ⟨h1, h2, _, _⟩ := h.mid
  rcases List.mem_append.1 hb with hb | hb
  · have := lt_ne (h1 b hb); exact absurd e.symm this
  · rcases List.mem_cons.1 hb with rfl | hb
    · rfl
    · exact absurd e (lt_ne (h2 b hb))
/-- Where a key is, or would be: the place, and whether it is there. -/
def placeOf (k : ByteArray) : List It → Nat × Bool
  | [] => (0, false)
  | i :: r => if i.1 = k then (0, true) else if lt k i.1 then (0, false) else ((placeOf k r).1 + 1, (placeOf k r).2)
theorem placeOf_split (k : ByteArray) : ∀ its : List It, Rises its → ∃ A B, its = A ++ B ∧ A.length = (placeOf k its).1 ∧ (∀ a ∈ A, lt a.1 k = true) ∧
    (((placeOf k its).2 = true ∧ ∃ v R, B = (k, v) :: R) ∨ ((placeOf k its).2 = false ∧ ∀ b ∈ B, lt k b.1 = true))
  | [], _ => ⟨[], [], rfl, rfl, by simp, .inr ⟨rfl, by simp⟩⟩
  | i :: r, h => by
    obtain ⟨h1, h2⟩ := Rises.cons.1 h
    by_cases e : i.1 = k
    · have hp : placeOf k (i :: r) = (0, true) := by rw [placeOf, if_pos e]
      exact ⟨[], i :: r, rfl, by rw [hp]; rfl, by simp, .inl ⟨by rw [hp], i.2, r, by rw [← e]⟩⟩
    · by_cases c : lt k i.1 = true
      · have hp : placeOf k (i :: r) = (0, false) := by rw [placeOf, if_neg e, if_pos c]
        refine ⟨[], i :: r, rfl, by rw [hp]; rfl, by simp, .inr ⟨by rw [hp], fun b hb => ?_⟩⟩
        rcases List.mem_cons.1 hb with rfl | hb
        · exact c
        · exact lt_trans c (h1 b hb)
      · have hp : placeOf k (i :: r) = ((placeOf k r).1 + 1, (placeOf k r).2) := by rw [placeOf, if_neg e, if_neg c]
        obtain ⟨A, B, rfl, hl, hA, hB⟩ := placeOf_split k r h2
        refine ⟨i :: A, B, rfl, by rw [hp]; simp [hl], fun a ha => ?_, by rw [hp]; exact hB⟩
        rcases List.mem_cons.1 ha with rfl | ha
        · exact lt_of_not (by simpa using c) (fun e' => e e'.symm)
        · exact hA a ha
theorem placeOf_le (k : ByteArray) : ∀ its : List It, (placeOf k its).1 ≤ its.length
  | [] => Nat.le_refl _
  | i :: r => by
    have := placeOf_le k r
    rw [placeOf]; split
    · simp
    · split
      · simp
      · simp; omega
/-- A child's part ahead of a place, behind it: X tells of each child what is in it. -/
def wpre {α : Type} (X : α → List It) : List α → List It → List It
  | q :: L, i :: A => X q ++ i :: wpre X L A
  | _, _ => []
def wpost {α : Type} (X : α → List It) : List It → List α → List It
  | i :: B, q :: R => i :: (X q ++ wpost X B R)
  | _, _ => []
/-- All that lies in a node and below it. -/
def weave {α : Type} (X : α → List It) : List α → List It → List It
  | q :: L, i :: A => X q ++ i :: weave X L A
  | [q], [] => X q
  | _, _ => []
theorem weave_split {α : Type} (X : α → List It) : ∀ (L : List α) (A : List It) (q : α) (R : List α) (B : List It), L.length = A.length → R.length = B.length → weave X (L ++ q :: R) (A ++ B) = wpre X L A ++ (X q ++ wpost X B R)
  | [], [], q, [], [], _, _ => by simp [weave, wpre, wpost]
  | [], [], q, r :: R, b :: B, _, h => by
    have := weave_split X [] [] r R B rfl (by simpa using h)
    simp only [List.nil_append, wpre] at this
    simp [weave, wpre, wpost, this]
  | p :: L, a :: A, q, R, B, h, h2 => by
    have := weave_split X L A q R B (by simpa using h) h2
    simp [weave, wpre, this]
  | [], [], _, [], _ :: _, _, h => by cases h
  | [], [], _, _ :: _, [], _, h => by cases h
  | [], _ :: _, _, _, _, h, _ => by cases h
  | _ :: _, [], _, _, _, h, _ => by cases h
theorem wpre_less {α : Type} (X : α → List It) (k : ByteArray) : ∀ (L : List α) (A : List It), L.length = A.length → Rises (wpre X L A) → (∀ a ∈ A, lt a.1 k = true) → ∀ x ∈ wpre X L A, lt x.1 k = true
  | [], _, _, _, _, x, hx => by simp [wpre] at hx
  | _ :: _, [], _, _, _, x, hx => by simp [wpre] at hx
  | q :: L, i :: A, hl, hr, hA, x, hx => by
    simp only [wpre] at hr hx
    obtain ⟨h1, h2, h3, h4⟩ := hr.mid
    have hi := hA i (by simp)
    rcases List.mem_append.1 hx with hx | hx
    · exact lt_trans (h1 x hx) hi
    · rcases List.mem_cons.1 hx with rfl | hx
      · exact hi
      · exact wpre_less X k L A (by simpa using hl) h4 (fun a ha => hA a (by simp [ha])) x hx
theorem wpost_more {α : Type} (X : α → List It) (k : ByteArray) : ∀ (B : List It) (R : List α), Rises (wpost X B R) → (∀ b ∈ B, lt k b.1 = true) → ∀ x ∈ wpost X B R, lt k x.1 = true
  | [], _, _, _, x, hx => by simp [wpost] at hx
  | _ :: _, [], _, _, x, hx => by simp [wpost] at hx
  | i :: B, q :: R, hr, hB, x, hx => by
    simp only [wpost] at hr hx
    obtain ⟨h1, _⟩ := Rises.cons.1 hr
    have hi := hB i (by simp)
    rcases List.mem_cons.1 hx with rfl | hx
    · exact hi
    · exact lt_trans hi (h1 x hx)
theorem weave_items {α : Type} (X : α → List It) : ∀ (L : List α) (A : List It), L.length = A.length + 1 → List.Sublist A (weave X L A)
  | [], _, h => by simp at h
  | [q], [], _ => by simp
  | q :: r :: L, [], h => by simp at h
  | q :: L, i :: A, h => by
    simp only [weave]
    have := weave_items X L A (by simpa using h)
    exact (List.Sublist.cons_cons i this).trans (List.sublist_append_right _ _)
theorem Rises.sub {xs ys : List It} (h : Rises ys) (hs : List.Sublist xs ys) : Rises xs := List.Pairwise.sublist hs h
/-- The value of a key. -/
def valueOf (k : ByteArray) (xs : List It) : Option ByteArray := (xs.find? (fun i => decide (i.1 = k))).map (·.2)
theorem valueOf_none {k : ByteArray} {xs : List It} (h : ∀ x ∈ xs, x.1 ≠ k) : valueOf k xs = none := by
  unfold valueOf
  rw [List.find?_eq_none.2 (by simpa using h)]; rfl
theorem valueOf_skip {k : ByteArray} {P xs : List It} (h : ∀ x ∈ P, x.1 ≠ k) : valueOf k (P ++ xs) = valueOf k xs := by
  unfold valueOf
  rw [List.find?_append, List.find?_eq_none.2 (by simpa using h)]; rfl
theorem valueOf_head {k v : ByteArray} {xs : List It} : valueOf k ((k, v) :: xs) = some v := by simp [valueOf]
theorem valueOf_drop {k : ByteArray} {xs Q : List It} (h : ∀ x ∈ Q, x.1 ≠ k) : valueOf k (xs ++ Q) = valueOf k xs := by
  unfold valueOf
  rw [List.find?_append, List.find?_eq_none.2 (show ∀ x ∈ Q, ¬ decide (x.1 = k) = true by simpa using h)]
  cases List.find? (fun i : It => decide (i.1 = k)) xs <;> rfl
theorem valueOf_some {k v : ByteArray} {xs : List It} (h : valueOf k xs = some v) : (k, v) ∈ xs := by
  unfold valueOf at h
  cases e : xs.find? (fun i => decide (i.1 = k)) with
  | none => rw [e] at h; cases h
  | some i =>
    rw [e] at h
    have h1 := List.find?_some e
    have h2 := List.mem_of_find?_eq_some e
    simp at h h1
    have : i = (k, v) := Prod.ext h1 h
    rw [← this]; exact h2
theorem valueOf_mem {k v : ByteArray} {xs : List It} (hr : Rises xs) (h : (k, v) ∈ xs) : valueOf k xs = some v := by
  obtain ⟨A, B, rfl⟩ := List.append_of_mem h
  obtain ⟨h1, _, _, _⟩ := hr.mid
  rw [valueOf_skip (fun x hx => lt_ne (h1 x hx)), valueOf_head]
end Go.Proofs.YthknenhcnpgkcaaGreat

/- Items as cells. -/
namespace Go.Proofs.YthknenhcnpgkcaaGreat
open Go.RowKit
def flat : List It → List Value
  | [] => []
  | i :: r => .string i.1 :: .string i.2 :: flat r
theorem flat_append : ∀ a b : List It, flat (a ++ b) = flat a ++ flat b
  | [], _ => rfl
  | i :: a, b => by simp [flat, flat_append a b]
theorem flat_length : ∀ a : List It, (flat a).length = a.length * 2
  | [] => rfl
  | i :: a => by simp [flat, flat_length a]; omega
theorem flat_one : ∀ (a : List It), ∀ u ∈ flat a, u.oneCell' = true
  | [], u, h => by simp [flat] at h
  | i :: a, u, h => by
    rcases List.mem_cons.1 h with rfl | h
    · rfl
    · rcases List.mem_cons.1 h with rfl | h
      · rfl
      · exact flat_one a u h
theorem flat_at : ∀ (a : List It) (i : Nat) (x : It), a[i]? = some x → (flat a)[2 * i]? = some (.string x.1) ∧ (flat a)[2 * i + 1]? = some (.string x.2)
  | y :: a, 0, x, h => by simp at h; subst h; simp [flat]
  | y :: a, i + 1, x, h => by
    have := flat_at a i x (by simpa using h)
    simp only [flat]
    rw [show 2 * (i + 1) = 2 * i + 1 + 1 from by omega, show 2 * i + 1 + 1 + 1 = 2 * i + 1 + 1 + 1 from rfl]
    simpa using this
theorem flat_take : ∀ (a : List It) (i : Nat), (flat a).take (i * 2) = flat (a.take i)
  | _, 0 => by simp [flat]
  | [], i + 1 => by simp [flat]
  | y :: a, i + 1 => by
    rw [show (i + 1) * 2 = i * 2 + 1 + 1 from by omega]
    simp [flat, flat_take a i]
theorem flat_drop : ∀ (a : List It) (i : Nat), (flat a).drop (i * 2) = flat (a.drop i)
  | _, 0 => by simp
  | [], i + 1 => by simp [flat]
  | y :: a, i + 1 => by
    rw [show (i + 1) * 2 = i * 2 + 1 + 1 from by omega]
    simp [flat, flat_drop a i]
theorem flat_set : ∀ (a : List It) (i : Nat) (x : It), i < a.length → flat (a.set i x) = ((flat a).set (2 * i) (.string x.1)).set (2 * i + 1) (.string x.2)
  | y :: a, 0, x, _ => by simp [flat]
  | y :: a, i + 1, x, h => by
    rw [show 2 * (i + 1) = 2 * i + 1 + 1 from by omega]
    simp [flat, flat_set a i x (by simpa using h)]
end Go.Proofs.YthknenhcnpgkcaaGreat

/- The contract of SameItems: equal lists. -/
namespace Go.Proofs.YthknenhcnpgkcaaGreat
open Go.RowKit
set_option linter.unusedVariables false
theorem Src.slice_of {W : World} {size n : Nat} {v : Value} {xs : List Value} (h : Src W size v n xs) : ∃ a c, v = .slice a n c := by
  rcases h.2.2 with ⟨rfl, rfl⟩ | ⟨a, c, rfl, _⟩
  · exact ⟨_, _, rfl⟩
  · exact ⟨_, _, rfl⟩
/-- The cells of the i-th element of items. -/
theorem Src.at_ {W : World} {its : List It} {ao : Option Addr} {c : Nat} (h : Src W 2 (.slice ao its.length c) its.length (flat its)) (i : Nat) (x : It) (hx : its[i]? = some x) :
    ∃ b o, ao = some ⟨b, o, none⟩ ∧ W.cell? ⟨b, o + i * 2, none⟩ = some (.string x.1) ∧ W.cell? ⟨b, o + (i * 2 + 1), none⟩ = some (.string x.2) ∧ W.cell? ⟨b, o + i * 2 + 1, none⟩ = some (.string x.2) := by
  have hi : i < its.length := (List.getElem?_eq_some_iff.1 hx).1
  have hf := flat_at its i x hx
  rcases h.2.2 with ⟨_, h0⟩ | ⟨⟨b, o, e⟩, c', hv, hc⟩
  · omega
  · cases hv
    have hs : e = none := by
      have h0 : 0 < (flat its).length := by rw [flat_length]; omega
      have := World.cell?_spot (hc 0 _ (List.getElem?_eq_getElem h0))
      simpa [Addr.add] using this
    subst hs
    have e1 := hc _ _ hf.1
    have e2 := hc _ _ hf.2
    rw [Addr.add_lit] at e1 e2
    refine ⟨b, o, rfl, ?_, ?_, ?_⟩
    · rw [Nat.mul_comm]; exact e1
    · rw [Nat.mul_comm]; exact e2
    · rw [Nat.mul_comm, Nat.add_assoc]; exact e2
set_option maxRecDepth 100000 in
set_option maxHeartbeats 4000000 in
theorem same_is (W : World) (va vb : Value) (its : List It) (n : Nat) (hl : its.length = n) (hn : n ≤ 100000) (ha : Src W 2 va n (flat its)) (hb : Src W 2 vb n (flat its)) :
    Calls Tryz.prog 12 #[va, vb] W (Makes (.bool true) W) := by
  obtain ⟨aa, ca, rfl⟩ := ha.slice_of
  obtain ⟨ab, cb, rfl⟩ := hb.slice_of
  have HA := hid ha
  have HB := hid hb
  have HL := hid hl
  clear ha hb hl
  go_enter Tryz.func12, Tryz.ntmps12
  go_wp2_with fail
  go_loopw [5] (fun x wr => ∃ i : Nat, i ≤ n ∧ x = .int .i64 i ∧ ∃ u : Fut W, wr = u.val) (fun x _ => n - (intOf x).toNat)
  case atStart => exact ⟨0, Nat.zero_le _, rfl, ⟨⟨_, (by repeat' (first | exact Below.refl _ _ | with_reducible assumption | omega | with_reducible refine below_put_fut ?_ ?_ _ | with_reducible refine below_to_put ?_ | with_reducible refine Below.alloc ?_ ?_ _ | with_reducible refine Below.fut ?_ ?_ _ | with_reducible refine Below.drew ?_ | with_reducible refine Below.setCell ?_ ?_ _ | with_reducible refine Below.atPut ?_ ?_ _ | (simp [go_sem]; done) | (simp [go_sem]; omega)))⟩, rfl⟩⟩
  case round =>
    obtain ⟨i, hi, rfl, u, rfl⟩ := hrel
    by_cases hlt : i < n
    · obtain ⟨x, hx⟩ : ∃ x, its[i]? = some x := ⟨its[i]'(by rw [HL.out]; exact hlt), List.getElem?_eq_getElem _⟩
      obtain ⟨b1, o1, rfl, p1, p2, p3⟩ := (show Src W 2 (.slice aa its.length ca) its.length (flat its) by rw [HL.out]; exact HA.out).at_ i x hx
      obtain ⟨b2, o2, rfl, r1, r2, r3⟩ := (show Src W 2 (.slice ab its.length cb) its.length (flat its) by rw [HL.out]; exact HB.out).at_ i x hx
      clear hx
      obtain ⟨s, t⟩ := x
      simp only at p1 p2 p3 r1 r2 r3
      have l1 : b1 < W.heap.size := World.block_lt_of_cell? _ _ p1
      have l2 : b2 < W.heap.size := World.block_lt_of_cell? _ _ r1
      go_wp2_with (first | (((with_reducible refine wp_region_fut_lit (by kernel_rfl) (by kernel_rfl) ?_)); (repeat (go_big_quiet_step ((first | fail)))); ((with_reducible refine wpQuiet_nil ?_)); rintro _ ⟨u, rfl⟩; (try (rw [Fut.put_self u (by first | assumption | (simp [go_sem]; done) | (simp [go_sem]; omega))]))))
      go_roundw
      case rel => exact ⟨i + 1, by omega, by go_num, ⟨⟨_, (by repeat' (first | exact Below.refl _ _ | with_reducible assumption | omega | with_reducible refine below_put_fut ?_ ?_ _ | with_reducible refine below_to_put ?_ | with_reducible refine Below.alloc ?_ ?_ _ | with_reducible refine Below.fut ?_ ?_ _ | with_reducible refine Below.drew ?_ | with_reducible refine Below.setCell ?_ ?_ _ | with_reducible refine Below.atPut ?_ ?_ _ | (simp [go_sem]; done) | (simp [go_sem]; omega)))⟩, rfl⟩⟩
      case measure => simp [intOf]; omega
    · go_wp2_with (first | (((with_reducible refine wp_region_fut_lit (by kernel_rfl) (by kernel_rfl) ?_)); (repeat (go_big_quiet_step ((first | fail)))); ((with_reducible refine wpQuiet_nil ?_)); rintro _ ⟨u, rfl⟩; (try (rw [Fut.put_self u (by first | assumption | (simp [go_sem]; done) | (simp [go_sem]; omega))]))))
      go_ret; exact .mk (by first | rfl | (simp; done) | (simp; omega)) (by repeat' (first | exact Below.refl _ _ | with_reducible assumption | omega | with_reducible refine below_put_fut ?_ ?_ _ | with_reducible refine below_to_put ?_ | with_reducible refine Below.alloc ?_ ?_ _ | with_reducible refine Below.fut ?_ ?_ _ | with_reducible refine Below.drew ?_ | with_reducible refine Below.setCell ?_ ?_ _ | with_reducible refine Below.atPut ?_ ?_ _ | (simp [go_sem]; done) | (simp [go_sem]; omega)))
end Go.Proofs.YthknenhcnpgkcaaGreat
