import Derived.Test.YthknenhcnpgkcaaL
import Derived.Deep.AppendLies
/- A world in which one block holds something else: methods through a pointer. -/
namespace Go.Proofs.Ythknenhcnpgkcaa
open Go.RowKit
/-- Block g holds o. -/
def put (w : World) (g : Nat) (o : Obj) : World := { w with heap := w.heap.setIfInBounds g o }
@[go_sem] theorem size_put (w : World) (g : Nat) (o : Obj) : (put w g o).heap.size = w.heap.size := by simp [put]
theorem heap_put_at (w : World) (g : Nat) (o : Obj) (h : g < w.heap.size) : (put w g o).heap[g]? = some o := by simp [put, h]
theorem heap_put_other (w : World) (g k : Nat) (o : Obj) (h : k ≠ g) : (put w g o).heap[k]? = w.heap[k]? := by
  simp only [put]; rw [Array.getElem?_setIfInBounds_ne (by omega)]
theorem put_self {w : World} {g : Nat} {o : Obj} (h : w.heap[g]? = some o) : put w g o = w := by
  unfold put
  have : w.heap.setIfInBounds g o = w.heap := by
    apply Array.ext_getElem?
    intro i
    by_cases e : i = g
    · subst e
      have hl := (Array.getElem?_eq_some_iff.1 h).1
      rw [Array.getElem?_setIfInBounds_self_of_lt hl, h]
    · rw [Array.getElem?_setIfInBounds_ne (by omega)]
  rw [this]
@[go_sem] theorem put_put (w : World) (g : Nat) (o o' : Obj) : put (put w g o) g o' = put w g o' := by
  unfold put; simp
@[go_sem] theorem put_drew (w : World) (g : Nat) (o : Obj) : put w.drew g o = (put w g o).drew := rfl
@[go_sem] theorem cell_put (w : World) (g b i : Nat) (cs : Array Value) (t : TypeId) (fr : Nat × Nat) : (put w g (.cells cs t fr)).cell? ⟨b, i, none⟩ =
    if (⟨b, 0, none⟩ : Addr) = ⟨g, 0, none⟩ then (if g < w.heap.size then cs[i]? else none) else w.cell? ⟨b, i, none⟩ := by
  unfold World.cell?
  by_cases h : (⟨b, 0, none⟩ : Addr) = ⟨g, 0, none⟩
  · rw [if_pos h]
    obtain rfl : b = g := congrArg Addr.block h
    by_cases hl : b < w.heap.size
    · rw [if_pos hl]; dsimp only; rw [heap_put_at _ _ _ hl]; rfl
    · rw [if_neg hl]; dsimp only
      rw [Array.getElem?_eq_none (by rw [size_put]; omega)]
  · rw [if_neg h]
    dsimp only
    rw [heap_put_other _ _ _ _ (fun e => h (by rw [e]))]
@[go_sem] theorem frozen_put (w : World) (g b i : Nat) (cs : Array Value) (t : TypeId) : (put w g (.cells cs t)).frozen? ⟨b, i, none⟩ =
    if (⟨b, 0, none⟩ : Addr) = ⟨g, 0, none⟩ then false else w.frozen? ⟨b, i, none⟩ := by
  unfold World.frozen?
  by_cases h : (⟨b, 0, none⟩ : Addr) = ⟨g, 0, none⟩
  · rw [if_pos h]
    obtain rfl : b = g := congrArg Addr.block h
    by_cases hl : b < w.heap.size
    · dsimp only; rw [heap_put_at _ _ _ hl]; simp
    · dsimp only
      rw [Array.getElem?_eq_none (by rw [size_put]; omega)]
  · rw [if_neg h]
    dsimp only
    rw [heap_put_other _ _ _ _ (fun e => h (by rw [e]))]
@[go_sem high] theorem setCell_put (w : World) (g i : Nat) (cs : Array Value) (t : TypeId) (fr : Nat × Nat) (v : Value) : (put w g (.cells cs t fr)).setCell ⟨g, i, none⟩ v = put w g (.cells (cs.setIfInBounds i v) t fr) := by
  unfold World.setCell put
  congr 1
  apply Array.ext_getElem?
  intro k
  simp only [Array.getElem?_modify]
  by_cases e : k = g
  · subst e
    by_cases hl : k < w.heap.size
    · rw [Array.getElem?_setIfInBounds_self_of_lt hl, Array.getElem?_setIfInBounds_self_of_lt hl]; simp
    · rw [Array.getElem?_eq_none (by simp; omega), Array.getElem?_eq_none (by simp; omega)]; simp
  · rw [if_neg (by omega), Array.getElem?_setIfInBounds_ne (by omega), Array.getElem?_setIfInBounds_ne (by omega)]
theorem Below.atPut {B : Nat} {a w : World} (h : Below B a w) {g : Nat} (hg : B ≤ g) (o : Obj) : Below B a (put w g o) :=
  h.trans ⟨rfl, rfl, rfl, by rw [size_put]; exact Nat.le_refl _, fun k hk => heap_put_other _ _ _ _ (by omega)⟩
/-- A later world of one in which block g holds o: there block g holds o. -/
theorem Fut.put_self {w : World} {g : Nat} {o : Obj} (u : Fut (put w g o)) (h : g < w.heap.size) : u.val = put u.val g o :=
  (Ythknenhcnpgkcaa.put_self (by rw [u.heap g (by rw [size_put]; exact h), heap_put_at _ _ _ h])).symm
/-- What a call that puts o into block g, and else only makes new memory, says. -/
def Puts (v : Value) (w : World) (g : Nat) (o : Obj) (e : Ending) (w' : World) : Prop := e = .returned v ∧ ∃ u : Fut (put w g o), w' = put u.val g o
theorem Puts.mk {v : Value} {w w' : World} {g : Nat} {o : Obj} {e : Ending} (hg : g < w.heap.size) (he : e = .returned v) (h : Below w.heap.size (put w g o) w') : Puts v w g o e w' := by
  have h' : Below (put w g o).heap.size (put w g o) w' := by rw [size_put]; exact h
  exact ⟨he, ⟨⟨w', h'⟩, Fut.put_self ⟨w', h'⟩ hg⟩⟩
/-- Into a world whose block g is put. -/
theorem below_to_put {w w' : World} {g : Nat} {o : Obj} (h : Below w.heap.size w w') : Below w.heap.size (put w g o) (put w' g o) :=
  ⟨h.os, h.tape, h.output, by rw [size_put, size_put]; exact h.size, fun k hk => by
    by_cases e : k = g
    · subst e
      rw [heap_put_at _ _ _ hk, heap_put_at _ _ _ (Nat.lt_of_lt_of_le hk h.size)]
    · rw [heap_put_other _ _ _ _ e, heap_put_other _ _ _ _ e]; exact h.block k hk⟩
@[go_sem] theorem setCell_put_other (w : World) (g b i : Nat) (o : Obj) (v : Value) (h : ((⟨b, 0, none⟩ : Addr) = ⟨g, 0, none⟩) = False) : (put w g o).setCell ⟨b, i, none⟩ v = put (w.setCell ⟨b, i, none⟩ v) g o := by
  have hne : b ≠ g := fun e => by rw [e] at h; exact h.mp rfl
  unfold World.setCell put
  congr 1
  apply Array.ext_getElem?
  intro k
  simp only [Array.getElem?_modify]
  by_cases e : k = b
  · subst e
    rw [if_pos rfl, Array.getElem?_setIfInBounds_ne (by omega), Array.getElem?_setIfInBounds_ne (by omega), Array.getElem?_modify, if_pos rfl]
  · rw [if_neg (by omega)]
    by_cases e' : k = g
    · subst e'
      by_cases hl : k < w.heap.size
      · rw [Array.getElem?_setIfInBounds_self_of_lt hl, Array.getElem?_setIfInBounds_self_of_lt (by simpa using hl)]
      · rw [Array.getElem?_eq_none (by simp; omega), Array.getElem?_eq_none (by simp; omega)]
    · rw [Array.getElem?_setIfInBounds_ne (by omega), Array.getElem?_setIfInBounds_ne (by omega), Array.getElem?_modify, if_neg (by omega)]
/-- Row r of world W holds a slice of n elements of 'size' cells, xs; cur: all its cells. -/
structure RowAt (W : World) (r : Nat) (e : TypeId) (size n cap : Nat) (xs cur : List Value) : Prop where
  heap : W.heap[r]? = some (.cells cur.toArray e)
  le : n ≤ cap
  max : cap ≤ maxLen
  len : cur.length = cap * size
  take : cur.take (n * size) = xs
theorem RowAt.lt {W : World} {r : Nat} {e : TypeId} {size n cap : Nat} {xs cur : List Value} (h : RowAt W r e size n cap xs cur) : r < W.heap.size := (Array.getElem?_eq_some_iff.1 h.heap).1
theorem RowAt.xlen {W : World} {r : Nat} {e : TypeId} {size n cap : Nat} {xs cur : List Value} (h : RowAt W r e size n cap xs cur) : xs.length = n * size := by
  rw [← h.take, List.length_take, h.len]; exact Nat.min_eq_left (Nat.mul_le_mul_right _ h.le)
theorem RowAt.owns {W : World} {r : Nat} {e : TypeId} {size n cap : Nat} {xs cur : List Value} (h : RowAt W r e size n cap xs cur) : W.ownsRow 0 e size (.slice (some ⟨r, 0, none⟩) n cap) n xs :=
  ⟨h.xlen, .inr ⟨r, cap, cur.toArray, rfl, Nat.zero_le _, h.heap, h.le, h.max, by simpa using h.len, by simpa using h.take⟩⟩
/-- A slice of the program's own: nil, or a row. -/
def Own (W : World) (r : Nat) (e : TypeId) (size : Nat) (v : Value) (n : Nat) (xs : List Value) : Prop :=
  (v = .slice none 0 0 ∧ n = 0 ∧ xs = []) ∨ ∃ cap cur, v = .slice (some ⟨r, 0, none⟩) n cap ∧ RowAt W r e size n cap xs cur
theorem append_put {P : Program} (W : World) (t ty e : TypeId) (i : TypeInfo) (z : Value) (size bytes : Nat) (ht : P.underlying t = some (.slice e)) (hi : P.info? e = some i) (hz : i.zero = some z)
    (hsize : i.size = size) (hby : i.bytes = bytes) (hzs : z.cells.size = size) (hsz : 0 < size)
    (r : Nat) (v : Value) (n : Nat) (xs : List Value) (hown : Own W r e size v n xs)
    (a : Addr) (m c : Nat) (news : List Value) (hl : news.length = m * size) (hnews : ∀ j u, news[j]? = some u → W.cell? (a.add j) = some u) (h1 : ∀ u ∈ news, u.oneCell' = true)
    (hm : 0 < m) (h63 : n + m ≤ maxLen) (hbytes : (n + m) * bytes ≤ 140737488355328) (g : Nat) (C : Obj) (hg : W.heap[g]? = some C) (hgr : g ≠ r) :
    ∃ (R0 : Obj) (u : Fut (put W r R0)) (r' cap' : Nat) (cur' : List Value),
      (Builtin.append_ #[t, t] ty #[v, .slice (some a) m c]).run P W = .ok (.slice (some ⟨r', 0, none⟩) (n + m) cap') (put (put u.val g C) r' (.cells cur'.toArray e)) ∧
      RowAt (put (put u.val g C) r' (.cells cur'.toArray e)) r' e size (n + m) cap' (xs ++ news) cur' ∧ r' ≠ g ∧ r' < u.val.heap.size ∧ (r' = r ∨ W.heap.size ≤ r') := by
  have hgl : g < W.heap.size := (Array.getElem?_eq_some_iff.1 hg).1
  have hown' : W.ownsRow 0 e size v n xs := by
    rcases hown with ⟨rfl, rfl, rfl⟩ | ⟨cap, cur, rfl, h⟩
    · exact World.ownsRow_nil W 0 e size
    · exact h.owns
  have hvo : v.ownBlock = none ∨ v.ownBlock = some r := by
    rcases hown with ⟨rfl, rfl, rfl⟩ | ⟨cap, cur, rfl, h⟩
    · exact .inl rfl
    · exact .inr rfl
  obtain ⟨r', cap', w', hrun, ho, hgrow, hwhere, hlt⟩ := run_append_lies (P := P) W t ty 0 e i z size bytes ht hi hz hsize hby hzs hsz v n xs hown' a m c news hl hnews h1 hm h63 hbytes (Nat.zero_le _) W.heap.size rfl
  have hr' : r' = r ∨ W.heap.size ≤ r' := by
    rcases hwhere with h | h
    · rcases hvo with h' | h'
      · rw [h'] at h; cases h
      · rw [h'] at h; left; exact (Option.some.inj h).symm
    · right; omega
  have hne : r' ≠ g := by rcases hr' with h | h <;> omega
  obtain ⟨hxl, hcase⟩ := ho
  rcases hcase with ⟨h, _⟩ | ⟨g1, cap1, cur1, hv, _, hh, hle, hmx, hcs, htk⟩
  · cases h
  obtain ⟨rfl, rfl⟩ : r' = g1 ∧ cap' = cap1 := by
    injection hv with h2 _ h3
    injection h2 with h2
    exact ⟨congrArg Addr.block h2, h3⟩
  have hwg : w'.heap[g]? = some C := by
    rw [hgrow.block g hgl (by rcases hvo with h | h <;> rw [h] <;> simp [hgr])]; exact hg
  have hw : put (put w' g C) r' (.cells cur1.toList.toArray e) = w' := by
    rw [put_self hwg]; exact put_self (by simpa using hh)
  obtain ⟨R0, hR0⟩ : ∃ R0, r < W.heap.size → w'.heap[r]? = some R0 := by
    by_cases h : r < W.heap.size
    · have : r < w'.heap.size := Nat.lt_of_lt_of_le h hgrow.size
      exact ⟨w'.heap[r], fun _ => Array.getElem?_eq_getElem this⟩
    · exact ⟨default, fun h' => absurd h' h⟩
  have hb : Below (put W r R0).heap.size (put W r R0) w' := ⟨hgrow.os, hgrow.tape, hgrow.output, by rw [size_put]; exact hgrow.size, fun k hk => by
    rw [size_put] at hk
    by_cases e' : k = r
    · subst e'; rw [hR0 hk, heap_put_at _ _ _ hk]
    · rw [heap_put_other _ _ _ _ e']
      exact hgrow.block k hk (by rcases hvo with h | h <;> rw [h] <;> simp [e'])⟩
  refine ⟨R0, ⟨w', hb⟩, r', cap', cur1.toList, ?_, ?_, hne, hlt, hr'⟩
  · show _ = Result.ok _ (put (put w' g C) r' (.cells cur1.toList.toArray e))
    rw [hw]; exact hrun
  · show RowAt (put (put w' g C) r' (.cells cur1.toList.toArray e)) r' e size (n + m) cap' (xs ++ news) cur1.toList
    rw [hw]
    exact ⟨by simpa using hh, hle, hmx, by simpa using hcs, htk⟩
/-- What a call that puts o into block g and makes one block L of its own, which it hands back, says. -/
def PutsNew (mkv : Nat → Value) (w : World) (g : Nat) (o L : Obj) (e : Ending) (w' : World) : Prop :=
  ∃ (u : Fut (put w g o)) (u2 : Fut (u.val.alloc L)), e = .returned (mkv u.val.heap.size) ∧ w' = put u2.val g o
theorem PutsNew.mk {mkv : Nat → Value} {w w' : World} (W0 : World) {g b : Nat} {o L : Obj} {e : Ending} (hg : g < w.heap.size) (he : e = .returned (mkv b)) (hb : b = W0.heap.size) (h1 : Below (W0.heap.size + 1) (W0.alloc L) w') (h0 : Below w.heap.size (put w g o) W0) : PutsNew mkv w g o L e w' := by
  have h0' : Below (put w g o).heap.size (put w g o) W0 := by rw [size_put]; exact h0
  have h1' : Below (W0.alloc L).heap.size (W0.alloc L) w' := by rw [World.size_alloc]; exact h1
  have hs := h0.size
  rw [size_put] at hs
  subst hb
  refine ⟨⟨W0, h0'⟩, ⟨w', h1'⟩, he, (put_self ?_).symm⟩
  show w'.heap[g]? = some o
  rw [h1.block g (by omega), Below.heap_alloc _ _ _ (by omega), h0.block g hg, heap_put_at _ _ _ hg]
end Go.Proofs.Ythknenhcnpgkcaa
