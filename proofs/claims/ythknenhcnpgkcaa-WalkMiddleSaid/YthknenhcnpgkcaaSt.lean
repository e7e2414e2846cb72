import Derived.Test.YthknenhcnpgkcaaPut
import Derived.Deep.RegionLaw
/- An object of the program's own: one block that holds a struct, and a row of its own; as a fact about a world that is not looked into. -/
namespace Go.Proofs.Ythknenhcnpgkcaa
open Go.RowKit
@[go_sem] theorem alloc_put (w : World) (g : Nat) (o x : Obj) (h : g < w.heap.size) : (put w g o).alloc x = put (w.alloc x) g o := by
  unfold put World.alloc
  congr 1
  apply Array.ext_getElem?
  intro k
  simp only [Array.getElem?_push, Array.getElem?_setIfInBounds, Array.size_setIfInBounds, Array.size_push]
  by_cases e : g = k
  · subst e; rw [if_neg (by omega), if_pos rfl, if_pos rfl, if_pos h, if_pos (by omega)]
  · rw [if_neg e, if_neg e]
@[go_sem] theorem cell_put_other (w : World) (g b i : Nat) (o : Obj) (h : ((⟨b, 0, none⟩ : Addr) = ⟨g, 0, none⟩) = False) : (put w g o).cell? ⟨b, i, none⟩ = w.cell? ⟨b, i, none⟩ := by
  unfold World.cell?
  dsimp only
  rw [heap_put_other _ _ _ _ (fun e => by rw [e] at h; exact h.mp rfl)]
theorem owns_heap {w w' : World} {base : Nat} {e : TypeId} {size : Nat} {v : Value} {n : Nat} {xs : List Value} (h : w.ownsRow base e size v n xs) (hh : ∀ k, v.ownBlock = some k → w'.heap[k]? = w.heap[k]?) : w'.ownsRow base e size v n xs := by
  refine ⟨h.1, ?_⟩
  rcases h.2 with hn | ⟨g, cap, cur, rfl, hb, hgg, rest⟩
  · exact .inl hn
  · exact .inr ⟨g, cap, cur, rfl, hb, by rw [hh g rfl]; exact hgg, rest⟩
theorem owns_put {w : World} {base : Nat} {e : TypeId} {size : Nat} {v : Value} {n : Nat} {xs : List Value} (h : w.ownsRow base e size v n xs) {g : Nat} (hg : v.ownBlock ≠ some g) (o : Obj) : (put w g o).ownsRow base e size v n xs :=
  owns_heap h fun k hk => heap_put_other _ _ _ _ (fun e => hg (by rw [hk, e]))
theorem owns_below {w w' : World} {base : Nat} {e : TypeId} {size : Nat} {v : Value} {n : Nat} {xs : List Value} (h : w.ownsRow base e size v n xs) (hb : Below w.heap.size w w') : w'.ownsRow base e size v n xs :=
  owns_heap h fun k hk => hb.block k (h.lt k hk).2
/-- A world to begin from, and blocks behind it that stay as they are. -/
structure Base extends World where
  keep : Nat → Option Obj
/-- Block g of world W (made behind w0) holds o, and v is a row of n elements xs of the program's own; the blocks that w0 keeps lie there. -/
structure ObjAt (o : Obj) (e : TypeId) (size : Nat) (w0 : Base) (g : Nat) (n : Nat) (xs : List Value) (W : World) (v : Value) : Prop where
  below : Below w0.heap.size w0.toWorld W
  heap : W.heap[g]? = some o
  owns : W.ownsRow w0.heap.size e size v n xs
  base : w0.heap.size ≤ g
  ne : v.ownBlock ≠ some g
  kept : ∀ k q, w0.keep k = some q → W.heap[k]? = some q ∧ k ≠ g ∧ v.ownBlock ≠ some k
theorem lt_of_heap {W : World} {k : Nat} {q : Obj} (h : W.heap[k]? = some q) : k < W.heap.size := (Array.getElem?_eq_some_iff.1 h).1
theorem ObjAt.lt {o : Obj} {e : TypeId} {size : Nat} {w0 : Base} {g n : Nat} {xs : List Value} {W : World} {v : Value} (h : ObjAt o e size w0 g n xs W v) : g < W.heap.size := (Array.getElem?_eq_some_iff.1 h.heap).1
theorem ObjAt.size {o : Obj} {e : TypeId} {size : Nat} {w0 : Base} {g n : Nat} {xs : List Value} {W : World} {v : Value} (h : ObjAt o e size w0 g n xs W v) : w0.heap.size ≤ W.heap.size := h.below.size
theorem ObjAt.on {o : Obj} {e : TypeId} {size : Nat} {w0 : Base} {g n : Nat} {xs : List Value} {W W' : World} {v : Value} (h : ObjAt o e size w0 g n xs W v) (hb : Below W.heap.size W W') : ObjAt o e size w0 g n xs W' v :=
  ⟨h.below.trans (hb.mono h.size), by rw [hb.block g h.lt]; exact h.heap, owns_below h.owns hb, h.base, h.ne, fun k q hk => ⟨by rw [hb.block k (lt_of_heap (h.kept k q hk).1)]; exact (h.kept k q hk).1, (h.kept k q hk).2⟩⟩
/-- The struct is written. -/
theorem ObjAt.upd {o o' : Obj} {e : TypeId} {size : Nat} {w0 : Base} {g n : Nat} {xs : List Value} {W W' : World} {v : Value} (h : ObjAt o e size w0 g n xs W v) (hb : Below W.heap.size (put W g o') W') : ObjAt o' e size w0 g n xs W' v := by
  have hp : ObjAt o' e size w0 g n xs (put W g o') v := ⟨Below.atPut h.below h.base _, heap_put_at _ _ _ h.lt, owns_put h.owns h.ne _, h.base, h.ne, fun k q hk => ⟨by rw [heap_put_other _ _ _ _ (h.kept k q hk).2.1]; exact (h.kept k q hk).1, (h.kept k q hk).2⟩⟩
  exact hp.on (by rw [size_put]; exact hb)
theorem ObjAt.fut_put {o o' : Obj} {e : TypeId} {size : Nat} {w0 : Base} {g n : Nat} {xs : List Value} {W : World} {v : Value} (h : ObjAt o e size w0 g n xs (put W g o) v) (u : Fut (put W g o)) : ObjAt o' e size w0 g n xs (put u.val g o') v :=
  (h.on u.below).upd (Below.refl _ _)
theorem ObjAt.re {o o' : Obj} {e : TypeId} {size : Nat} {w0 : Base} {g n : Nat} {xs : List Value} {W : World} {v : Value} (h : ObjAt o e size w0 g n xs (put W g o) v) : ObjAt o' e size w0 g n xs (put W g o') v := by
  simpa using h.upd (W' := put W g o') (o' := o') (by rw [put_put]; exact Below.refl _ _)
theorem ObjAt.drew_put {o : Obj} {e : TypeId} {size : Nat} {w0 : Base} {g n : Nat} {xs : List Value} {W : World} {v : Value} (h : ObjAt o e size w0 g n xs (put W g o) v) : ObjAt o e size w0 g n xs (put W g o).drew v :=
  h.on (Below.refl _ _).drew
/-- .. and lets go of its row. -/
theorem ObjAt.nil {o o' : Obj} {e : TypeId} {size : Nat} {w0 : Base} {g n : Nat} {xs : List Value} {W W' : World} {v : Value} (h : ObjAt o e size w0 g n xs W v) (hb : Below W.heap.size (put W g o') W') : ObjAt o' e size w0 g 0 [] W' (.slice none 0 0) := by
  have hp : ObjAt o' e size w0 g 0 [] (put W g o') (.slice none 0 0) := ⟨Below.atPut h.below h.base _, heap_put_at _ _ _ h.lt, World.ownsRow_nil _ _ _ _, h.base, by simp [Value.ownBlock], fun k q hk => ⟨by rw [heap_put_other _ _ _ _ (h.kept k q hk).2.1]; exact (h.kept k q hk).1, (h.kept k q hk).2.1, by simp [Value.ownBlock]⟩⟩
  exact hp.on (by rw [size_put]; exact hb)
/-- Elements of another place are appended to the row: the run, and what holds behind it (before v' is stored). -/
theorem append_obj {P : Program} {o : Obj} {e : TypeId} {size : Nat} {w0 : Base} {g n : Nat} {xs : List Value} {W : World} {v : Value} (h : ObjAt o e size w0 g n xs W v)
    (t ty : TypeId) (i : TypeInfo) (z : Value) (bytes : Nat) (ht : P.underlying t = some (.slice e)) (hi : P.info? e = some i) (hz : i.zero = some z)
    (hsize : i.size = size) (hby : i.bytes = bytes) (hzs : z.cells.size = size) (hsz : 0 < size)
    (a : Addr) (m c : Nat) (news : List Value) (hl : news.length = m * size) (hnews : ∀ j u, news[j]? = some u → W.cell? (a.add j) = some u) (h1 : ∀ u ∈ news, u.oneCell' = true)
    (h63 : n + m ≤ maxLen) (hbytes : (n + m) * bytes ≤ 140737488355328) :
    ∃ v' W', (Builtin.append_ #[t, t] ty #[v, .slice (some a) m c]).run P W = .ok v' (put W' g o) ∧ W.grownBy W' v.ownBlock ∧ ∀ o', ObjAt o' e size w0 g (n + m) (xs ++ news) (put W' g o') v' := by
  obtain ⟨v', W', hr, ho, hg, _, hown⟩ := run_append_own_at (P := P) W w0.heap.size t ty e i z size bytes ht hi hz hsize hby hzs hsz v n xs h.owns a m c news hl hnews h1 h63 hbytes h.size
  have hgl : g < W'.heap.size := Nat.lt_of_lt_of_le h.lt hg.size
  have hne : v'.ownBlock ≠ some g := by
    rcases hown with he | he
    · rw [he]; exact h.ne
    · intro hh
      have hlt := h.lt
      rw [he] at hh
      have := Option.some.inj hh
      omega
  refine ⟨v', W', ?_, hg, fun o' => ⟨?_, heap_put_at _ _ _ hgl, owns_put ho hne _, h.base, hne, fun k q hk => ?_⟩⟩
  · rw [put_self (w := W')]
    · exact hr
    · rw [hg.block g h.lt (fun e => h.ne e.symm)]; exact h.heap
  · refine Below.atPut (h.below.grown hg h.size ?_) h.base _
    intro k hk
    exact (h.owns.lt k hk).1
  · obtain ⟨h1, h2, h3⟩ := h.kept k q hk
    have hl := lt_of_heap h1
    refine ⟨by rw [heap_put_other _ _ _ _ h2, hg.block k hl (fun e => h3 e.symm)]; exact h1, h2, ?_⟩
    rcases hown with he | he
    · rw [he]; exact h3
    · intro hh
      rw [he] at hh
      have := Option.some.inj hh
      omega
/-- One more block that stays as it is. -/
def Base.with (w0 : Base) (L : Nat) (q : Obj) : Base := { w0 with keep := fun k => if k = L then some q else w0.keep k }
@[simp] theorem Base.with_heap (w0 : Base) (L : Nat) (q : Obj) : (w0.with L q).heap = w0.heap := rfl
theorem Base.with_self (w0 : Base) (L : Nat) (q : Obj) : (w0.with L q).keep L = some q := by simp [Base.with]
theorem Base.with_other {w0 : Base} {L : Nat} {q : Obj} {k : Nat} {r : Obj} (h : w0.keep k = some r) (hne : k ≠ L) : (w0.with L q).keep k = some r := by simp [Base.with, hne, h]
theorem ObjAt.learn {o : Obj} {e : TypeId} {size : Nat} {w0 : Base} {g n : Nat} {xs : List Value} {W : World} {v : Value} (h : ObjAt o e size w0 g n xs W v) {L : Nat} {q : Obj} (hL : W.heap[L]? = some q) (hg : L ≠ g) (hv : v.ownBlock ≠ some L) : ObjAt o e size (w0.with L q) g n xs W v :=
  ⟨h.below, h.heap, h.owns, h.base, h.ne, fun k r hk => by
    by_cases e : k = L
    · subst e
      rw [Base.with_self] at hk
      cases hk
      exact ⟨hL, hg, hv⟩
    · exact h.kept k r (by simpa [Base.with, e] using hk)⟩
/-- Elements in memory: nil, or m elements news behind an address. -/
def Src (W : World) (size : Nat) (sv : Value) (m : Nat) (news : List Value) : Prop :=
  news.length = m * size ∧ (∀ u ∈ news, u.oneCell' = true) ∧ ((sv = .slice none 0 0 ∧ m = 0) ∨ ∃ a c, sv = .slice (some a) m c ∧ ∀ j u, news[j]? = some u → W.cell? (a.add j) = some u)
theorem Src.nil (W : World) (size : Nat) : Src W size (.slice none 0 0) 0 [] := ⟨by simp, by simp, .inl ⟨rfl, rfl⟩⟩
theorem Src.heap {W W' : World} {size m : Nat} {sv : Value} {news : List Value} (h : Src W size sv m news) (hb : Below W.heap.size W W') : Src W' size sv m news := by
  refine ⟨h.1, h.2.1, h.2.2.imp id ?_⟩
  rintro ⟨a, c, rfl, hc⟩
  refine ⟨a, c, rfl, fun j u hu => ?_⟩
  have := hc j u hu
  rw [hb.cell (World.block_lt_of_cell? _ _ this)]; exact this
theorem append_src {P : Program} {o : Obj} {e : TypeId} {size : Nat} {w0 : Base} {g n : Nat} {xs : List Value} {W : World} {v : Value} (h : ObjAt o e size w0 g n xs W v)
    (t ty : TypeId) (i : TypeInfo) (z : Value) (bytes : Nat) (ht : P.underlying t = some (.slice e)) (hi : P.info? e = some i) (hz : i.zero = some z)
    (hsize : i.size = size) (hby : i.bytes = bytes) (hzs : z.cells.size = size) (hsz : 0 < size)
    (sv : Value) (m : Nat) (news : List Value) (hs : Src W size sv m news)
    (h63 : n + m ≤ maxLen) (hbytes : (n + m) * bytes ≤ 140737488355328) :
    ∃ v' W', (Builtin.append_ #[t, t] ty #[v, sv]).run P W = .ok v' (put W' g o) ∧ W.grownBy W' v.ownBlock ∧ ∀ o', ObjAt o' e size w0 g (n + m) (xs ++ news) (put W' g o') v' := by
  obtain ⟨hl, h1, hs⟩ := hs
  rcases hs with ⟨rfl, rfl⟩ | ⟨a, c, rfl, hc⟩
  · obtain rfl : news = [] := List.eq_nil_of_length_eq_zero (by omega)
    refine ⟨v, W, ?_, ⟨rfl, rfl, rfl, Nat.le_refl _, fun _ _ _ => rfl⟩, fun o' => ?_⟩
    · rw [put_self h.heap]; exact run_append_owned_none (P := P) W w0.heap.size t ty e i size ht hi v n xs h.owns
    · simpa using (h.upd (o' := o') (Below.refl _ _))
  · exact append_obj h t ty i z bytes ht hi hz hsize hby hzs hsz a m c news hl hc h1 h63 hbytes
theorem below_put_fut {B : Nat} {a w : World} {g : Nat} {o o2 : Obj} (h : Below B (put a g o) (put w g o)) (hB : B ≤ w.heap.size) (u : Fut (put w g o2)) : Below B (put a g o) (put u.val g o) :=
  ⟨u.below.os.trans h.os, u.below.tape.trans h.tape, u.below.output.trans h.output, by
    have := h.size; have h2 := u.below.size; rw [size_put] at *; rw [size_put]; simp only [size_put] at this; omega, fun k hk => by
    have h1 := h.block k hk
    have h3 : (put w g o2).heap.size = w.heap.size := size_put w g o2
    by_cases e : k = g
    · subst e
      by_cases hw : k < w.heap.size
      · rw [heap_put_at _ _ _ (by have := u.below.size; omega)]; rw [heap_put_at _ _ _ hw] at h1; exact h1
      · omega
    · rw [heap_put_other _ _ _ _ e] at h1 ⊢
      rw [u.below.block k (by omega), heap_put_other _ _ _ _ e]; exact h1⟩
theorem heap_drew_eq (w : World) (k : Nat) : w.drew.heap[k]? = w.heap[k]? := rfl
theorem heap_alloc_at (w : World) (o : Obj) (k : Nat) (h : k = w.heap.size) : (w.alloc o).heap[k]? = some o := by subst h; exact heap_alloc_new w o
theorem heap_alloc_other (w : World) (o : Obj) (k : Nat) (h : k < w.heap.size) : (w.alloc o).heap[k]? = w.heap[k]? := Below.heap_alloc w o k h
theorem wp_append_run {P : Program} {w : World} {o : Oper} {a : Act} {K : Act → World → Prop} {Q : Exit → Act → World → Prop} (s x : Operand) (t : TypeId)
    (ho : o.op = .call { callee := .builtin .append, args := #[s, x], argTypes := #[t, t] }) (v sv : Value) (hs : a.eval s = v) (hx : a.eval x = sv) (v' : Value) (w' : World)
    (hrun : (Builtin.append_ #[t, t] o.type #[v, sv]).run P w = .ok v' w') (h : K (a.put o.dst v') w') : o.wp P a w K Q := by
  unfold Oper.wp execOp
  simp only [ho, resolve, invoke, builtin, Sem.run_bind, Sem.run_pure, Result.andThen_ok, List.map_toArray, List.map_cons, List.map_nil, hs, hx, hrun]
  exact h
theorem step_append_run {P : Program} {w : World} {ops : Array Oper} {o : Oper} {a : Act} {K : Act → World → Prop} {Q : Exit → Act → World → Prop} {E : Prop} (hgd : o.guard = none) (s x : Operand) (t : TypeId)
    (ho : o.op = .call { callee := .builtin .append, args := #[s, x], argTypes := #[t, t] }) (v sv : Value) (hs : a.eval s = v) (hx : a.eval x = sv) (v' : Value) (w' : World)
    (hrun : (Builtin.append_ #[t, t] o.type #[v, sv]).run P w = .ok v' w') (h : K (a.put o.dst v') w') :
    if Region.wanted o (yielded ops a.tmps) = true then Oper.wp P o a w K Q else E := by
  have hw : Region.wanted o (yielded ops a.tmps) = true := by simp [Region.wanted, hgd]
  rw [if_pos hw]
  exact wp_append_run s x t ho v sv hs hx v' w' hrun h
theorem wpList_append_run {P : Program} {w : World} {ops : Array Oper} {rest : List Oper} {o : Oper} {a : Act} {Q : Exit → Act → World → Prop} (hgd : o.guard = none) (s x : Operand) (t : TypeId)
    (ho : o.op = .call { callee := .builtin .append, args := #[s, x], argTypes := #[t, t] }) (v sv : Value) (hs : a.eval s = v) (hx : a.eval x = sv) (v' : Value) (w' : World)
    (hrun : (Builtin.append_ #[t, t] o.type #[v, sv]).run P w = .ok v' w') (h : wpList P ops Q rest (a.put o.dst v') w') : wpList P ops Q (o :: rest) a w :=
  wpList_plain hgd fun _ hK => wp_append_run s x t ho v sv hs hx v' w' hrun (hK _ _ h)
theorem owns_slice {w : World} {base : Nat} {e : TypeId} {size : Nat} {v : Value} {n : Nat} {xs : List Value} (h : w.ownsRow base e size v n xs) : ∃ ao c, v = .slice ao n c := by
  rcases h.2 with ⟨rfl, rfl⟩ | ⟨g, cap, cur, rfl, _⟩
  · exact ⟨_, _, rfl⟩
  · exact ⟨_, _, rfl⟩
end Go.Proofs.Ythknenhcnpgkcaa
