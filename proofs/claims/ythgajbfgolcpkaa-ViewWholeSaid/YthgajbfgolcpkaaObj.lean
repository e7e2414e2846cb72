import Derived.Test.YthgajbfgolcpkaaVw1
import Derived.Great.Walk
import Derived.Deep.Cut
import Derived.Deep.DeepCutAuto
import Derived.Deep.RegionWith
import Derived.RangeFuncNested
import Derived.RangeFuncBound
import Derived.RangeFuncCalls
import Derived.RangeFuncLeaves
import Derived.Shelf.Abstract
import Derived.Shelf.RegionOpen
import Derived.OwnWalkIn
import Derived.TacticsInMore
import Derived.LoopNIn
import Derived.LoopIn
import Derived.IntWalk
/- An object whose own blocks alone have changed; whole structs loaded and stored; ranges over functions. (General laws.) -/
namespace Go.Proofs.Ythgajbfgolcpkaa
open Go.RowKit Go.Shelf
set_option linter.unusedVariables false
set_option linter.unusedSimpArgs false
theorem setCell_self {w : World} {b o : Nat} {v : Value} (h : w.cell? ⟨b, o, none⟩ = some v) : w.setCell ⟨b, o, none⟩ v = w := by
  have e : (w.setCell ⟨b, o, none⟩ v).heap = w.heap := by
    apply Array.ext_getElem?
    intro k
    simp only [World.setCell, Array.getElem?_modify]
    by_cases hk : b = k
    · subst hk
      rw [if_pos rfl]
      unfold World.cell? at h
      dsimp only at h
      cases hb : w.heap[b]? with
      | none => rfl
      | some x =>
        rw [hb] at h
        cases x with
        | cells cs t fr =>
          have h : cs[o]? = some v := h
          have : cs.setIfInBounds o v = cs := by
            apply Array.ext_getElem?
            intro j
            by_cases hj : o = j
            · subst hj; rw [Array.getElem?_setIfInBounds_self_of_lt (Array.getElem?_eq_some_iff.1 h).1, h]
            · rw [Array.getElem?_setIfInBounds_ne hj]
          simp [this]
        | _ => rfl
    · rw [if_neg hk]
  have e2 : w.setCell ⟨b, o, none⟩ v = { w with heap := (w.setCell ⟨b, o, none⟩ v).heap } := rfl
  rw [e2, e]
@[go_sem] theorem put_alloc (w : World) (o o' : Obj) : put (w.alloc o) w.heap.size o' = w.alloc o' := by
  unfold put World.alloc
  congr 1
  apply Array.ext_getElem?
  intro k
  rw [Array.getElem?_setIfInBounds]
  split
  · rename_i e; subst e; simp
  · rename_i e; simp only [Array.getElem?_push]; rw [if_neg (by omega), if_neg (by omega)]
/-- A whole struct is loaded out of a row. -/
theorem run_loadVar_cells {P : Program} (w : World) (A : Addr) (ty : TypeId) (cs : List Value) (d : TypeDesc) (hc : ∀ j v, cs[j]? = some v → w.cell? (A.add j) = some v)
    (hu : P.underlying ty = some d) (hd : (match d with | .struct _ | .array _ _ => true | _ => false) = true) (hi : (P.info? ty).map (·.size) = some cs.length) :
    (loadVar ty A).run P w = .ok (.agg cs.toArray) w := by
  have hl := run_loadCells_list (P := P) w A cs hc
  cases hq : P.info? ty with
  | none => simp [hq] at hi
  | some i =>
    have hs : i.size = cs.length := by simpa [hq] using hi
    have hagg : (isAgg ty).run P w = .ok true w := by
      unfold isAgg
      rw [Sem.run_bind, run_underlying hu w]
      cases d <;> simp_all
    simp [loadVar, Sem.run_bind, hagg, sizeOf, typeInfo, hq, hs, hl]
theorem wp_load_cells {P : Program} {o : Oper} {a : Act} {w : World} {K : Act → World → Prop} {Q : Exit → Act → World → Prop} (ty : TypeId) (x : Operand) (ho : o.op = .load ty x)
    (A : Addr) (hx : a.eval x = .pointer (some A)) (cs : List Value) (d : TypeDesc) (hc : ∀ j v, cs[j]? = some v → w.cell? (A.add j) = some v)
    (hu : P.underlying ty = some d) (hd : (match d with | .struct _ | .array _ _ => true | _ => false) = true) (hi : (P.info? ty).map (·.size) = some cs.length)
    (h : K (a.put o.dst (.agg cs.toArray)) w) : o.wp P a w K Q := by
  unfold Oper.wp execOp
  simp only [ho, hx, Instr.loadAt, Instr.sureAddr, Sem.run_bind, Sem.run_pure, Result.andThen_ok, run_loadVar_cells w A ty cs d hc hu hd hi]
  exact h
theorem wpList_load_cells {P : Program} {ops : Array Oper} {rest : List Oper} {o : Oper} {a : Act} {w : World} {Q : Exit → Act → World → Prop} (hgd : o.guard = none) (ty : TypeId) (x : Operand) (ho : o.op = .load ty x)
    (A : Addr) (hx : a.eval x = .pointer (some A)) (cs : List Value) (d : TypeDesc) (hc : ∀ j v, cs[j]? = some v → w.cell? (A.add j) = some v)
    (hu : P.underlying ty = some d) (hd : (match d with | .struct _ | .array _ _ => true | _ => false) = true) (hi : (P.info? ty).map (·.size) = some cs.length)
    (h : wpList P ops Q rest (a.put o.dst (.agg cs.toArray)) w) : wpList P ops Q (o :: rest) a w :=
  wpList_plain hgd fun _ hK => wp_load_cells ty x ho A hx cs d hc hu hd hi (hK _ _ h)
theorem step_load_row {P : Program} {w : World} {ops : Array Oper} {o : Oper} {a : Act} {K : Act → World → Prop} {Q : Exit → Act → World → Prop} {E : Prop} (hgd : o.guard = none) (ty : TypeId) (x : Operand) (ho : o.op = .load ty x)
    (g : Nat) (hx : a.eval x = .pointer (some ⟨g, 0, none⟩)) (t : TypeId) (cs : Array Value) (fr : Nat × Nat) (d : TypeDesc) (hg : w.heap[g]? = some (.cells cs t fr))
    (hu : P.underlying ty = some d) (hd : (match d with | .struct _ | .array _ _ => true | _ => false) = true) (hi : (P.info? ty).map (·.size) = some cs.size)
    (h : K (a.put o.dst (.agg cs)) w) : if Region.wanted o (yielded ops a.tmps) = true then Oper.wp P o a w K Q else E := by
  have hw : Region.wanted o (yielded ops a.tmps) = true := by simp [Region.wanted, hgd]
  rw [if_pos hw]
  exact wp_load_row ty x ho g hx t cs fr d hg hu hd hi h
theorem row_open {W : World} {e : TypeId} {size r n cap : Nat} {xs : List Value} (hi : Row W e size (.slice (some ⟨r, 0, none⟩) n cap) n xs) : ∃ cur : Array Value, cap ≤ maxLen ∧ n ≤ cap ∧ W.heap[r]? = some (.cells cur e) ∧ cur.size = cap * size ∧ cur.toList.take (n * size) = xs := by
  rcases hi.2 with ⟨h, _⟩ | ⟨g, c, cur, hv, _, hh, hnc, hm, hc, ht⟩
  · cases h
  · injection hv with h2 _ h3
    injection h2 with h2
    obtain rfl : r = g := congrArg Addr.block h2
    subst h3
    exact ⟨cur, hm, hnc, hh, hc, ht⟩
theorem Row.some_of {W : World} {e : TypeId} {size n : Nat} {v : Value} {xs : List Value} (hi : Row W e size v n xs) (hn : 0 < n) : ∃ r cap, v = .slice (some ⟨r, 0, none⟩) n cap := by
  obtain ⟨r, cap, h, _, _⟩ := World.ownsRow.form hi hn
  exact ⟨r, cap, h⟩
theorem append_row {P : Program} (W : World) (t ty e : TypeId) (i : TypeInfo) (z : Value) (size bytes : Nat) (ht : P.underlying t = some (.slice e)) (hi : P.info? e = some i) (hz : i.zero = some z)
    (hsize : i.size = size) (hby : i.bytes = bytes) (hzs : z.cells.size = size) (hsz : 0 < size) (v : Value) (n : Nat) (xs : List Value) (h : Row W e size v n xs) (sv : Value) (m : Nat) (news : List Value) (hs : Src W size sv m news)
    (h63 : n + m ≤ maxLen) (hbytes : (n + m) * bytes ≤ 140737488355328) :
    ∃ v' W', (Builtin.append_ #[t, t] ty #[v, sv]).run P W = .ok v' W' ∧ Row W' e size v' (n + m) (xs ++ news) ∧ Chg (fun k => blk v k ≠ 0) W W' ∧ (∀ k, k < W.heap.size → blk v' k ≤ blk v k) := by
  obtain ⟨hl, h1, hs⟩ := hs
  rcases hs with ⟨rfl, rfl⟩ | ⟨a, c, rfl, hc⟩
  · obtain rfl : news = [] := List.eq_nil_of_length_eq_zero (by omega)
    exact ⟨v, W, run_append_owned_none (P := P) W 0 t ty e i size ht hi v n xs h, by simpa using h, Chg.refl _ _, fun k _ => Nat.le_refl _⟩
  · obtain ⟨v', W', hrun, hown, hgrow, _, hw⟩ := run_append_own_at (P := P) W 0 t ty e i z size bytes ht hi hz hsize hby hzs hsz v n xs h a m c news hl hc h1 h63 hbytes (Nat.zero_le _)
    refine ⟨v', W', hrun, hown, (Chg.of_grown hgrow).mono fun k _ hk => by unfold blk; rw [if_pos hk]; omega, fun k hk => ?_⟩
    rcases hw with h | h
    · unfold blk; rw [h]; exact Nat.le_refl _
    · have : blk v' k = 0 := by unfold blk; rw [if_neg (by rw [h]; intro e; have := Option.some.inj e; omega)]
      omega
theorem Row.src {W : World} {e : TypeId} {size n : Nat} {v : Value} {xs : List Value} (h : Row W e size v n xs) (h1 : ∀ u ∈ xs, u.oneCell' = true) : Src W size v n xs := by
  refine ⟨h.1, h1, ?_⟩
  rcases h.2 with ⟨rfl, rfl⟩ | ⟨g, cap, cur, rfl, _⟩
  · exact .inl ⟨rfl, rfl⟩
  · exact .inr ⟨⟨g, 0, none⟩, cap, rfl, World.ownsRow.cells h rfl⟩
theorem Src.chg {W W' : World} {size m : Nat} {sv : Value} {news : List Value} (h : Src W size sv m news) (hh : ∀ a c, sv = .slice (some a) m c → 0 < m → W'.heap[a.block]? = W.heap[a.block]?) (hs : 0 < size) : Src W' size sv m news := by
  refine ⟨h.1, h.2.1, h.2.2.imp id ?_⟩
  rintro ⟨a, c, rfl, hc⟩
  refine ⟨a, c, rfl, fun j u hu => ?_⟩
  have hm : 0 < m := by
    rcases Nat.eq_zero_or_pos m with e | e
    · have h1 := h.1
      rw [e, Nat.zero_mul] at h1
      have := List.eq_nil_of_length_eq_zero h1
      rw [this] at hu; cases hu
    · exact e
  rw [World.cell?_of_block (w := W)]
  · exact hc j u hu
  · have : (a.add j).block = a.block := by unfold Addr.add; split <;> rfl
    rw [this]; exact hh a c rfl hm
/-- A world in which the object's own two blocks alone have changed. -/
theorem ObjAt.step {o o' : Obj} {e : TypeId} {size : Nat} {w0 : Base} {g n n' : Nat} {xs xs' : List Value} {W W' : World} {v v' : Value} (h : ObjAt o e size w0 g n xs W v)
    (hc : Chg (fun k => k = g ∨ v.ownBlock = some k) W W') (hg : W'.heap[g]? = some o') (ho : W'.ownsRow w0.heap.size e size v' n' xs')
    (hv : v'.ownBlock = v.ownBlock ∨ ∀ k, v'.ownBlock = some k → W.heap.size ≤ k) : ObjAt o' e size w0 g n' xs' W' v' := by
  have hne : ∀ k, k < W.heap.size → v.ownBlock ≠ some k → v'.ownBlock ≠ some k := by
    intro k hk hn he
    rcases hv with hv | hv
    · exact hn (hv ▸ he)
    · have := hv k he; omega
  refine ⟨h.below.trans (hc.below h.size ?_), hg, ho, h.base, hne g h.lt h.ne, fun k q hk => ?_⟩
  · rintro i (rfl | hi)
    · exact h.base
    · exact (h.owns.lt i hi).1
  · obtain ⟨h1, h2, h3⟩ := h.kept k q hk
    have hl := lt_of_heap h1
    exact ⟨by rw [hc.block k hl (fun e => e.elim h2 h3)]; exact h1, h2, hne k hl h3⟩
theorem owns_zero {W : World} {base : Nat} {e : TypeId} {size n : Nat} {v : Value} {xs : List Value} (h : W.ownsRow base e size v n xs) : Row W e size v n xs := by
  refine ⟨h.1, h.2.imp id ?_⟩
  rintro ⟨g, cap, cur, h1, _, h3⟩
  exact ⟨g, cap, cur, h1, Nat.zero_le _, h3⟩
theorem owns_base {W : World} {base : Nat} {e : TypeId} {size n : Nat} {v : Value} {xs : List Value} (h : Row W e size v n xs) (hb : ∀ k, v.ownBlock = some k → base ≤ k) : W.ownsRow base e size v n xs := by
  refine ⟨h.1, h.2.imp id ?_⟩
  rintro ⟨g, cap, cur, h1, _, h3⟩
  exact ⟨g, cap, cur, h1, hb g (by rw [h1]; rfl), h3⟩
theorem results_row_tmp {P : Program} {fn : Func} {p q : Tmp} {ty : TypeId} (h : fn.results = #[.cell p ty, .tmp q]) (tmps : Array Value) (w : World) (g : Nat) (t : TypeId) (cs : Array Value) (fr : Nat × Nat) (d : TypeDesc) (v : Value)
    (hp : tmps.getD p undef = .pointer (some ⟨g, 0, none⟩)) (hq : tmps.getD q undef = v) (hg : w.heap[g]? = some (.cells cs t fr))
    (hu : P.underlying ty = some d) (hd : (match d with | .struct _ | .array _ _ => true | _ => false) = true) (hi : (P.info? ty).map (·.size) = some cs.size) :
    (results fn tmps).run P w = .ok (.tuple #[.agg cs, v]) w := by
  have hp' : tmps[p]?.getD undef = .pointer (some ⟨g, 0, none⟩) := by simpa using hp
  have hq' : tmps[q]?.getD undef = v := by simpa using hq
  simp [results, h, hp', hq', asAddr, run_loadVar_row w g t ty cs fr d hg hu hd hi]
/-- Whatever holds cells, and is none of S, lies as it lay. -/
def KpS (S : Nat → Prop) (W W' : World) : Prop := W.heap.size ≤ W'.heap.size ∧ ∀ k o, W.heap[k]? = some o → o.isCells = true → ¬ S k → W'.heap[k]? = W.heap[k]?
theorem KpS.refl (S : Nat → Prop) (W : World) : KpS S W W := ⟨Nat.le_refl _, fun _ _ _ _ _ => rfl⟩
theorem KpS.trans {S : Nat → Prop} {A B C : World} (h : KpS S A B) (k : KpS S B C) : KpS S A C :=
  ⟨Nat.le_trans h.1 k.1, fun i o hi hc hn => by
    have h1 := h.2 i o hi hc hn
    exact (k.2 i o (h1.trans hi) hc hn).trans h1⟩
theorem KpS.putObj (S : Nat → Prop) (W : World) (l : Nat) (o o' : Obj) (h : W.heap[l]? = some o) (hc : o.isCells = false) : KpS S W (W.putObj l o') :=
  ⟨by simp, fun k q hk hq _ => World.putObj_heap_other (fun e => by subst e; rw [h] at hk; cases hk; rw [hc] at hq; cases hq)⟩
theorem KpS.chg {S : Nat → Prop} {W W' : World} (h : Chg S W W') : KpS S W W' := ⟨h.size, fun k o hk _ hn => h.block k (lt_of_heap hk) hn⟩
theorem KpS.at_ {S : Nat → Prop} {W W' : World} (h : KpS S W W') {k : Nat} {cs : Array Value} {t : TypeId} {fr : Nat × Nat} (hk : W.heap[k]? = some (.cells cs t fr)) (hn : ¬ S k) : W'.heap[k]? = some (.cells cs t fr) := (h.2 k _ hk rfl hn).trans hk
theorem wpListIn_runTo {F : Fence} {n : Nat} {P : Program} {ops : Array Oper} {rest : List Oper} {o : Oper} {a : Act} {w : World} {Q : Exit → Act → World → Prop} (hF : ∀ f, F.fn f) (hg : o.guard = none) (hd : ∀ c, o.op ≠ .defer c) (dst : Option Tmp) (hdst : o.dst = dst)
    (v : Value) (w' : World) (hrun : (execOp a.eval o).run P w = .ok (.value v) w')
    (h : wpListIn F n P ops Q rest (a.put dst v) w') : wpListIn F n P ops Q (o :: rest) a w := by
  subst hdst
  refine wpListIn_plain hg fun K hK => ⟨fun f _ => hF f, ?_⟩
  rw [Oper.semAt_eq _ _ _ hd, hrun, Oper.uponIn_value]
  exact hK _ _ h
theorem wpListIn_skipTo {F : Fence} {n : Nat} {P : Program} {ops : Array Oper} {rest : List Oper} {o : Oper} {a : Act} {w : World} {Q : Exit → Act → World → Prop} (hF : ∀ f, F.fn f) (hg : o.guard = none) (hd : ∀ c, o.op ≠ .defer c) (hdst : o.dst = none)
    (w' : World) (hrun : (execOp a.eval o).run P w = .ok .skip w')
    (h : wpListIn F n P ops Q rest a w') : wpListIn F n P ops Q (o :: rest) a w := by
  refine wpListIn_plain hg fun K hK => ⟨fun f _ => hF f, ?_⟩
  rw [Oper.semAt_eq _ _ _ hd, hrun, Oper.uponIn_skip, hdst]
  exact hK _ _ h
theorem run_load_row {P : Program} {o : Oper} {a : Act} {w : World} (ty : TypeId) (x : Operand) (ho : o.op = .load ty x)
    (g : Nat) (hx : a.eval x = .pointer (some ⟨g, 0, none⟩)) (t : TypeId) (cs : Array Value) (fr : Nat × Nat) (d : TypeDesc) (hg : w.heap[g]? = some (.cells cs t fr))
    (hu : P.underlying ty = some d) (hd : (match d with | .struct _ | .array _ _ => true | _ => false) = true) (hi : (P.info? ty).map (·.size) = some cs.size) : (execOp a.eval o).run P w = .ok (.value (.agg cs)) w := by
  unfold execOp
  simp only [ho, hx, Instr.loadAt, Instr.sureAddr, Sem.run_bind, Sem.run_pure, Result.andThen_ok, run_loadVar_row w g t ty cs fr d hg hu hd hi]
theorem run_store_row {P : Program} {w : World} {o : Oper} {a : Act} (ty : TypeId) (x y : Operand) (ho : o.op = .store ty x y) (g : Nat) (cs cur : Array Value)
    (hx : a.eval x = .pointer (some ⟨g, 0, none⟩)) (hy : a.eval y = .agg cs) (hg : w.heap[g]? = some (.cells cur ty)) (hi : (P.info? ty).map (·.size) = some cs.size) (hs : cur.size = cs.size) (h1 : cs.all (·.oneCell') = true) :
    (execOp a.eval o).run P w = .ok .skip (put w g (.cells cs ty)) := by
  unfold execOp
  have hr := run_storeVar_row (P := P) w g ty ty cur cs hg hi hs h1
  rw [setRow_put hg] at hr
  simp only [ho, hx, hy, Instr.storeAt, Instr.sureAddr, Sem.run_bind, Sem.run_pure, Result.andThen_ok, hr]
theorem ownFrom_heap {β : Type} (B k : Nat) (f : β → Array Value) (t : TypeId) (fr : Nat × Nat) : OwnFrom B (fun s X => X.heap[k]? = some (.cells (f s) t fr)) :=
  fun s X Y row hs hg hr => (grownBy_keeps_cells hg (fun r e => (hr r e).2) hs rfl).trans hs
theorem KeepsFrom.chg {S : Nat → Prop} {B : Nat} {X Y : World} (h : Chg S X Y) (hS : ∀ k, S k → k < B) : KeepsFrom B X Y :=
  ⟨h.size, fun k o hB hk _ => (h.block k (lt_of_heap hk) (fun hs => by have := hS k hs; omega)).trans hk⟩
/-- The block that is kept holds something else. -/
theorem ObjAt.rekeep {o : Obj} {e : TypeId} {size : Nat} {w0 : Base} {g n : Nat} {xs : List Value} {W W' : World} {v : Value} {M : Nat} {q q' : Obj} (h : ObjAt o e size (w0.with M q) g n xs W v) (hM : w0.heap.size ≤ M) (hb : Below W.heap.size (put W M q') W') : ObjAt o e size (w0.with M q') g n xs W' v := by
  obtain ⟨hk, hg, hv⟩ := h.kept M q (Base.with_self _ _ _)
  have hl := lt_of_heap hk
  have hp : ObjAt o e size (w0.with M q') g n xs (put W M q') v := by
    refine ⟨Below.atPut h.below hM _, ?_, owns_put h.owns hv _, h.base, h.ne, fun k r hr => ?_⟩
    · rw [heap_put_other _ _ _ _ (fun e => hg e.symm)]; exact h.heap
    · by_cases e : k = M
      · subst e
        rw [Base.with_self] at hr
        cases hr
        exact ⟨heap_put_at _ _ _ hl, hg, hv⟩
      · have hr' : w0.keep k = some r := by simpa [Base.with, e] using hr
        have := h.kept k r (Base.with_other hr' e)
        exact ⟨by rw [heap_put_other _ _ _ _ e]; exact this.1, this.2⟩
  exact hp.on (by rw [size_put]; exact hb)
end Go.Proofs.Ythgajbfgolcpkaa
