import Derived.Test.YthknenhcnpgkcaaFil2
import Derived.Great.Walk
import Derived.Deep.Cut
import Derived.Deep.DeepCutAuto
import Derived.Deep.RegionWith
import Derived.RangeFuncNested
import Derived.RangeFuncBound
import Derived.RangeFuncCalls
import Derived.RangeFuncLeaves
import Derived.Shelf.Abstract
import Derived.Shelf.RegionOpen
import Derived.OwnWalkIn
import Derived.TacticsInMore
import Derived.LoopNIn
import Derived.LoopIn
import Derived.IntWalk
/- Ranges over functions: what a body keeps; steps of a region within a fence. (General laws; as in XObj.) -/
namespace Go.Proofs.Ythknenhcnpgkcaa
open Go.RowKit Go.Shelf
set_option linter.unusedVariables false
theorem results_row_tmp {P : Program} {fn : Func} {p q : Tmp} {ty : TypeId} (h : fn.results = #[.cell p ty, .tmp q]) (tmps : Array Value) (w : World) (g : Nat) (t : TypeId) (cs : Array Value) (fr : Nat × Nat) (d : TypeDesc) (v : Value)
    (hp : tmps.getD p undef = .pointer (some ⟨g, 0, none⟩)) (hq : tmps.getD q undef = v) (hg : w.heap[g]? = some (.cells cs t fr))
    (hu : P.underlying ty = some d) (hd : (match d with | .struct _ | .array _ _ => true | _ => false) = true) (hi : (P.info? ty).map (·.size) = some cs.size) :
    (results fn tmps).run P w = .ok (.tuple #[.agg cs, v]) w := by
  have hp' : tmps[p]?.getD undef = .pointer (some ⟨g, 0, none⟩) := by simpa using hp
  have hq' : tmps[q]?.getD undef = v := by simpa using hq
  simp [results, h, hp', hq', asAddr, run_loadVar_row w g t ty cs fr d hg hu hd hi]
/-- Whatever holds cells, and is none of S, lies as it lay. -/
def KpS (S : Nat → Prop) (W W' : World) : Prop := W.heap.size ≤ W'.heap.size ∧ ∀ k o, W.heap[k]? = some o → o.isCells = true → ¬ S k → W'.heap[k]? = W.heap[k]?
theorem KpS.refl (S : Nat → Prop) (W : World) : KpS S W W := ⟨Nat.le_refl _, fun _ _ _ _ _ => rfl⟩
theorem KpS.trans {S : Nat → Prop} {A B C : World} (h : KpS S A B) (k : KpS S B C) : KpS S A C :=
  ⟨Nat.le_trans h.1 k.1, fun i o hi hc hn => by
    have h1 := h.2 i o hi hc hn
    exact (k.2 i o (h1.trans hi) hc hn).trans h1⟩
theorem KpS.putObj (S : Nat → Prop) (W : World) (l : Nat) (o o' : Obj) (h : W.heap[l]? = some o) (hc : o.isCells = false) : KpS S W (W.putObj l o') :=
  ⟨by simp, fun k q hk hq _ => World.putObj_heap_other (fun e => by subst e; rw [h] at hk; cases hk; rw [hc] at hq; cases hq)⟩
theorem KpS.chg {S : Nat → Prop} {W W' : World} (h : Chg S W W') : KpS S W W' := ⟨h.size, fun k o hk _ hn => h.block k (lt_of_heap hk) hn⟩
theorem KpS.at_ {S : Nat → Prop} {W W' : World} (h : KpS S W W') {k : Nat} {cs : Array Value} {t : TypeId} {fr : Nat × Nat} (hk : W.heap[k]? = some (.cells cs t fr)) (hn : ¬ S k) : W'.heap[k]? = some (.cells cs t fr) := (h.2 k _ hk rfl hn).trans hk
theorem wpListIn_runTo {F : Fence} {n : Nat} {P : Program} {ops : Array Oper} {rest : List Oper} {o : Oper} {a : Act} {w : World} {Q : Exit → Act → World → Prop} (hF : ∀ f, F.fn f) (hg : o.guard = none) (hd : ∀ c, o.op ≠ .defer c) (dst : Option Tmp) (hdst : o.dst = dst)
    (v : Value) (w' : World) (hrun : (execOp a.eval o).run P w = .ok (.value v) w')
    (h : wpListIn F n P ops Q rest (a.put dst v) w') : wpListIn F n P ops Q (o :: rest) a w := by
  subst hdst
  refine wpListIn_plain hg fun K hK => ⟨fun f _ => hF f, ?_⟩
  rw [Oper.semAt_eq _ _ _ hd, hrun, Oper.uponIn_value]
  exact hK _ _ h
theorem wpListIn_skipTo {F : Fence} {n : Nat} {P : Program} {ops : Array Oper} {rest : List Oper} {o : Oper} {a : Act} {w : World} {Q : Exit → Act → World → Prop} (hF : ∀ f, F.fn f) (hg : o.guard = none) (hd : ∀ c, o.op ≠ .defer c) (hdst : o.dst = none)
    (w' : World) (hrun : (execOp a.eval o).run P w = .ok .skip w')
    (h : wpListIn F n P ops Q rest a w') : wpListIn F n P ops Q (o :: rest) a w := by
  refine wpListIn_plain hg fun K hK => ⟨fun f _ => hF f, ?_⟩
  rw [Oper.semAt_eq _ _ _ hd, hrun, Oper.uponIn_skip, hdst]
  exact hK _ _ h
theorem run_load_row {P : Program} {o : Oper} {a : Act} {w : World} (ty : TypeId) (x : Operand) (ho : o.op = .load ty x)
    (g : Nat) (hx : a.eval x = .pointer (some ⟨g, 0, none⟩)) (t : TypeId) (cs : Array Value) (fr : Nat × Nat) (d : TypeDesc) (hg : w.heap[g]? = some (.cells cs t fr))
    (hu : P.underlying ty = some d) (hd : (match d with | .struct _ | .array _ _ => true | _ => false) = true) (hi : (P.info? ty).map (·.size) = some cs.size) : (execOp a.eval o).run P w = .ok (.value (.agg cs)) w := by
  unfold execOp
  simp only [ho, hx, Instr.loadAt, Instr.sureAddr, Sem.run_bind, Sem.run_pure, Result.andThen_ok, run_loadVar_row w g t ty cs fr d hg hu hd hi]
theorem run_store_row {P : Program} {w : World} {o : Oper} {a : Act} (ty : TypeId) (x y : Operand) (ho : o.op = .store ty x y) (g : Nat) (cs cur : Array Value)
    (hx : a.eval x = .pointer (some ⟨g, 0, none⟩)) (hy : a.eval y = .agg cs) (hg : w.heap[g]? = some (.cells cur ty)) (hi : (P.info? ty).map (·.size) = some cs.size) (hs : cur.size = cs.size) (h1 : cs.all (·.oneCell') = true) :
    (execOp a.eval o).run P w = .ok .skip (put w g (.cells cs ty)) := by
  unfold execOp
  have hr := run_storeVar_row (P := P) w g ty ty cur cs hg hi hs h1
  rw [setRow_put hg] at hr
  simp only [ho, hx, hy, Instr.storeAt, Instr.sureAddr, Sem.run_bind, Sem.run_pure, Result.andThen_ok, hr]
theorem ownFrom_heap {β : Type} (B k : Nat) (f : β → Array Value) (t : TypeId) (fr : Nat × Nat) : OwnFrom B (fun s X => X.heap[k]? = some (.cells (f s) t fr)) :=
  fun s X Y row hs hg hr => (grownBy_keeps_cells hg (fun r e => (hr r e).2) hs rfl).trans hs
theorem KeepsFrom.chg {S : Nat → Prop} {B : Nat} {X Y : World} (h : Chg S X Y) (hS : ∀ k, S k → k < B) : KeepsFrom B X Y :=
  ⟨h.size, fun k o hB hk _ => (h.block k (lt_of_heap hk) (fun hs => by have := hS k hs; omega)).trans hk⟩
/-- The block that is kept holds something else. -/
theorem take_snoc {α : Type} {L : List α} {k : Nat} {x : α} (h : L[k]? = some x) : L.take (k + 1) = L.take k ++ [x] := by
  obtain ⟨hl, rfl⟩ := List.getElem?_eq_some_iff.1 h
  exact List.take_succ_eq_append_getElem hl
/-- What a body keeps, K, and which blocks are out of its reach, Rk. -/
structure Fen (K : World → World → Prop) (Rk : Nat → World → Prop) : Prop where
  size : ∀ {X Y}, K X Y → X.heap.size ≤ Y.heap.size
  step : ∀ {X Y r}, Rk r X → r < X.heap.size → K X Y → Rk r Y ∧ ∀ o, X.heap[r]? = some o → o.isCells = true → Y.heap[r]? = some o
  below : ∀ {X Y r}, Rk r X → Below X.heap.size X Y → Rk r Y
theorem fen_S (S : Nat → Prop) : Fen (KpS S) (fun r _ => ¬ S r) :=
  ⟨fun h => h.1, fun h _ hk => ⟨h, fun o ho hc => (hk.2 _ o ho hc h).trans ho⟩, fun h _ => h⟩
end Go.Proofs.Ythknenhcnpgkcaa
