/- Texts of this proof, merged: Seq, Rg1, Wk1, Wk2, Wk3, SeqO, ItIn, Wk4, Wk5, Wk6, WkL, WkQ, WkR. -/
import Derived.Test.YthknenhcnpgkcaaGreatMr
import Derived.Great.Walk
import Derived.Deep.Cut
import Derived.Deep.DeepCutAuto
import Derived.Deep.RegionWith
import Derived.RangeFuncNested
import Derived.RangeFuncBound
import Derived.RangeFuncCalls
import Derived.RangeFuncLeaves
import Derived.Shelf.Abstract
import Derived.Shelf.RegionOpen
import Derived.OwnWalkIn
import Derived.TacticsInMore
import Derived.LoopNIn
import Derived.LoopIn
import Derived.IntWalk
import Derived.Test.YthknenhcnpgkcaaGreatMb
/- Ranges over functions: what a body keeps; steps of a region within a fence. (General laws; as in XObj.) -/
namespace Go.Proofs.YthknenhcnpgkcaaGreat
open Go.RowKit Go.Shelf
set_option linter.unusedVariables false
theorem results_row_tmp {P : Program} {fn : Func} {p q : Tmp} {ty : TypeId} (h : fn.results = #[.cell p ty, .tmp q]) (tmps : Array Value) (w : World) (g : Nat) (t : TypeId) (cs : Array Value) (fr : Nat × Nat) (d : TypeDesc) (v : Value)
    (hp : tmps.getD p undef = .pointer (some ⟨g, 0, none⟩)) (hq : tmps.getD q undef = v) (hg : w.heap[g]? = some (.cells cs t fr))
    (hu : P.underlying ty = some d) (hd : (match d with | .struct _ | .array _ _ => true | _ => false) = true) (hi : (P.info? ty).map (·.size) = some cs.size) :
    (results fn tmps).run P w = .ok (.tuple #[.agg cs, v]) w := by
  have hp' : tmps[p]?.getD undef = .pointer (some ⟨g, 0, none⟩) := by simpa using hp
  have hq' : tmps[q]?.getD undef = v := by simpa using hq
  simp [results, h, hp', hq', asAddr, run_loadVar_row w g t ty cs fr d hg hu hd hi]
/-- Whatever holds cells, and is none of S, lies as it lay. -/
def KpS (S : Nat → Prop) (W W' : World) : Prop := W.heap.size ≤ W'.heap.size ∧ ∀ k o, W.heap[k]? = some o → o.isCells = true → ¬ S k → W'.heap[k]? = W.heap[k]?
theorem KpS.refl (S : Nat → Prop) (W : World) : KpS S W W := ⟨Nat.le_refl _, fun _ _ _ _ _ => rfl⟩
theorem KpS.trans {S : Nat → Prop} {A B C : World} (h : KpS S A B) (k : KpS S B C) : KpS S A C :=
  ⟨Nat.le_trans h.1 k.1, fun i o hi hc hn => by
    have h1 := h.2 i o hi hc hn
    exact (k.2 i o (h1.trans hi) hc hn).trans h1⟩
theorem KpS.putObj (S : Nat → Prop) (W : World) (l : Nat) (o o' : Obj) (h : W.heap[l]? = some o) (hc : o.isCells = false) : KpS S W (W.putObj l o') :=
  ⟨by simp, fun k q hk hq _ => World.putObj_heap_other (fun e => by subst e; rw [h] at hk; cases hk; rw [hc] at hq; cases hq)⟩
theorem KpS.chg {S : Nat → Prop} {W W' : World} (h : Chg S W W') : KpS S W W' := ⟨h.size, fun k o hk _ hn => h.block k (lt_of_heap hk) hn⟩
theorem KpS.at_ {S : Nat → Prop} {W W' : World} (h : KpS S W W') {k : Nat} {cs : Array Value} {t : TypeId} {fr : Nat × Nat} (hk : W.heap[k]? = some (.cells cs t fr)) (hn : ¬ S k) : W'.heap[k]? = some (.cells cs t fr) := (h.2 k _ hk rfl hn).trans hk
theorem wpListIn_runTo {F : Fence} {n : Nat} {P : Program} {ops : Array Oper} {rest : List Oper} {o : Oper} {a : Act} {w : World} {Q : Exit → Act → World → Prop} (hF : ∀ f, F.fn f) (hg : o.guard = none) (hd : ∀ c, o.op ≠ .defer c) (dst : Option Tmp) (hdst : o.dst = dst)
    (v : Value) (w' : World) (hrun : (execOp a.eval o).run P w = .ok (.value v) w')
    (h : wpListIn F n P ops Q rest (a.put dst v) w') : wpListIn F n P ops Q (o :: rest) a w := by
  subst hdst
  refine wpListIn_plain hg fun K hK => ⟨fun f _ => hF f, ?_⟩
  rw [Oper.semAt_eq _ _ _ hd, hrun, Oper.uponIn_value]
  exact hK _ _ h
theorem wpListIn_skipTo {F : Fence} {n : Nat} {P : Program} {ops : Array Oper} {rest : List Oper} {o : Oper} {a : Act} {w : World} {Q : Exit → Act → World → Prop} (hF : ∀ f, F.fn f) (hg : o.guard = none) (hd : ∀ c, o.op ≠ .defer c) (hdst : o.dst = none)
    (w' : World) (hrun : (execOp a.eval o).run P w = .ok .skip w')
    (h : wpListIn F n P ops Q rest a w') : wpListIn F n P ops Q (o :: rest) a w := by
  refine wpListIn_plain hg fun K hK => ⟨fun f _ => hF f, ?_⟩
  rw [Oper.semAt_eq _ _ _ hd, hrun, Oper.uponIn_skip, hdst]
  exact hK _ _ h
theorem run_load_row {P : Program} {o : Oper} {a : Act} {w : World} (ty : TypeId) (x : Operand) (ho : o.op = .load ty x)
    (g : Nat) (hx : a.eval x = .pointer (some ⟨g, 0, none⟩)) (t : TypeId) (cs : Array Value) (fr : Nat × Nat) (d : TypeDesc) (hg : w.heap[g]? = some (.cells cs t fr))
    (hu : P.underlying ty = some d) (hd : (match d with | .struct _ | .array _ _ => true | _ => false) = true) (hi : (P.info? ty).map (·.size) = some cs.size) : (execOp a.eval o).run P w = .ok (.value (.agg cs)) w := by
  unfold execOp
  simp only [ho, hx, Instr.loadAt, Instr.sureAddr, Sem.run_bind, Sem.run_pure, Result.andThen_ok, run_loadVar_row w g t ty cs fr d hg hu hd hi]
theorem run_store_row {P : Program} {w : World} {o : Oper} {a : Act} (ty : TypeId) (x y : Operand) (ho : o.op = .store ty x y) (g : Nat) (cs cur : Array Value)
    (hx : a.eval x = .pointer (some ⟨g, 0, none⟩)) (hy : a.eval y = .agg cs) (hg : w.heap[g]? = some (.cells cur ty)) (hi : (P.info? ty).map (·.size) = some cs.size) (hs : cur.size = cs.size) (h1 : cs.all (·.oneCell') = true) :
    (execOp a.eval o).run P w = .ok .skip (put w g (.cells cs ty)) := by
  unfold execOp
  have hr := run_storeVar_row (P := P) w g ty ty cur cs hg hi hs h1
  rw [setRow_put hg] at hr
  simp only [ho, hx, hy, Instr.storeAt, Instr.sureAddr, Sem.run_bind, Sem.run_pure, Result.andThen_ok, hr]
theorem ownFrom_heap {β : Type} (B k : Nat) (f : β → Array Value) (t : TypeId) (fr : Nat × Nat) : OwnFrom B (fun s X => X.heap[k]? = some (.cells (f s) t fr)) :=
  fun s X Y row hs hg hr => (grownBy_keeps_cells hg (fun r e => (hr r e).2) hs rfl).trans hs
theorem KeepsFrom.chg {S : Nat → Prop} {B : Nat} {X Y : World} (h : Chg S X Y) (hS : ∀ k, S k → k < B) : KeepsFrom B X Y :=
  ⟨h.size, fun k o hB hk _ => (h.block k (lt_of_heap hk) (fun hs => by have := hS k hs; omega)).trans hk⟩
/-- The block that is kept holds something else. -/
theorem take_snoc {α : Type} {L : List α} {k : Nat} {x : α} (h : L[k]? = some x) : L.take (k + 1) = L.take k ++ [x] := by
  obtain ⟨hl, rfl⟩ := List.getElem?_eq_some_iff.1 h
  exact List.take_succ_eq_append_getElem hl
/-- What a body keeps, K, and which blocks are out of its reach, Rk. -/
structure Fen (K : World → World → Prop) (Rk : Nat → World → Prop) : Prop where
  size : ∀ {X Y}, K X Y → X.heap.size ≤ Y.heap.size
  step : ∀ {X Y r}, Rk r X → r < X.heap.size → K X Y → Rk r Y ∧ ∀ o, X.heap[r]? = some o → o.isCells = true → Y.heap[r]? = some o
  below : ∀ {X Y r}, Rk r X → Below X.heap.size X Y → Rk r Y
theorem fen_S (S : Nat → Prop) : Fen (KpS S) (fun r _ => ¬ S r) :=
  ⟨fun h => h.1, fun h _ hk => ⟨h, fun o ho hc => (hk.2 _ o ho hc h).trans ho⟩, fun h _ => h⟩
end Go.Proofs.YthknenhcnpgkcaaGreat

/- A sequence that itself ranges over a function: what it promises (the consumer's state does not mind a turn of any block that is no cells and lies behind); the law of a range over it. -/
namespace Go.Proofs.YthknenhcnpgkcaaGreat
open Go.RowKit Go.Shelf
set_option linter.unusedVariables false
set_option linter.unusedSimpArgs false
/-- As SeqStopsK, asked of fewer states: of those that do not mind such a turn. -/
def SeqOwn {α : Type} (F : Fence) (n : Nat) (P : Program) (g : Nat) (lb : Array Value) (encs : α → Array Value) (Kp : World → World → Prop) (S Sp : List α → Prop) (N : Nat) (w : World) : Prop :=
  ∀ (l : Nat) (J Jx : List α → World → Prop) (W : World), Below w.heap.size w W → OwnFrom W.heap.size J → OwnFrom W.heap.size Jx →
    (∀ pre x W1, J pre W1 → pre.length < N → YieldAt F (n - 1) P l (encs x) W1 fun e W' => KeepsFrom W.heap.size W1 W' ∧ ((e = .returned (.bool true) ∧ J (pre ++ [x]) W' ∧ Kp W1 W') ∨ (e = .returned (.bool false) ∧ Jx (pre ++ [x]) W'))) →
    J [] W → CallsIn F n P g (#[.func (.yield l) #[] #[]] ++ lb) W fun e W' => (∃ v, e = .returned v) ∧ ((∃ xs, S xs ∧ J xs W') ∨ (∃ pre, Sp pre ∧ Jx pre W'))
theorem own_abides {β : Type} {B : Nat} {J : β → World → Prop} (h : OwnFrom B J) : AbidesFrom B J := fun s W W' row hs hg hr => h s W W' row hs hg fun r e => by
  obtain ⟨h1, o, h2, h3⟩ := hr r e
  exact ⟨h1, o, h2, Obj.not_cells_of_walk h3⟩
theorem SeqOwn.of_stops {α : Type} {F : Fence} {n : Nat} {P : Program} {g : Nat} {lb : Array Value} {encs : α → Array Value} {Kp : World → World → Prop} {S Sp : List α → Prop} {N : Nat} {w : World} (h : SeqStopsK F n P g lb encs Kp S Sp N w) : SeqOwn F n P g lb encs Kp S Sp N w :=
  fun l J Jx W hW hJ hJx hY h0 => h l J Jx W hW (own_abides hJ) (own_abides hJx) (fun pre x W1 h1 h2 => (hY pre x W1 h1 h2).mono fun e W' h => h.2) h0
theorem own_up {β : Type} {B B' : Nat} {J : β → World → Prop} (h : OwnFrom B J) (hB : B ≤ B') : OwnFrom B' J := fun s W W' row hs hg hr => h s W W' row hs hg fun r e => ⟨Nat.le_trans hB (hr r e).1, (hr r e).2⟩
theorem keepsFrom_up {B B' : Nat} {W W' : World} (h : KeepsFrom B W W') (hB : B ≤ B') : KeepsFrom B' W W' := ⟨h.size, fun k o hk ho hc => h.same k o (Nat.le_trans hB hk) ho hc⟩
theorem keepsFrom_put {B l : Nat} (W : World) (o : Obj) (hl : l < B) : KeepsFrom B W (W.putObj l o) := ⟨by simp, fun k q hk hq _ => (World.putObj_heap_other (by omega)).trans hq⟩
theorem own_below {β : Type} {B : Nat} {J : β → World → Prop} (h : OwnFrom B J) {s : β} {X Y : World} (hs : J s X) (hb : Below X.heap.size X Y) : J s Y := h s X Y none hs ⟨hb.os, hb.tape, hb.output, hb.size, fun k hk _ => hb.block k hk⟩ (fun r e => by cases e)
/-- A block ahead of B lies as it lay. -/
theorem own_ahead {β : Type} (B k : Nat) (o : Obj) (hk : k < B) : OwnFrom B (fun (_ : β) W => W.heap[k]? = some o) := fun s W W' row hs hg hr =>
  (hg.block k (lt_of_heap hs) fun e => by have := (hr k e.symm).1; omega).trans hs
/-- A loop's record as it is laid down. -/
abbrev lrec (fn : FuncId) (tmps : Array Value) (ps : Array Tmp) (assign body : Code) (d : Nat) (st : LoopState) (pe : Option Code) : Loop := { state := st, pending := pe, fn := fn, tmps := tmps, params := ps, assign := assign, body := body, defers := d }
/-- The range over such a sequence. -/
theorem wpIn_range_own {α : Type} {F : Fence} {n : Nat} {P : Program} {g : Operand} {ps : Array Tmp} {assign body : Code} {Q : Exit → Act → World → Prop} {a : Act} {w : World}
    (hro : F.round = none) (h1 : 1 ≤ n) {gf : Nat} {lb : Array Value} (hg : a.eval g = .func (.func gf) #[] lb) (hFg : F.fn gf) (eg : ∀ args w, (callFunc gf args).run P w = .ok (.enter gf args) w)
    {encs : α → Array Value} {Kp : World → World → Prop} {S Sp : List α → Prop} {N : Nat} {w0 : World} (hseq : SeqOwn F (n - 1) P gf lb encs Kp S Sp N w0)
    (hKt : ∀ {A B C : World}, Kp A B → Kp B C → Kp A C) (hKb : ∀ (W : World) (l : Nat) (o o' : Obj), w.heap.size ≤ l → W.heap[l]? = some o → o.isCells = false → Kp W (W.putObj l o')) (hb0 : Below w0.heap.size w0 w) (hps : ∀ x, (encs x).size = ps.size)
    (I : List α → World → Prop) (Ix : Code → List α → World → Prop) (hI : OwnFrom w.heap.size I) (hIx : ∀ c, OwnFrom w.heap.size (Ix c)) (h0 : I [] w) (Ax : α → Act → Prop)
    (hassign : ∀ (l : Nat) (pre : List α) (x : α) (W : World) (K : Act → World → Prop), I pre W → (∀ a', Ax x a' → K a' W) →
      assign.wpIn (F.inRound l) (n - 1 - 1) P (Exit.then K (fun _ _ _ => False)) { tmps := (ps.zip (encs x)).foldl (fun t (p, v) => t.setIfInBounds p v) a.tmps, defers := [] } W)
    (hbody : ∀ (l : Nat) (pre : List α) (x : α) (a' : Act) (W : World), I pre W → Ax x a' → pre.length < N → body.wpIn (F.inRound l) (n - 1 - 1) P (ownPostG w.heap.size Kp I Ix (pre ++ [x]) W) a' W)
    (hdone : ∀ (D : Nat) (xs : List α) (W : World), w.heap.size ≤ D → S xs → I xs W → W.heap[D]? = some (.deferred (some [])) → Q .normal { a with defers := { target := .collected D, args := #[] } :: a.defers } W)
    (hstop : ∀ (D : Nat) (c : Code) (pre : List α) (W : World), w.heap.size ≤ D → Sp pre → Ix c pre W → W.heap[D]? = some (.deferred (some [])) → c.wpIn F n P Q { a with defers := { target := .collected D, args := #[] } :: a.defers } W) :
    (Code.rangeFunc g ps assign body).wpIn F n P Q a w := by
  refine wpIn_rangeFunc fun fn hfn => ?_
  rw [hro]
  obtain ⟨R, hR⟩ : ∃ R : LoopState → Option Code → Obj, R = fun st pe => .loop (lrec fn a.tmps ps assign body w.heap.size st pe) := ⟨_, rfl⟩
  obtain ⟨V, hV⟩ : ∃ V, V = (w.alloc (.deferred (some []))).alloc (R .ready none) := ⟨_, rfl⟩
  have hbV : Below w.heap.size w V := by rw [hV]; exact ((Below.refl _ w).alloc (Nat.le_refl _) _).alloc (by simp) _
  have hVr : V.heap[w.heap.size + 1]? = some (R .ready none) := by rw [hV]; exact heap_alloc_at _ _ _ (by simp)
  have hVd : V.heap[w.heap.size]? = some (.deferred (some [])) := by rw [hV, heap_alloc_other _ _ _ (by simp)]; exact heap_alloc_at _ _ _ rfl
  have hVs : V.heap.size = w.heap.size + 2 := by rw [hV]; simp
  refine ⟨w.heap.size + 1, [{ target := .collected w.heap.size, args := #[] }], V, { target := .fn (.func gf) lb, args := #[.func (.yield (w.heap.size + 1)) #[] #[]] }, V, gf, #[.func (.yield (w.heap.size + 1)) #[] #[]] ++ lb, V, ?_, ?_, ?_, ?_, fun _ => h1, ?_⟩
  · rw [hV, hR]; exact run_enterLoop_outer _ _ _ _ _
  · simp only [resolve, hg]; simp [go_sem]
  · intro f' hf'; simp [Target.leads] at hf'; subst hf'; exact hFg
  · simp [invoke, go_sem, eg]
  have own2 : ∀ (st : LoopState) (pe : Option Code) (p : List α → World → Prop), OwnFrom w.heap.size p → OwnFrom V.heap.size (fun xs W => p xs W ∧ W.heap[w.heap.size + 1]? = some (R st pe) ∧ W.heap[w.heap.size]? = some (.deferred (some []))) := fun st pe p hp =>
    OwnFrom.and (own_up hp (by omega)) (OwnFrom.and (own_ahead _ _ _ (by omega)) (own_ahead _ _ _ (by omega)))
  refine (hseq (w.heap.size + 1) (fun xs W => I xs W ∧ W.heap[w.heap.size + 1]? = some (R .ready none) ∧ W.heap[w.heap.size]? = some (.deferred (some [])))
    (fun xs W => ∃ c, Ix c xs W ∧ W.heap[w.heap.size + 1]? = some (R .done (some c)) ∧ W.heap[w.heap.size]? = some (.deferred (some []))) V (hb0.trans (hbV.mono hb0.size)) (own2 _ _ _ hI)
    (fun s A B row ⟨c, h⟩ hg' hr => ⟨c, own2 _ _ _ (hIx c) s A B row h hg' hr⟩) ?_ ⟨?_, hVr, hVd⟩).mono ?_
  · rintro pre x W ⟨hi, hr, hd⟩ hlen
    rw [hR] at hr
    refine ⟨fn, _, assign, body, run_yield hr (hps x), roundIn_of_wpIn hfn (hassign _ pre x W _ hi fun a' ha' => ⟨_, run_beginRound hr rfl, ?_⟩)⟩
    obtain ⟨X, hX⟩ : ∃ X, X = W.putObj (w.heap.size + 1) (.loop { lrec fn a.tmps ps assign body w.heap.size .ready none with state := .busy }) := ⟨_, rfl⟩
    have hXr : X.heap[w.heap.size + 1]? = some (.loop { lrec fn a.tmps ps assign body w.heap.size .ready none with state := .busy }) := by rw [hX]; exact World.putObj_heap_same (lt_of_heap hr)
    have hXd : X.heap[w.heap.size]? = some (.deferred (some [])) := by rw [hX, World.putObj_heap_other (by omega)]; exact hd
    have hXI : I pre X := by rw [hX]; exact hI.putObj _ hi (by omega) hr rfl
    have hXF : KeepsFrom V.heap.size W X := by rw [hX]; exact keepsFrom_put _ _ (by omega)
    have hXK : Kp W X := by rw [hX]; exact hKb _ _ _ _ (by omega) hr rfl
    rw [← hX]
    refine wpIn_mono (hbody _ pre x a' X hXI ha' hlen) ?_
    have fin : ∀ (jump : Option Code) (Y : World), KeepsFrom w.heap.size X Y → (Instr.endRound (w.heap.size + 1) jump).run P Y = .ok (.bool jump.isNone) (Y.putObj (w.heap.size + 1) (R (if jump.isNone then .ready else .done) jump)) ∧
        (∀ p : List α → World → Prop, OwnFrom w.heap.size p → ∀ xs, p xs Y → p xs (Y.putObj (w.heap.size + 1) (R (if jump.isNone then .ready else .done) jump)) ∧ (Y.putObj (w.heap.size + 1) (R (if jump.isNone then .ready else .done) jump)).heap[w.heap.size + 1]? = some (R (if jump.isNone then .ready else .done) jump) ∧ (Y.putObj (w.heap.size + 1) (R (if jump.isNone then .ready else .done) jump)).heap[w.heap.size]? = some (.deferred (some []))) ∧ Kp Y (Y.putObj (w.heap.size + 1) (R (if jump.isNone then .ready else .done) jump)) := fun jump Y hY => by
      have hYr := hY.same _ _ (by omega) hXr rfl
      have hYd := hY.same _ _ (Nat.le_refl _) hXd rfl
      refine ⟨by have := run_endRound (P := P) jump hYr; rw [hR]; exact this, fun p hp xs hx => ⟨hp.putObj _ hx (by omega) hYr rfl, World.putObj_heap_same (lt_of_heap hYr), (World.putObj_heap_other (by omega)).trans hYd⟩, hKb _ _ _ _ (by omega) hYr rfl⟩
    have hfF : ∀ (o : Obj) (Y : World), KeepsFrom w.heap.size X Y → KeepsFrom V.heap.size W (Y.putObj (w.heap.size + 1) o) := fun o Y hY => hXF.trans ((keepsFrom_up hY (by omega)).trans (keepsFrom_put _ _ (by omega)))
    rintro e b Y hp
    cases e with
    | normal =>
      obtain ⟨k1, k2, k3⟩ := hp
      obtain ⟨f1, f2, f3⟩ := fin none Y k1
      exact ⟨_, _, f1, hfF _ _ k1, .inl ⟨rfl, f2 I hI _ k3, hKt hXK (hKt k2 f3)⟩⟩
    | ret =>
      obtain ⟨f1, f2, f3⟩ := fin (some .ret) Y hp.1
      exact ⟨_, _, f1, hfF _ _ hp.1, .inr ⟨rfl, _, f2 _ (hIx _) _ hp.2⟩⟩
    | exit id =>
      obtain ⟨f1, f2, f3⟩ := fin (some (.exit id)) Y hp.1
      exact ⟨_, _, f1, hfF _ _ hp.1, .inr ⟨rfl, _, f2 _ (hIx _) _ hp.2⟩⟩
    | goto t =>
      obtain ⟨f1, f2, f3⟩ := fin (some (.goto t)) Y hp.1
      exact ⟨_, _, f1, hfF _ _ hp.1, .inr ⟨rfl, _, f2 _ (hIx _) _ hp.2⟩⟩
    | panic ch => exact hp.elim
    | outgrown => exact hp.elim
  · rw [hV]; exact hI.alloc _ (hI.alloc _ h0)
  · rintro e Y ⟨⟨v, rfl⟩, h⟩
    rcases h with ⟨xs, hS, hi, hr, hd⟩ | ⟨pre, hSp, c, hi, hr, hd⟩
    · rw [hR] at hr
      exact ⟨none, _, run_endLoop hr (by simp), hdone _ xs _ (Nat.le_refl _) hS (hI.putObj _ hi (by omega) hr rfl) ((World.putObj_heap_other (by omega)).trans hd)⟩
    · rw [hR] at hr
      exact ⟨some c, _, run_endLoop hr (by simp), hstop _ c pre _ (Nat.le_refl _) hSp ((hIx c).putObj _ hi (by omega) hr rfl) ((World.putObj_heap_other (by omega)).trans hd)⟩
end Go.Proofs.YthknenhcnpgkcaaGreat

/- Package walk: All. -/
namespace Go.Proofs.YthknenhcnpgkcaaGreat
open Go.RowKit Go.Shelf
attribute [local go_sem] Oper.semAt_some
set_option linter.unusedVariables false
set_option linter.unusedSimpArgs false
theorem walkAll_is (g : Value) (W : World) (hg : g.oneCell' = true) : Calls Tryz.prog 6 #[g] W fun e W' => e = .returned (.func (.func 24) #[] #[.pointer (some ⟨W.heap.size, 0, none⟩)]) ∧ W' = W.alloc (.cells #[g] 27) := by
  go_enter Tryz.func6, Tryz.ntmps6
  go_wp2_with fail
  go_ret
  exact ⟨rfl, rfl⟩
/-- Pointer g is of a shelf that holds xs, or of none. -/
def Gives (g : Option Addr) (xs : List It) (w : World) : Prop := ∀ W, Below w.heap.size w W → Calls Tryz.prog 25 #[.pointer g] W fun en W' => ∃ ao cc, en = .returned (.slice ao xs.length cc) ∧ Row W' 59 2 (.slice ao xs.length cc) xs.length (flat xs) ∧ Below W.heap.size W W' ∧ ∀ k, k < W.heap.size → blk (.slice ao xs.length cc) k = 0
theorem Sh.gives {B0 : Nat} {w0 : World} {most : Int} {xs : List It} {g : Nat} {w : World} (h : Sh B0 w0 most xs g w) (hn : xs.length ≤ 900) : Gives (some ⟨g, 0, none⟩) xs w := fun W hW => sh_items (h.on hW h.ge) (by omega)
theorem Gives.on {g : Option Addr} {xs : List It} {w w' : World} (h : Gives g xs w) (hb : Below w.heap.size w w') : Gives g xs w' := fun W hW => h W (hb.trans (hW.mono hb.size))
set_option maxRecDepth 100000 in
theorem gives_nil (w : World) : Gives none [] w := fun W hW => by
  go_enter Tryz.func25, Tryz.ntmps25
  go_wp2_with fail
  go_ret
  exact ⟨none, 0, rfl, World.ownsRow_nil _ _ _ _, Below.refl _ _, fun k _ => blk_nil _ _ _⟩
set_option maxRecDepth 100000 in
set_option maxHeartbeats 4000000 in
theorem walkAll1_gen (n : Nat) {xs : List It} {g : Option Addr} {w : World} (h : Gives g xs w) (hn : xs.length ≤ 900) (B : Nat) (hB : w.cell? ⟨B, 0, none⟩ = some (.pointer g))
    {α : Type} (A : List α) (f : α → It) (hAf : A.map f = xs) {K : World → World → Prop} {Rk : Nat → World → Prop} (hF : Fen K Rk) (hfr : ∀ (W : World) (r : Nat), Below w.heap.size w W → W.heap.size ≤ r → Rk r W) :
    SeqStopsK Fence.wide n Tryz.prog 24 #[.pointer (some ⟨B, 0, none⟩)] (fun x : α => #[.string (f x).1, .string (f x).2]) K (fun ys => ys = A) (fun pre => ∃ k, k ≤ A.length ∧ pre = A.take k) A.length w := fun ll J Jx W hW hJ hJx hY h0 => by
  refine callsIn_wide.2 ?_
  have hBl := World.block_lt_of_cell? _ _ hB
  have hB1 := (hW.cell hBl).trans hB
  have hJb : ∀ s A B, J s A → Below A.heap.size A B → J s B := fun s A B hs hb => hJ s A B none hs ⟨hb.os, hb.tape, hb.output, hb.size, fun k hk _ => hb.block k hk⟩ (fun r e => by cases e)
  have hz := hW.size
  have hits := h W hW
  have HFR := hid (fun r => hfr W r hW)
  have HJB := hid hJb
  have HY := hid hY
  clear hJ hJx hY hJb h hB hBl hfr
  go_enter Tryz.func24, Tryz.ntmps24
  go_wp2_with fail
  refine hits.mono ?_
  rintro _ W1 ⟨a1, c1, rfl, hr1, hb1, hf1⟩
  have hJ1 := HJB.out _ _ _ h0 hb1
  have hz1 := hb1.size
  have HJ1 := hid hJ1
  have HA := hid hr1
  obtain ⟨m, hLm⟩ : ∃ m, xs.length = m := ⟨_, rfl⟩
  have HLM := hid hLm
  have HAM := hid (show A.length = m by rw [← hLm, ← hAf, List.length_map])
  have HAF := hid hAf
  have HG := hid (show ∀ r, blk (.slice a1 m c1) r ≠ 0 → Rk r W1 from fun r hr => hF.below (HFR.out r (Nat.le_of_not_lt fun e => by rw [← hLm] at hr; exact hr (hf1 r e))) hb1)
  clear hJ1 hr1 hb1 h0 hits hf1 hAf
  rw [hLm] at hn HA ⊢
  clear hLm
  go_wp2_with fail
  go_loopw [8] (fun i wr => ∃ k : Nat, k ≤ m ∧ i = .int .i64 k ∧ W1.heap.size ≤ wr.heap.size ∧ Hid (J (A.take k) wr) ∧ Hid (Row wr 59 2 (.slice a1 m c1) m (flat xs)) ∧ Hid (∀ r, blk (.slice a1 m c1) r ≠ 0 → Rk r wr)) (fun i _ => m - (intOf i).toNat)
  case atStart => exact ⟨0, Nat.zero_le _, rfl, Nat.le_refl _, hid (by simpa using HJ1.out), HA, HG⟩
  case round =>
    obtain ⟨k, hk, rfl, hzr, hJk, hrow, hrk⟩ := hrel
    by_cases hlt : k < m
    · obtain ⟨q, hq⟩ : ∃ q, A[k]? = some q := ⟨A[k]'(by rw [HAM.out]; exact hlt), List.getElem?_eq_getElem _⟩
      have hp : xs[k]? = some (f q) := by rw [← HAF.out, List.getElem?_map, hq]; rfl
      have HQ := hid hq
      clear hq
      obtain ⟨p, hpq⟩ : ∃ p, p = f q := ⟨_, rfl⟩
      rw [← hpq] at hp
      have HPQ := hid hpq
      clear hpq
      obtain ⟨r, o, rfl, c0, c2, c1'⟩ := (show Src wr 2 (.slice a1 xs.length c1) xs.length (flat xs) by rw [HLM.out]; exact hrow.out.src (flat_one _)).at_ k p hp
      have hr := World.block_lt_of_cell? _ _ c0
      have HP := hid hp
      clear hp
      go_upto_region 3 with fail
      have hp2 : (wr.alloc (.cells #[.string p.1, .string p.2] 59)).heap[wr.heap.size]? = some (.cells #[.string p.1, .string p.2] 59) := heap_alloc_at _ _ _ rfl
      have hb2 : Below wr.heap.size wr (wr.alloc (.cells #[.string p.1, .string p.2] 59)) := (by repeat' (first | exact Below.refl _ _ | with_reducible assumption | omega | with_reducible refine below_put_fut ?_ ?_ _ | with_reducible refine below_to_put ?_ | with_reducible refine Below.alloc ?_ ?_ _ | with_reducible refine Below.fut ?_ ?_ _ | with_reducible refine Below.drew ?_ | with_reducible refine Below.setCell ?_ ?_ _ | with_reducible refine Below.atPut ?_ ?_ _ | (simp [go_sem]; done) | (simp [go_sem]; omega)))
      generalize wr.alloc (.cells _ 59) = W2 at hp2 hb2 ⊢
      have hq0 := cell_of_row W2 _ 0 _ _ (0, 0) hp2
      have hq1 := cell_of_row W2 _ 1 _ _ (0, 0) hp2
      rw [← wpIn_wide (n := n)]
      refine wpIn_region_lit ?_
      refine wpListIn_runTo (fun _ => trivial) rfl (fun _ h => by cases h) (some 12) rfl (.func (.yield ll) #[] #[]) W2 (by simp [execOp, Act.eval, Act.put, go_sem]) ?_
      simp only [Act.put, List.setIfInBounds_toArray, List.set_cons_succ, List.set_cons_zero]
      refine wpListIn_runTo (fun _ => trivial) rfl (fun _ h => by cases h) (some 13) rfl (.pointer (some ⟨wr.heap.size, 0, none⟩)) W2 (by simp [execOp, Act.eval, Act.put, go_sem]) ?_
      simp only [Act.put, List.setIfInBounds_toArray, List.set_cons_succ, List.set_cons_zero]
      refine wpListIn_runTo (fun _ => trivial) rfl (fun _ h => by cases h) (some 14) rfl (.string p.1) W2 (by simp [execOp, Act.eval, Act.put, go_sem, hq0]) ?_
      simp only [Act.put, List.setIfInBounds_toArray, List.set_cons_succ, List.set_cons_zero]
      refine wpListIn_runTo (fun _ => trivial) rfl (fun _ h => by cases h) (some 15) rfl (.pointer (some ⟨wr.heap.size, 1, none⟩)) W2 (by simp [execOp, Act.eval, Act.put, go_sem]) ?_
      simp only [Act.put, List.setIfInBounds_toArray, List.set_cons_succ, List.set_cons_zero]
      refine wpListIn_runTo (fun _ => trivial) rfl (fun _ h => by cases h) (some 16) rfl (.string p.2) W2 (by simp [execOp, Act.eval, Act.put, go_sem, hq1]) ?_
      simp only [Act.put, List.setIfInBounds_toArray, List.set_cons_succ, List.set_cons_zero]
      have hz4 := hb2.size
      obtain ⟨fn, tmps, assign, body, hy, hR⟩ := HY.out _ q W2 (HJB.out _ _ _ hJk.out hb2) (by rw [List.length_take, HAM.out]; omega)
      try dsimp only at hy
      rw [← HPQ.out] at hy
      gi_wp2_with fail
      refine ⟨fun h => (by cases h), ?_⟩
      refine hR.mono ?_
      clear hy hR
      rintro e W4 (⟨rfl, hJ4, hk4⟩ | ⟨rfl, hJx4⟩)
      · have hst : ∀ q, blk (.slice (some ⟨r, o, none⟩) m c1) q ≠ 0 → Rk q W4 ∧ ∀ o', W2.heap[q]? = some o' → o'.isCells = true → W4.heap[q]? = some o' := fun q hq => by
          have hql := hrow.out.lt hq
          exact hF.step (hF.below (hrk.out q hq) hb2) (Nat.lt_of_lt_of_le hql hb2.size) hk4
        have hrow4 := hid (show Row W4 59 2 (.slice (some ⟨r, o, none⟩) m c1) m (flat xs) from (hrow.out.keep fun q hq => hb2.block q (hrow.out.lt hq)).keep fun q hq => by
          obtain ⟨r2, c3, hv, _, _⟩ := World.ownsRow.form hrow.out (by omega)
          injection hv with hv; injection hv with hv; cases hv
          have hrow2 := hrow.out.keep (W' := W2) fun q hq => hb2.block q (hrow.out.lt hq)
          obtain ⟨cur, _, _, hcur, _, _⟩ := row_open hrow2
          rw [blk_at _ _ _ _ _ none] at hq
          obtain rfl := one_ne hq
          rw [(hst q (by rw [blk_at _ _ _ _ _ none, one_self]; omega)).2 _ hcur rfl, hcur])
        have hrk4 := hid (fun q hq => (hst q hq).1)
        have HJ4 := hid hJ4
        have hz5 := hF.size hk4
        clear hJ4 hk4 hp2 hst hq0 hq1
        gi_wp2_with fail
        go_wp2_with fail
        exact ⟨⟨k + 1, by omega, by go_num, by omega, by rw [take_snoc HQ.out]; exact HJ4, hrow4, hrk4⟩, by simp [intOf]; omega⟩
      · gi_wp2_with fail
        go_wp2_with fail
        exact bodyPost_ret (results_none rfl _ _ _) rfl ⟨⟨_, rfl⟩, .inr ⟨_, ⟨k + 1, by have := HAM.out; omega, (take_snoc HQ.out).symm⟩, hJx4⟩⟩
    · obtain rfl : k = m := by omega
      have HJ5 := hid (show J A wr from by have := hJk.out; rwa [List.take_of_length_le (Nat.le_of_eq HAM.out)] at this)
      go_wp2_with fail
      go_end0
      exact ⟨⟨_, rfl⟩, .inl ⟨_, rfl, HJ5.out⟩⟩
theorem walkAll1_stops (n : Nat) {B0 : Nat} {w0 : World} {most : Int} {xs : List It} {g : Nat} {w : World} (h : Sh B0 w0 most xs g w) (hn : xs.length ≤ 900) (B : Nat) (hB : w.cell? ⟨B, 0, none⟩ = some (.pointer (some ⟨g, 0, none⟩)))
    {α : Type} (A : List α) (f : α → It) (hAf : A.map f = xs) {K : World → World → Prop} {Rk : Nat → World → Prop} (hF : Fen K Rk) (hfr : ∀ (W : World) (r : Nat), Below w.heap.size w W → W.heap.size ≤ r → Rk r W) :
    SeqStopsK Fence.wide n Tryz.prog 24 #[.pointer (some ⟨B, 0, none⟩)] (fun x : α => #[.string (f x).1, .string (f x).2]) K (fun ys => ys = A) (fun pre => ∃ k, k ≤ A.length ∧ pre = A.take k) A.length w :=
  walkAll1_gen n (h.gives hn) hn B hB A f hAf hF hfr
end Go.Proofs.YthknenhcnpgkcaaGreat

/- Package walk: At. -/
namespace Go.Proofs.YthknenhcnpgkcaaGreat
open Go.RowKit Go.Shelf
set_option linter.unusedVariables false
set_option linter.unusedSimpArgs false
set_option maxRecDepth 100000 in
set_option maxHeartbeats 4000000 in
theorem walkAt_none {B0 : Nat} {w0 : World} {most : Int} {xs : List It} {g : Nat} {W : World} (h : Sh B0 w0 most xs g W) (hn : xs.length ≤ 900) (i : Int) (hi : i < 0 ∨ xs.length ≤ i) :
    Calls Tryz.prog 18 #[.pointer (some ⟨g, 0, none⟩), .int .i64 i] W (Makes (.tuple #[.agg #[.string ⟨#[]⟩, .string ⟨#[]⟩], .bool false]) W) := by
  have H1 := hid h
  obtain ⟨m, hm⟩ : ∃ m, xs.length = m := ⟨_, rfl⟩
  rw [hm] at hi
  have hl := hid (fun (X : World) (hb : Below W.heap.size W X) => sh_len (H1.out.on hb H1.out.ge) m hm)
  clear h hn hm
  rcases Int.lt_or_le i 0 with c | c
  · have d1 : decide (i < 0) = true := decide_eq_true c
    clear hi c
    go_enter Tryz.func18, Tryz.ntmps18
    go_wp2_with fail
    refine bodyPost_ret (v := .tuple #[.agg #[.string ⟨#[]⟩, .string ⟨#[]⟩], .bool false]) (results_row_tmp rfl _ _ W.heap.size 59 #[.string ⟨#[]⟩, .string ⟨#[]⟩] (0, 0) _ (.bool false) rfl rfl (heap_alloc_at _ _ _ rfl) Tryz.underlying59 rfl (by kernel_rfl)) rfl (.mk rfl (by repeat' (first | exact Below.refl _ _ | with_reducible assumption | omega | with_reducible refine below_put_fut ?_ ?_ _ | with_reducible refine below_to_put ?_ | with_reducible refine Below.alloc ?_ ?_ _ | with_reducible refine Below.fut ?_ ?_ _ | with_reducible refine Below.drew ?_ | with_reducible refine Below.setCell ?_ ?_ _ | with_reducible refine Below.atPut ?_ ?_ _ | (simp [go_sem]; done) | (simp [go_sem]; omega))))
  · have d1 : decide (i < 0) = false := decide_eq_false (by omega)
    have d2 : decide ((m : Int) ≤ i) = true := decide_eq_true (by omega)
    clear hi c
    go_enter Tryz.func18, Tryz.ntmps18
    go_wp2_with fail
    (((with_reducible refine (hl.out _ (by repeat' (first | exact Below.refl _ _ | with_reducible assumption | omega | with_reducible refine below_put_fut ?_ ?_ _ | with_reducible refine below_to_put ?_ | with_reducible refine Below.alloc ?_ ?_ _ | with_reducible refine Below.fut ?_ ?_ _ | with_reducible refine Below.drew ?_ | with_reducible refine Below.setCell ?_ ?_ _ | with_reducible refine Below.atPut ?_ ?_ _ | (simp [go_sem]; done) | (simp [go_sem]; omega)))).mono ?_)); rintro _ _ ⟨rfl, u, rfl⟩)
    have hbw : Below W.heap.size W u.val := (by repeat' (first | exact Below.refl _ _ | with_reducible assumption | omega | with_reducible refine below_put_fut ?_ ?_ _ | with_reducible refine below_to_put ?_ | with_reducible refine Below.alloc ?_ ?_ _ | with_reducible refine Below.fut ?_ ?_ _ | with_reducible refine Below.drew ?_ | with_reducible refine Below.setCell ?_ ?_ _ | with_reducible refine Below.atPut ?_ ?_ _ | (simp [go_sem]; done) | (simp [go_sem]; omega)))
    have hcu : u.val.heap[W.heap.size]? = some (.cells #[.string ⟨#[]⟩, .string ⟨#[]⟩] 59) := (u.below.block _ (by simp)).trans (heap_alloc_at _ _ _ rfl)
    have hgl := lt_of_heap hcu
    generalize u.val = X at hbw hcu hgl ⊢
    rw [← put_self hcu]
    go_wp2_with fail
    refine bodyPost_ret (v := .tuple #[.agg #[.string ⟨#[]⟩, .string ⟨#[]⟩], .bool false]) (results_row_tmp rfl _ _ W.heap.size 59 #[.string ⟨#[]⟩, .string ⟨#[]⟩] (0, 0) _ (.bool false) rfl rfl (heap_put_at _ _ _ hgl) Tryz.underlying59 rfl (by kernel_rfl)) rfl (.mk rfl (by repeat' (first | exact Below.refl _ _ | with_reducible assumption | omega | with_reducible refine below_put_fut ?_ ?_ _ | with_reducible refine below_to_put ?_ | with_reducible refine Below.alloc ?_ ?_ _ | with_reducible refine Below.fut ?_ ?_ _ | with_reducible refine Below.drew ?_ | with_reducible refine Below.setCell ?_ ?_ _ | with_reducible refine Below.atPut ?_ ?_ _ | (simp [go_sem]; done) | (simp [go_sem]; omega))))
set_option maxRecDepth 100000 in
set_option maxHeartbeats 4000000 in
theorem walkAt_some {B0 : Nat} {w0 : World} {most : Int} {xs : List It} {g : Nat} {W : World} (h : Sh B0 w0 most xs g W) (hn : xs.length ≤ 900) (i : Nat) (x : It) (hx : xs[i]? = some x) :
    Calls Tryz.prog 18 #[.pointer (some ⟨g, 0, none⟩), .int .i64 i] W (Makes (.tuple #[.agg #[.string x.1, .string x.2], .bool true]) W) := by
  have H1 := hid h
  obtain ⟨m, hm⟩ : ∃ m, xs.length = m := ⟨_, rfl⟩
  have hi : i < m := by rw [← hm]; exact (List.getElem?_eq_some_iff.1 hx).1
  have hl := hid (fun (X : World) (hb : Below W.heap.size W X) => sh_len (H1.out.on hb H1.out.ge) m hm)
  have hits := hid (fun (X : World) (hb : Below W.heap.size W X) => sh_items (H1.out.on hb H1.out.ge) (by omega))
  have HX := hid hx
  have HM := hid hm
  clear h hn hx hm
  have d1 : decide ((i : Int) < 0) = false := decide_eq_false (by omega)
  have d2 : decide ((m : Int) ≤ i) = false := decide_eq_false (by omega)
  go_enter Tryz.func18, Tryz.ntmps18
  go_wp2_with fail
  (((with_reducible refine (hl.out _ (by repeat' (first | exact Below.refl _ _ | with_reducible assumption | omega | with_reducible refine below_put_fut ?_ ?_ _ | with_reducible refine below_to_put ?_ | with_reducible refine Below.alloc ?_ ?_ _ | with_reducible refine Below.fut ?_ ?_ _ | with_reducible refine Below.drew ?_ | with_reducible refine Below.setCell ?_ ?_ _ | with_reducible refine Below.atPut ?_ ?_ _ | (simp [go_sem]; done) | (simp [go_sem]; omega)))).mono ?_)); rintro _ _ ⟨rfl, u, rfl⟩)
  have hbu : Below W.heap.size W u.val := (by repeat' (first | exact Below.refl _ _ | with_reducible assumption | omega | with_reducible refine below_put_fut ?_ ?_ _ | with_reducible refine below_to_put ?_ | with_reducible refine Below.alloc ?_ ?_ _ | with_reducible refine Below.fut ?_ ?_ _ | with_reducible refine Below.drew ?_ | with_reducible refine Below.setCell ?_ ?_ _ | with_reducible refine Below.atPut ?_ ?_ _ | (simp [go_sem]; done) | (simp [go_sem]; omega)))
  have hcu : u.val.heap[W.heap.size]? = some (.cells #[.string ⟨#[]⟩, .string ⟨#[]⟩] 59) := (u.below.block _ (by simp)).trans (heap_alloc_at _ _ _ rfl)
  go_wp2_with fail
  refine (hits.out _ (by repeat' (first | exact Below.refl _ _ | with_reducible assumption | omega | with_reducible refine below_put_fut ?_ ?_ _ | with_reducible refine below_to_put ?_ | with_reducible refine Below.alloc ?_ ?_ _ | with_reducible refine Below.fut ?_ ?_ _ | with_reducible refine Below.drew ?_ | with_reducible refine Below.setCell ?_ ?_ _ | with_reducible refine Below.atPut ?_ ?_ _ | (simp [go_sem]; done) | (simp [go_sem]; omega)))).mono ?_
  rintro _ W2 ⟨ao, cc, rfl, hr, hb2, hf⟩
  obtain ⟨b, o, rfl, p1, p2, p3⟩ := (hr.src (flat_one _)).at_ i x HX.out
  have hc2 := (hb2.block _ (lt_of_heap hcu)).trans hcu
  have hbw := hbu.trans (hb2.mono hbu.size)
  have hgl := lt_of_heap hc2
  have hbl := World.block_lt_of_cell? _ _ p1
  have hne : b ≠ W.heap.size := fun e => by
    obtain ⟨r2, c3, hv, _, _⟩ := World.ownsRow.form hr (by rw [HM.out]; omega)
    injection hv with hv; injection hv with hv; cases hv
    have := hf b (by rw [e]; exact lt_of_heap hcu)
    rw [blk_at _ _ _ _ _ none, one_self] at this; omega
  have hne2 : (b = W.heap.size) = False := eq_false hne
  have hne3 : (W.heap.size = b) = False := eq_false (fun e => hne e.symm)
  rw [HM.out]
  rw [← put_self hc2]
  clear hr hb2 hcu hbu hf
  go_wp2_with fail
  refine bodyPost_ret (v := .tuple #[.agg #[.string x.1, .string x.2], .bool true]) (results_row_tmp rfl _ _ W.heap.size 59 #[.string x.1, .string x.2] (0, 0) _ (.bool true) rfl rfl (heap_put_at _ _ _ hgl) Tryz.underlying59 rfl (by kernel_rfl)) rfl (.mk rfl (by repeat' (first | exact Below.refl _ _ | with_reducible assumption | omega | with_reducible refine below_put_fut ?_ ?_ _ | with_reducible refine below_to_put ?_ | with_reducible refine Below.alloc ?_ ?_ _ | with_reducible refine Below.fut ?_ ?_ _ | with_reducible refine Below.drew ?_ | with_reducible refine Below.setCell ?_ ?_ _ | with_reducible refine Below.atPut ?_ ?_ _ | (simp [go_sem]; done) | (simp [go_sem]; omega))))
end Go.Proofs.YthknenhcnpgkcaaGreat

/- Package walk: Rank. -/
namespace Go.Proofs.YthknenhcnpgkcaaGreat
open Go.RowKit Go.Shelf
attribute [local go_sem] Oper.semAt_some
set_option linter.unusedVariables false
set_option linter.unusedSimpArgs false
/-- How many items are ahead of a key. -/
def rankL (k : ByteArray) (xs : List It) : Nat := (xs.filter fun x => lt x.1 k).length
theorem rankL_cut {A B : List It} {y : It} {k : ByteArray} (hr : Rises (A ++ y :: B)) (h1 : ∀ x ∈ A, lt x.1 k = true) (h2 : lt y.1 k = false) : rankL k (A ++ y :: B) = A.length := by
  obtain ⟨_, h3, _, _⟩ := hr.mid
  unfold rankL
  rw [List.filter_append, List.filter_eq_self.2 h1, List.filter_eq_nil_iff.2, List.append_nil]
  intro z hz e
  rcases List.mem_cons.1 hz with rfl | hz
  · rw [h2] at e; cases e
  · rw [lt_trans (h3 z hz) e] at h2; cases h2
set_option maxRecDepth 100000 in
set_option maxHeartbeats 4000000 in
theorem rank_gen {xs : List It} {g : Option Addr} {W : World} (h : Gives g xs W) (hn : xs.length ≤ 900) (hrises : Rises xs) (hsmall : ∀ x ∈ xs, x.1.size ≤ maxLen) (k : ByteArray) (hk : k.size ≤ maxLen) :
    Calls Tryz.prog 19 #[.pointer g, .string k] W (Makes (.int .i64 (rankL k xs : Nat)) W) := by
  refine callsIn_wide.1 (callsIn_of_wp_marks (n := 9) Tryz.func19 rfl trivial ?_ rfl)
  rw [wpIn_wide]
  simp only [Tryz.ntmps19, List.size_toArray, List.length_cons, List.length_nil, Nat.reduceAdd, Nat.reduceSub, Array.replicate_succ, Array.replicate_zero, List.push_toArray, List.append_toArray, List.nil_append, List.cons_append]
  go_wp2_with fail
  go_step3
  go_wp2_with fail
  go_step3
  go_wp2_with fail
  (((with_reducible refine (walkAll_is (.pointer g) _ rfl).mono ?_)); rintro _ _ ⟨rfl, rfl⟩)
  go_wp2_with fail
  have h4 : ((((W.alloc (.cells #[.string k] 9)).alloc (.cells #[.int .i64 0] 3)).alloc (.cells #[.pointer g] 27))).heap[W.heap.size]? = some (.cells #[.string k] 9) := (by repeat' (first | rfl | assumption | (with_reducible refine (heap_drew_eq _ _).trans ?_) | (refine (Fut.heap _ _ ?_).trans ?_ ; focus (first | assumption | omega | (simp [go_sem]; done) | (simp [go_sem]; omega))) | (refine (heap_put_at _ _ _ ?_).trans ?_ ; focus (first | assumption | omega | (simp [go_sem]; done) | (simp [go_sem]; omega))) | (refine (heap_put_other _ _ _ _ ?_).trans ?_ ; focus (first | assumption | omega | (simp [go_sem]; done) | (simp [go_sem]; omega))) | (refine (heap_alloc_other _ _ _ ?_).trans ?_ ; focus (first | assumption | omega | (simp [go_sem]; done) | (simp [go_sem]; omega))) | (refine (heap_alloc_at _ _ _ ?_).trans ?_ ; focus (first | assumption | omega | (simp [go_sem]; done) | (simp [go_sem]; omega))) | (simp [go_sem]; done) | (simp [go_sem]; omega)))
  have h5 : ((((W.alloc (.cells #[.string k] 9)).alloc (.cells #[.int .i64 0] 3)).alloc (.cells #[.pointer g] 27))).heap[W.heap.size + 1]? = some (.cells #[.int .i64 0] 3) := (by repeat' (first | rfl | assumption | (with_reducible refine (heap_drew_eq _ _).trans ?_) | (refine (Fut.heap _ _ ?_).trans ?_ ; focus (first | assumption | omega | (simp [go_sem]; done) | (simp [go_sem]; omega))) | (refine (heap_put_at _ _ _ ?_).trans ?_ ; focus (first | assumption | omega | (simp [go_sem]; done) | (simp [go_sem]; omega))) | (refine (heap_put_other _ _ _ _ ?_).trans ?_ ; focus (first | assumption | omega | (simp [go_sem]; done) | (simp [go_sem]; omega))) | (refine (heap_alloc_other _ _ _ ?_).trans ?_ ; focus (first | assumption | omega | (simp [go_sem]; done) | (simp [go_sem]; omega))) | (refine (heap_alloc_at _ _ _ ?_).trans ?_ ; focus (first | assumption | omega | (simp [go_sem]; done) | (simp [go_sem]; omega))) | (simp [go_sem]; done) | (simp [go_sem]; omega)))
  have hBx : ((((W.alloc (.cells #[.string k] 9)).alloc (.cells #[.int .i64 0] 3)).alloc (.cells #[.pointer g] 27))).heap[W.heap.size + 1 + 1]? = some (.cells #[.pointer g] 27) := (by repeat' (first | rfl | assumption | (with_reducible refine (heap_drew_eq _ _).trans ?_) | (refine (Fut.heap _ _ ?_).trans ?_ ; focus (first | assumption | omega | (simp [go_sem]; done) | (simp [go_sem]; omega))) | (refine (heap_put_at _ _ _ ?_).trans ?_ ; focus (first | assumption | omega | (simp [go_sem]; done) | (simp [go_sem]; omega))) | (refine (heap_put_other _ _ _ _ ?_).trans ?_ ; focus (first | assumption | omega | (simp [go_sem]; done) | (simp [go_sem]; omega))) | (refine (heap_alloc_other _ _ _ ?_).trans ?_ ; focus (first | assumption | omega | (simp [go_sem]; done) | (simp [go_sem]; omega))) | (refine (heap_alloc_at _ _ _ ?_).trans ?_ ; focus (first | assumption | omega | (simp [go_sem]; done) | (simp [go_sem]; omega))) | (simp [go_sem]; done) | (simp [go_sem]; omega)))
  have hbV : Below W.heap.size W ((((W.alloc (.cells #[.string k] 9)).alloc (.cells #[.int .i64 0] 3)).alloc (.cells #[.pointer g] 27))) := (by repeat' (first | exact Below.refl _ _ | with_reducible assumption | omega | with_reducible refine below_put_fut ?_ ?_ _ | with_reducible refine below_to_put ?_ | with_reducible refine Below.alloc ?_ ?_ _ | with_reducible refine Below.fut ?_ ?_ _ | with_reducible refine Below.drew ?_ | with_reducible refine Below.setCell ?_ ?_ _ | with_reducible refine Below.atPut ?_ ?_ _ | (simp [go_sem]; done) | (simp [go_sem]; omega)))
  generalize (((W.alloc (.cells #[.string k] 9)).alloc (.cells #[.int .i64 0] 3)).alloc (.cells #[.pointer g] 27)) = V at h4 h5 hBx hbV ⊢
  have hV4 := lt_of_heap hBx
  have hVs := hbV.size
  refine wpIn_wide.1 (wpIn_rangeFunc_ownH (F := Fence.wide) (n := 9) rfl (by omega) (gf := 24) (lb := #[.pointer (some ⟨W.heap.size + 1 + 1, 0, none⟩)]) rfl trivial (enters_of Tryz.func24 (by kernel_rfl) rfl)
    (walkAll1_gen 8 (h.on hbV) hn (W.heap.size + 1 + 1) (cell_of_row _ _ 0 _ _ (0, 0) hBx) xs.attach Subtype.val (List.attach_map_subtype_val xs) (fen_S (fun r => r = W.heap.size + 1)) (fun W' r hb hr e => by have := hb.size; omega)) (fun h k => h.trans k) (fun X q o o' hq hX hc _ => KpS.putObj _ X q o o' hX hc) (Below.refl _ _) (fun _ => rfl)
    (fun pre X => ((X.heap[W.heap.size]? = some (.cells #[.string k] 9) ∧ X.heap[W.heap.size + 1]? = some (.cells #[.int .i64 (pre.length : Nat)] 3)) ∧ Below W.heap.size W X) ∧ pre.length ≤ 1000 ∧ ∀ y ∈ pre, lt y.1.1 k = true)
    (fun c pre X => (c = .exit 0 ∧ ∃ p y, pre = p ++ [y] ∧ (∀ y ∈ p, lt y.1.1 k = true) ∧ lt y.1.1 k = false ∧ X.heap[W.heap.size + 1]? = some (.cells #[.int .i64 (p.length : Nat)] 3)) ∧ Below W.heap.size W X)
    ?hI ?hIx ⟨⟨⟨h4, h5⟩, hbV⟩, by simp, by simp⟩
    (fun y a' X => a' = { tmps := #[.pointer g, .string k, undef, .pointer (some ⟨W.heap.size, 0, none⟩), .int .i64 0, .pointer (some ⟨W.heap.size + 1, 0, none⟩), .string y.1.1, .pointer g, .func (.func 24) #[] #[.pointer (some ⟨W.heap.size + 1 + 1, 0, none⟩)], .string y.1.1, .string y.1.2, undef, undef, undef, undef, undef, undef, undef], defers := [] })
    (fun x a' s X Y row hs hg hr => hs) ?assign ?body ?done ?stop)
  case hI => exact OwnFrom.and (OwnFrom.and (OwnFrom.and (ownFrom_heap _ _ (fun _ => #[.string k]) _ _) (ownFrom_heap _ _ (fun pre : List {x // x ∈ xs} => #[.int .i64 (pre.length : Nat)]) _ _)) (ownFrom_below (Nat.le_refl _) hVs)) (fun _ _ _ _ hs _ _ => hs)
  case hIx =>
    exact fun c => OwnFrom.and (fun s X Y row hs hg hr => by
      obtain ⟨h1, p, y, h2, h3, h6, h7⟩ := hs
      exact ⟨h1, p, y, h2, h3, h6, (grownBy_keeps_cells hg (fun r e => (hr r e).2) h7 rfl).trans h7⟩) (ownFrom_below (Nat.le_refl _) hVs)
  case assign =>
    rintro ll pre y X K ⟨⟨⟨i4, i5⟩, iB⟩, iL, iO⟩ hK
    refine wpIn_region_lit ?_
    refine wpListIn_runTo (fun _ => trivial) rfl (fun _ h => by cases h) (some 6) rfl (.string y.1.1) X (by simp [execOp, Act.eval]) ?_
    refine wpListIn_nil ?_
    exact hK _ _ (KeepsFrom.chg (S := fun _ => False) (Chg.refl _ _) (fun k hk => hk.elim)) (KpS.refl _ _) ⟨⟨⟨i4, i5⟩, iB⟩, iL, iO⟩ (by simp [Act.put])
  case body =>
    rintro ll pre y a' X hll hr ⟨⟨⟨i4, i5⟩, iB⟩, iL, iO⟩ rfl hlen
    have hx4 := lt_of_heap i4
    have hx5 := lt_of_heap i5
    have hXs := iB.size
    have e4 := fun i => cell_of_row X W.heap.size i _ _ (0, 0) i4
    have hys := hsmall y.1 y.2
    have I4 := hid i4
    have I5 := hid i5
    have IB := hid iB
    have IO := hid iO
    rw [List.length_attach] at hlen
    obtain ⟨r, hr2⟩ : ∃ r, Op.bytesLess y.1.1.data.toList k.data.toList = r := ⟨_, rfl⟩
    have HR := hid (show lt y.1.1 k = r from hr2)
    clear hr i4 i5 iB iO
    gi_wp2_with fail
    refine ⟨trivial, CallsIn.inRound _ (callsIn_wide.2 ((less_is _ _ hys hk _ hr2 _).mono ?_))⟩
    rintro _ _ ⟨rfl, u, rfl⟩
    have HU := hid u.below
    have hu := u.below.size
    have j5 : u.val.heap[W.heap.size + 1]? = some (.cells #[.int .i64 (pre.length : Nat)] 3) := (HU.out.block _ hx5).trans I5.out
    clear hr2
    cases r
    · gi_wp2_with fail
      exact ⟨KeepsFrom.chg (S := fun _ => False) (Chg.of_below u.below) (fun k hk => hk.elim), ⟨rfl, pre, y, rfl, IO.out, HR.out, j5⟩, IB.out.trans (HU.out.mono hXs)⟩
    · have HO := hid (show ∀ z ∈ pre ++ [y], lt z.1.1 k = true from fun z hz => by
        rcases List.mem_append.1 hz with hz | hz
        · exact IO.out z hz
        · obtain rfl := List.mem_singleton.1 hz; exact HR.out)
      have e1 : IntKind.i64.wrap ((pre.length : Int) + 1) = (pre.length : Int) + 1 := IntWalk.i64_in _ (by omega)
      have hbl : Below W.heap.size W (put u.val (W.heap.size + 1) (.cells #[.int .i64 ((pre.length : Int) + 1)] 3)) := Below.atPut (IB.out.trans (HU.out.mono hXs)) (by omega) _
      have HCH := hid ((Chg.of_below (S := fun k => k = W.heap.size + 1) u.below).put (fun _ => rfl) (.cells #[.int .i64 ((pre.length : Int) + 1)] 3))
      have HBL := hid hbl
      have h5u := lt_of_heap j5
      have HJ5 := hid j5
      clear hbl
      rw [← put_self j5]
      clear j5
      gi_wp2_with fail
      exact ⟨KeepsFrom.chg HCH.out (fun k hk => by subst hk; omega), KpS.chg HCH.out, ⟨⟨(heap_put_other _ _ _ _ (by omega)).trans ((HU.out.block _ hx4).trans I4.out), by rw [List.length_append]; exact heap_put_at _ _ _ h5u⟩, HBL.out⟩, by rw [List.length_append]; simp; omega, HO.out⟩
  case done =>
    rintro D ys X hD rfl ⟨⟨⟨i4, i5⟩, iB⟩, iL, iO⟩ hK
    have hx5 := lt_of_heap i5
    have e5 := fun i => cell_of_row X (W.heap.size + 1) i _ _ (0, 0) i5
    have IB := hid iB
    have HK := hid hK
    have HO := hid (show rankL k xs = xs.attach.length from by
      unfold rankL
      rw [List.filter_eq_self.2 fun x hx => iO ⟨x, hx⟩ (List.mem_attach _ _), List.length_attach])
    clear i4 iB hK iO i5
    go_wp2_with fail
    rw [Exit.noGoto_ret]
    refine ⟨by simp, .inl ⟨_, _, rfl, run_takeDeferred HK.out, ?_⟩⟩
    exact ⟨.int .i64 (rankL k xs : Nat), by rw [HO.out]; simp [results, Tryz.results19, go_sem], .mk rfl (IB.out.trans (belowK_b (w := W) (Nat.le_refl _) X D _ _ (by omega) HK.out rfl rfl))⟩
  case stop =>
    rintro D c pre X hD ⟨q, hq, rfl⟩ ⟨⟨rfl, p, y, hp, h3, h6, i5⟩, iB⟩ hK
    have hx5 := lt_of_heap i5
    have e5 := fun i => cell_of_row X (W.heap.size + 1) i _ _ (0, 0) i5
    have IB := hid iB
    have HK := hid hK
    have HO := hid (show rankL k xs = p.length from by
      have hx : xs = p.map Subtype.val ++ y.1 :: (xs.attach.drop q).map Subtype.val := by
        rw [← List.map_cons, ← List.map_append, List.append_cons, ← hp, List.take_append_drop, List.attach_map_subtype_val]
      have := rankL_cut (k := k) (hx ▸ hrises) (fun x hx => by obtain ⟨z, hz, rfl⟩ := List.mem_map.1 hx; exact h3 z hz) h6
      rw [← hx, List.length_map] at this
      exact this)
    clear iB hK i5 h3 h6 hp
    rw [wpIn_wide]
    go_wp2_with fail
    rw [Exit.noGoto_ret]
    refine ⟨by simp, .inl ⟨_, _, rfl, run_takeDeferred HK.out, ?_⟩⟩
    exact ⟨.int .i64 (rankL k xs : Nat), by rw [HO.out]; simp [results, Tryz.results19, go_sem], .mk rfl (IB.out.trans (belowK_b (w := W) (Nat.le_refl _) X D _ _ (by omega) HK.out rfl rfl))⟩
theorem rank_is {B0 : Nat} {w0 : World} {most : Int} {xs : List It} {g : Nat} {W : World} (h : Sh B0 w0 most xs g W) (hn : xs.length ≤ 900) (k : ByteArray) (hk : k.size ≤ maxLen) :
    Calls Tryz.prog 19 #[.pointer (some ⟨g, 0, none⟩), .string k] W (Makes (.int .i64 (rankL k xs : Nat)) W) :=
  rank_gen (h.gives hn) hn (by obtain ⟨_, c, top, h3, _⟩ := h; exact h3.rises) (fun x hx => by obtain ⟨_, c, top, h3, _⟩ := h; exact (h3.small x hx).1) k hk
theorem rank_nil (W : World) (k : ByteArray) (hk : k.size ≤ maxLen) : Calls Tryz.prog 19 #[.pointer none, .string k] W (Makes (.int .i64 0) W) :=
  rank_gen (gives_nil W) (by simp) List.Pairwise.nil (fun x hx => by cases hx) k hk
end Go.Proofs.YthknenhcnpgkcaaGreat

/- Ranges over functions whose body appends to a list in a block: what it keeps (as in XVwE). -/
namespace Go.Proofs.YthknenhcnpgkcaaGreat
open Go.RowKit Go.Shelf
set_option linter.unusedVariables false
set_option linter.unusedSimpArgs false
/-- The block of the list in block A. -/
def ownOf (A : Nat) (W : World) : Option Nat := match W.heap[A]? with
  | some (.cells cs _ _) => (cs[0]?).bind Value.ownBlock
  | _ => none
/-- Nothing but the list in block A, and its block, and the blocks of S, has changed. -/
structure KpOS (A : Nat) (S : Nat → Prop) (W W' : World) : Prop where
  size : W.heap.size ≤ W'.heap.size
  keep : ∀ k o, W.heap[k]? = some o → o.isCells = true → k ≠ A → ¬ S k → ownOf A W ≠ some k → W'.heap[k]? = W.heap[k]?
  own : ∀ k, k < W.heap.size → ownOf A W' = some k → ownOf A W = some k
  typ : ∀ k cs t fr, W.heap[k]? = some (.cells cs t fr) → t ≠ 59 → k ≠ A → ¬ S k → W'.heap[k]? = W.heap[k]?
abbrev KpO (A : Nat) : World → World → Prop := KpOS A (fun _ => False)
theorem ownOf_same {A : Nat} {W W' : World} (h : W'.heap[A]? = W.heap[A]?) : ownOf A W' = ownOf A W := by unfold ownOf; rw [h]
theorem KpOS.refl (A : Nat) (S : Nat → Prop) (W : World) : KpOS A S W W := ⟨Nat.le_refl _, fun _ _ _ _ _ _ _ => rfl, fun _ _ h => h, fun _ _ _ _ _ _ _ _ => rfl⟩
theorem KpO.refl (A : Nat) (W : World) : KpO A W W := KpOS.refl _ _ _
theorem KpOS.trans {A : Nat} {S : Nat → Prop} {X Y Z : World} (h : KpOS A S X Y) (k : KpOS A S Y Z) : KpOS A S X Z :=
  ⟨Nat.le_trans h.size k.size, fun i o hi hc hA hS hn => by
    have h1 := h.keep i o hi hc hA hS hn
    exact (k.keep i o (h1.trans hi) hc hA hS fun e => hn (h.own i (lt_of_heap hi) e)).trans h1,
   fun i hi e => h.own i hi (k.own i (Nat.lt_of_lt_of_le hi h.size) e),
   fun i cs t fr hi ht hA hS => by
    have h1 := h.typ i cs t fr hi ht hA hS
    exact (k.typ i cs t fr (h1.trans hi) ht hA hS).trans h1⟩
theorem KpOS.below {A : Nat} {S : Nat → Prop} {W W' : World} (hA : A < W.heap.size) (h : Below W.heap.size W W') : KpOS A S W W' :=
  ⟨h.size, fun k o hk _ _ _ _ => h.block k (lt_of_heap hk), fun k _ e => by rwa [ownOf_same (h.block A hA)] at e, fun k cs t fr hk _ _ _ => h.block k (lt_of_heap hk)⟩
/-- Blocks of S alone have changed. -/
theorem KpOS.chg {A : Nat} {S : Nat → Prop} {W W' : World} (h : Chg S W W') (hA : A < W.heap.size) (hSA : ¬ S A) : KpOS A S W W' :=
  ⟨h.size, fun k o hk _ _ hn _ => h.block k (lt_of_heap hk) hn, fun k _ e => by rwa [ownOf_same (h.block A hA hSA)] at e, fun k cs t fr hk _ _ hn => h.block k (lt_of_heap hk) hn⟩
theorem KpOS.putObj {A : Nat} {S : Nat → Prop} {W : World} {l : Nat} {o : Obj} (o' : Obj) (h : W.heap[l]? = some o) (hc : o.isCells = false) (hA : l ≠ A) : KpOS A S W (W.putObj l o') :=
  ⟨by simp, fun k q hk hq _ _ _ => World.putObj_heap_other (fun e => by subst e; rw [h] at hk; cases hk; rw [hc] at hq; cases hq),
   fun k _ e => by rwa [ownOf_same (World.putObj_heap_other (fun e => hA e.symm))] at e,
   fun k cs t fr hk _ _ _ => World.putObj_heap_other (fun e => by subst e; rw [h] at hk; cases hk; cases hc)⟩
theorem KpO.putObj {A : Nat} {W : World} {l : Nat} {o : Obj} (o' : Obj) (h : W.heap[l]? = some o) (hc : o.isCells = false) (hA : l ≠ A) : KpO A W (W.putObj l o') := KpOS.putObj o' h hc hA
theorem KpOS.mono {A : Nat} {S T : Nat → Prop} {W W' : World} (h : KpOS A S W W') (hs : ∀ k, S k → T k) : KpOS A T W W' :=
  ⟨h.size, fun k o hk hc hA hn ho => h.keep k o hk hc hA (fun e => hn (hs k e)) ho, h.own, fun k cs t fr hk ht hA hn => h.typ k cs t fr hk ht hA (fun e => hn (hs k e))⟩
/-- What such a body does not reach: all but block A and the list's own block. -/
theorem fen_OS (A : Nat) (S : Nat → Prop) : Fen (KpOS A S) (fun r X => A < X.heap.size ∧ r ≠ A ∧ ¬ S r ∧ ownOf A X ≠ some r) :=
  ⟨fun h => h.size, fun {X Y r} h hr hk => ⟨⟨Nat.lt_of_lt_of_le h.1 hk.size, h.2.1, h.2.2.1, fun e => h.2.2.2 (hk.own r hr e)⟩, fun o ho hc => (hk.keep r o ho hc h.2.1 h.2.2.1 h.2.2.2).trans ho⟩,
   fun {X Y r} h hb => ⟨Nat.lt_of_lt_of_le h.1 hb.size, h.2.1, h.2.2.1, by rw [ownOf_same (hb.block A h.1)]; exact h.2.2.2⟩⟩
theorem fen_O (A : Nat) : Fen (KpO A) (fun r X => A < X.heap.size ∧ r ≠ A ∧ ¬ False ∧ ownOf A X ≠ some r) := fen_OS A (fun _ => False)
/-- As Fen; and whatever holds no items, and lies at or beyond E, is kept. -/
structure FenA (E : Nat) (K : World → World → Prop) (Rk : Nat → World → Prop) : Prop where
  fen : Fen K Rk
  late : ∀ {X Y : World} {k : Nat} {cs : Array Value} {t : TypeId} {fr : Nat × Nat}, E ≤ k → X.heap[k]? = some (.cells cs t fr) → t ≠ 59 → K X Y → Y.heap[k]? = X.heap[k]?
theorem fenA_S {E : Nat} {S : Nat → Prop} (hS : ∀ k, S k → k < E) : FenA E (KpS S) (fun r _ => ¬ S r) :=
  ⟨fen_S S, fun he hk _ h => h.2 _ _ hk rfl fun hs => by have := hS _ hs; omega⟩
theorem fenA_OS {E A : Nat} {S : Nat → Prop} (hA : A < E) (hS : ∀ k, S k → k < E) : FenA E (KpOS A S) (fun r X => A < X.heap.size ∧ r ≠ A ∧ ¬ S r ∧ ownOf A X ≠ some r) :=
  ⟨fen_OS A S, fun he hk ht h => h.typ _ _ _ _ hk ht (by omega) fun hs => by have := hS _ hs; omega⟩
/-- At the start: the list in block A is nil, or lies in a block that was there. -/
theorem fresh_OS {A : Nat} {S : Nat → Prop} {w : World} (hA : A < w.heap.size) (hS : ∀ k, S k → k < w.heap.size) (ho : ∀ r, ownOf A w = some r → r < w.heap.size) (W : World) (r : Nat) (hb : Below w.heap.size w W) (hr : W.heap.size ≤ r) : A < W.heap.size ∧ r ≠ A ∧ ¬ S r ∧ ownOf A W ≠ some r := by
  have := hb.size
  refine ⟨by omega, by omega, fun e => ?_, fun e => ?_⟩
  · have := hS r e; omega
  · rw [ownOf_same (hb.block A hA)] at e
    have := ho r e
    omega
theorem fresh_O {A : Nat} {w : World} (hA : A < w.heap.size) (ho : ∀ r, ownOf A w = some r → r < w.heap.size) (W : World) (r : Nat) (hb : Below w.heap.size w W) (hr : W.heap.size ≤ r) : A < W.heap.size ∧ r ≠ A ∧ ¬ False ∧ ownOf A W ≠ some r :=
  fresh_OS (S := fun _ => False) hA (fun _ h => h.elim) ho W r hb hr
end Go.Proofs.YthknenhcnpgkcaaGreat

/- A list of items in a block, to which a body appends (as IntsIn in XVwE). -/
namespace Go.Proofs.YthknenhcnpgkcaaGreat
open Go.RowKit Go.Shelf
attribute [local go_sem] Oper.semAt_some
set_option linter.unusedVariables false
set_option linter.unusedSimpArgs false
theorem wpListIn_append_ex {F : Fence} {n : Nat} {P : Program} {w : World} {ops : Array Oper} {rest : List Oper} {o : Oper} {a : Act} {Q : Exit → Act → World → Prop} {R : Value → World → Prop} (hg : o.guard = none) (s x : Operand) (t : TypeId)
    (hop : o.op = Op.call { callee := Callee.builtin Builtin.append, args := #[s, x], argTypes := #[t, t] }) (v sv : Value) (hs : a.eval s = v) (hx : a.eval x = sv)
    (hrun : ∃ v' w', (Builtin.append_ #[t, t] o.type #[v, sv]).run P w = .ok v' w' ∧ R v' w') (h : ∀ v' w', R v' w' → wpListIn F n P ops Q rest (a.put o.dst v') w') : wpListIn F n P ops Q (o :: rest) a w := by
  obtain ⟨v', w', hrun, hR⟩ := hrun
  refine wpListIn_plain hg fun K hK' => ?_
  unfold Oper.wpIn
  refine ⟨?_, ?_⟩
  · simp [Oper.about, hop, resolve, Target.leads, Sem.run_pure]
  · rw [Oper.semAt_plain F _ _ (by rw [hop]; intro c hc'; cases hc')]
    simp [execOp, hop, resolve, invoke, builtin, hs, hx, hrun, Result.andThen]
    exact hK' _ _ (h v' w' hR)
/-- Block A holds a list of items xs, in a row behind it. -/
structure ItemsIn (A : Nat) (xs : List It) (W : World) (v : Value) : Prop where
  heap : W.heap[A]? = some (.cells #[v] 22)
  row : W.ownsRow (A + 1) 59 2 v xs.length (flat xs)
theorem ItemsIn.ownOf {A : Nat} {xs : List It} {W : World} {v : Value} (h : ItemsIn A xs W v) : Go.Proofs.YthknenhcnpgkcaaGreat.ownOf A W = v.ownBlock := by
  unfold Go.Proofs.YthknenhcnpgkcaaGreat.ownOf
  rw [h.heap]
  rfl
/-- One more number. -/
theorem ItemsIn.app {A : Nat} {xs : List It} {W W2 : World} {v : Value} (h : ItemsIn A xs W v) (hb : Below W.heap.size W W2) (hl : xs.length ≤ 900) (x : It) {S : Nat} (hS : W2.heap[S]? = some (.cells #[.string x.1, .string x.2] 59)) :
    ∃ v' w', (Builtin.append_ #[22, 22] 22 #[v, .slice (some ⟨S, 0, none⟩) 1 1]).run Tryz.prog W2 = .ok v' w' ∧ w'.heap[A]? = some (.cells #[v] 22) ∧ A < w'.heap.size ∧ ItemsIn A (xs ++ [x]) (put w' A (.cells #[v'] 22)) v' ∧ KpO A W (put w' A (.cells #[v'] 22)) ∧ Below A W (put w' A (.cells #[v'] 22)) ∧ ∀ B, KeepsFrom B W (put w' A (.cells #[v'] 22)) := by
  obtain ⟨i0, hi0, hz0, hz1, hz2⟩ := info_parts item_info
  have hA := lt_of_heap h.heap
  have hrow := owns_below h.row hb
  obtain ⟨v', w', hrun, hown, hgrow, _, hw⟩ := run_append_own_at (P := Tryz.prog) W2 (A + 1) 22 22 59 i0 _ 2 32 Tryz.underlying22 hi0 hz0 hz1 hz2 rfl (by omega) v xs.length _ hrow ⟨S, 0, none⟩ 1 1 [.string x.1, .string x.2] rfl (World.news_of_block hS) (by simp [Value.oneCell']) (by unfold maxLen; omega) (by omega) (by have := hb.size; omega)
  have hz := hb.size
  have hg := hgrow.size
  have hvA : v.ownBlock ≠ some A := fun e => by have := (hrow.lt A e).1; omega
  have hv'A : v'.ownBlock ≠ some A := fun e => by have := (hown.lt A e).1; omega
  have hAl : A < w'.heap.size := by omega
  have hAb : w'.heap[A]? = some (.cells #[v] 22) := by rw [hgrow.block A (by omega) (fun e => hvA e.symm), hb.block A hA]; exact h.heap
  have hin : ItemsIn A (xs ++ [x]) (put w' A (.cells #[v'] 22)) v' := ⟨heap_put_at _ _ _ hAl, owns_put (by rw [List.length_append, flat_append]; exact hown) hv'A _⟩
  refine ⟨v', w', hrun, hAb, hAl, hin, ⟨by rw [size_put]; omega, fun k o hk _ hne _ hn => ?_, fun k hk e => ?_, fun k cs t fr hk ht hne _ => ?_⟩, ?_, fun B => ⟨by rw [size_put]; omega, fun k o _ hk hc => ?_⟩⟩
  · rw [h.ownOf] at hn
    rw [heap_put_other _ _ _ _ hne, hgrow.block k (by have := lt_of_heap hk; omega) (fun e => hn e.symm), hb.block k (lt_of_heap hk)]
  · rw [hin.ownOf] at e
    rw [h.ownOf]
    rcases hw with f | f
    · rw [← f]; exact e
    · rw [f] at e
      have := Option.some.inj e
      omega
  · have hkl := lt_of_heap hk
    rw [heap_put_other _ _ _ _ hne, hgrow.block k (by omega) (fun e => ?_), hb.block k hkl]
    rcases h.row.2 with ⟨rfl, _⟩ | ⟨r, cap, cur, rfl, _, hh, _⟩
    · simp [Value.ownBlock] at e
    · have : r = k := by simpa [Value.ownBlock] using e.symm
      subst this
      rw [hh] at hk; cases hk; exact ht rfl
  · exact Below.atPut ((hb.mono (by omega)).grown hgrow (by omega) (fun k hk => by have := (hrow.lt k hk).1; omega)) (Nat.le_refl _) _
  · have hkl := lt_of_heap hk
    have hne : k ≠ A := fun e => by subst e; rw [h.heap] at hk; cases hk; cases hc
    rw [heap_put_other _ _ _ _ hne, hgrow.block k (by omega) (fun e => ?_), hb.block k hkl]
    · exact hk
    · rcases h.row.2 with ⟨rfl, _⟩ | ⟨r, cap, cur, rfl, _, hh, _⟩
      · simp [Value.ownBlock] at e
      · have : r = k := by simpa [Value.ownBlock] using e.symm
        subst this
        rw [hh] at hk; cases hk; cases hc
theorem ItemsIn.from {α : Type} (f : α → It) (A B : Nat) : OwnFrom B (fun (pre : List α) X => ∃ v, ItemsIn A (pre.map f) X v) := fun s X Y row ⟨v, h⟩ hg hr => by
  refine ⟨v, (grownBy_keeps_cells hg (fun r e => (hr r e).2) h.heap rfl).trans h.heap, owns_heap h.row fun k hk => ?_⟩
  rcases h.row.2 with ⟨rfl, _⟩ | ⟨r, cap, cur, rfl, _, hh, _⟩
  · simp [Value.ownBlock] at hk
  · have : r = k := by simpa [Value.ownBlock] using hk
    subst this
    exact grownBy_keeps_cells hg (fun r e => (hr r e).2) hh rfl
end Go.Proofs.YthknenhcnpgkcaaGreat

/- Package walk: Collect. -/
namespace Go.Proofs.YthknenhcnpgkcaaGreat
open Go.RowKit Go.Shelf
attribute [local go_sem] Oper.semAt_some
set_option linter.unusedVariables false
set_option linter.unusedSimpArgs false
theorem owns_zero {W : World} {base : Nat} {e : TypeId} {size n : Nat} {v : Value} {xs : List Value} (h : W.ownsRow base e size v n xs) : Row W e size v n xs := by
  refine ⟨h.1, h.2.imp id ?_⟩
  rintro ⟨g, cap, cur, h1, _, h3⟩
  exact ⟨g, cap, cur, h1, Nat.zero_le _, h3⟩
/-- The list as it is when the range is over. -/
theorem ItemsIn.fin {A D : Nat} {xs : List It} {X : World} {v : Value} {q : Option (List Deferred)} (h : ItemsIn A xs X v) (hD : X.heap[D]? = some (.deferred q)) (o' : Obj) : Row (X.putObj D o') 59 2 v xs.length (flat xs) :=
  Row.keep (owns_zero h.row) fun k hk => World.putObj_heap_other fun e => by
    rcases h.row.2 with ⟨rfl, _⟩ | ⟨r, cap, cur, rfl, _, hh, _⟩
    · rw [blk_nil] at hk; exact hk rfl
    · rw [blk_at _ _ _ _ _ none] at hk
      have := one_ne hk
      subst this
      subst e
      rw [hh] at hD; cases hD
/-- A function that is there is not nil. -/
theorem eql_func_nil (gf : Nat) (lb : Array Value) (w : World) : (binOp .eql 41 (.func (.func gf) #[] lb) .nilFunc).run Tryz.prog w = .ok (.bool false) w := by
  have ht : (Tryz.prog.underlying 41).map (fun d => match d with | .func _ _ _ => true | _ => false) = some true := by kernel_rfl
  obtain ⟨ps, rs, v, hu⟩ : ∃ ps rs v, Tryz.prog.underlying 41 = some (.func ps rs v) := by
    cases hq : Tryz.prog.underlying 41 with
    | none => rw [hq] at ht; cases ht
    | some d => rw [hq] at ht; cases d <;> first | exact ⟨_, _, _, rfl⟩ | (simp at ht)
  have h : ∀ d : Nat, (Op.equalIn (d + 1) 41 (.func (.func gf) #[] lb) .nilFunc).run Tryz.prog w = .ok false w := fun d => by
    simp [Op.equalIn, run_underlying hu]
  simp only [binOp]
  simp [Op.equal, Op.maxDepth, h 9999]
set_option maxRecDepth 100000 in
set_option maxHeartbeats 4000000 in
theorem collect_own {α : Type} (L : List α) (f : α → It) (N : Nat) (hN : N ≤ 900) (gf : Nat) (lb : Array Value) (W : World) (heg : ∀ args w, (callFunc gf args).run Tryz.prog w = .ok (.enter gf args) w)
    (hseq : ∀ (V : World) (A : Nat), Below W.heap.size W V → A < V.heap.size → W.heap.size ≤ A → ownOf A V = none → SeqOwn Fence.wide 8 Tryz.prog gf lb (fun x : α => #[.string (f x).1, .string (f x).2]) (KpO A) (fun ys => ys = L) (fun pre => ∃ k, k ≤ L.length ∧ pre = L.take k) N V)
    (most : Nat) (hm : 1 ≤ most) (hm2 : most ≤ 2000) :
    Calls Tryz.prog 14 #[.func (.func gf) #[] lb, .int .i64 most] W fun e W' => ∃ ao n c, e = .returned (.slice ao n c) ∧ Row W' 59 2 (.slice ao n c) n (flat ((L.map f).take most)) ∧ n = min L.length most ∧ Below W.heap.size W W' ∧ ∀ k, k < W.heap.size → blk (.slice ao n c) k = 0 := by
  have d1 : decide ((most : Int) ≤ 0) = false := decide_eq_false (by omega)
  refine callsIn_wide.1 (callsIn_of_wp_marks (n := 9) Tryz.func14 rfl trivial ?_ rfl)
  rw [wpIn_wide]
  simp only [Tryz.ntmps14, List.size_toArray, List.length_cons, List.length_nil, Nat.reduceAdd, Nat.reduceSub, Array.replicate_succ, Array.replicate_zero, List.push_toArray, List.append_toArray, List.nil_append, List.cons_append]
  have d0 : decide (most = 0) = false := decide_eq_false (by omega)
  have hnf := fun w => eql_func_nil gf lb w
  go_wp2_with fail
  have h3 : (((W.alloc (.cells #[.int .i64 (most : Nat)] 3)).alloc (.cells #[.slice none 0 0] 22))).heap[W.heap.size]? = some (.cells #[.int .i64 (most : Nat)] 3) := (by repeat' (first | rfl | assumption | (with_reducible refine (heap_drew_eq _ _).trans ?_) | (refine (Fut.heap _ _ ?_).trans ?_ ; focus (first | assumption | omega | (simp [go_sem]; done) | (simp [go_sem]; omega))) | (refine (heap_put_at _ _ _ ?_).trans ?_ ; focus (first | assumption | omega | (simp [go_sem]; done) | (simp [go_sem]; omega))) | (refine (heap_put_other _ _ _ _ ?_).trans ?_ ; focus (first | assumption | omega | (simp [go_sem]; done) | (simp [go_sem]; omega))) | (refine (heap_alloc_other _ _ _ ?_).trans ?_ ; focus (first | assumption | omega | (simp [go_sem]; done) | (simp [go_sem]; omega))) | (refine (heap_alloc_at _ _ _ ?_).trans ?_ ; focus (first | assumption | omega | (simp [go_sem]; done) | (simp [go_sem]; omega))) | (simp [go_sem]; done) | (simp [go_sem]; omega)))
  have hA : (((W.alloc (.cells #[.int .i64 (most : Nat)] 3)).alloc (.cells #[.slice none 0 0] 22))).heap[W.heap.size + 1]? = some (.cells #[.slice none 0 0] 22) := (by repeat' (first | rfl | assumption | (with_reducible refine (heap_drew_eq _ _).trans ?_) | (refine (Fut.heap _ _ ?_).trans ?_ ; focus (first | assumption | omega | (simp [go_sem]; done) | (simp [go_sem]; omega))) | (refine (heap_put_at _ _ _ ?_).trans ?_ ; focus (first | assumption | omega | (simp [go_sem]; done) | (simp [go_sem]; omega))) | (refine (heap_put_other _ _ _ _ ?_).trans ?_ ; focus (first | assumption | omega | (simp [go_sem]; done) | (simp [go_sem]; omega))) | (refine (heap_alloc_other _ _ _ ?_).trans ?_ ; focus (first | assumption | omega | (simp [go_sem]; done) | (simp [go_sem]; omega))) | (refine (heap_alloc_at _ _ _ ?_).trans ?_ ; focus (first | assumption | omega | (simp [go_sem]; done) | (simp [go_sem]; omega))) | (simp [go_sem]; done) | (simp [go_sem]; omega)))
  have hbV : Below W.heap.size W (((W.alloc (.cells #[.int .i64 (most : Nat)] 3)).alloc (.cells #[.slice none 0 0] 22))) := (by repeat' (first | exact Below.refl _ _ | with_reducible assumption | omega | with_reducible refine below_put_fut ?_ ?_ _ | with_reducible refine below_to_put ?_ | with_reducible refine Below.alloc ?_ ?_ _ | with_reducible refine Below.fut ?_ ?_ _ | with_reducible refine Below.drew ?_ | with_reducible refine Below.setCell ?_ ?_ _ | with_reducible refine Below.atPut ?_ ?_ _ | (simp [go_sem]; done) | (simp [go_sem]; omega)))
  generalize ((W.alloc (.cells #[.int .i64 (most : Nat)] 3)).alloc (.cells #[.slice none 0 0] 22)) = V at h3 hA hbV ⊢
  have hV3 := lt_of_heap hA
  have hVs := hbV.size
  refine wpIn_wide.1 (wpIn_range_own (F := Fence.wide) (n := 9) rfl (by omega) (gf := gf) (lb := lb) rfl trivial heg
    (hseq V (W.heap.size + 1) hbV hV3 (by omega) (by unfold ownOf; rw [hA]; rfl)) (fun h k => h.trans k) (fun X q o o' hq hX hc => KpO.putObj _ hX hc (by omega)) (Below.refl _ _) (fun _ => rfl)
    (fun pre X => ((∃ v, ItemsIn (W.heap.size + 1) (pre.map f) X v) ∧ X.heap[W.heap.size]? = some (.cells #[.int .i64 (most : Nat)] 3) ∧ Below W.heap.size W X) ∧ pre.length < most)
    (fun c pre X => ((∃ v, ItemsIn (W.heap.size + 1) (pre.map f) X v) ∧ Below W.heap.size W X) ∧ c = .exit 0 ∧ pre.length = most)
    ?hI ?hIx ⟨⟨⟨_, ⟨hA, World.ownsRow_nil _ _ _ _⟩⟩, h3, hbV⟩, by simp; omega⟩
    (fun y a' => a' = { tmps := #[.func (.func gf) #[] lb, .int .i64 (most : Nat), undef, .pointer (some ⟨W.heap.size, 0, none⟩), .slice none 0 0, .pointer (some ⟨W.heap.size + 1, 0, none⟩), .string (f y).1, .string (f y).2, .func (.func gf) #[] lb, .bool false, .bool false, .int .i64 (most : Nat), .bool false, .bool false, .func (.func gf) #[] lb, .string (f y).1, .string (f y).2, undef, undef, undef, undef, undef, undef, undef, undef, undef, undef, undef], defers := [] })
    ?assign ?body ?done ?stop)
  case hI => exact OwnFrom.and (OwnFrom.and (ItemsIn.from f _ _) (OwnFrom.and (ownFrom_heap _ _ (fun _ => #[.int .i64 (most : Nat)]) _ _) (ownFrom_below (Nat.le_refl _) hVs))) (fun _ _ _ _ hs _ _ => hs)
  case hIx => exact fun c => OwnFrom.and (OwnFrom.and (ItemsIn.from f _ _) (ownFrom_below (Nat.le_refl _) hVs)) (fun _ _ _ _ hs _ _ => hs)
  case assign =>
    rintro ll pre y X K ⟨⟨iv, i3, iB⟩, iL⟩ hK
    have hA3 : W.heap.size + 1 < X.heap.size := by obtain ⟨v, hv⟩ := iv; exact lt_of_heap hv.heap
    have HK := hid hK
    have HIV := hid iv
    have HI3 := hid i3
    have HIB := hid iB
    clear hK iv i3 iB
    gi_wp2_with fail
    exact HK.out _ (by simp)
  case body =>
    rintro ll pre y a' X ⟨⟨⟨vi, iv⟩, i3, iB⟩, iL⟩ rfl hlen
    have hx3 := lt_of_heap i3
    have hxA := lt_of_heap iv.heap
    have hXs := iB.size
    have eA := fun i => cell_of_row X (W.heap.size + 1) i _ _ (0, 0) iv.heap
    have HI := hid iv
    have HB := hid iB
    have H3 := hid i3
    obtain ⟨b, he⟩ : ∃ b, ((((pre.map f ++ [f y]).length : Nat) : Int) == (most : Int)) = b := ⟨_, rfl⟩
    have hb : (b = true ↔ pre.length + 1 = most) := by rw [← he]; simp; omega
    have HPL := hid (show (pre.map f).length ≤ 900 by rw [List.length_map]; omega)
    have HBB := hid hb
    clear iv iB i3 hb
    obtain ⟨ao, cc, rfl⟩ := owns_slice HI.out.row
    have hpl := HPL.out
    generalize hnl : (pre.map f).length = n at HI hpl eA ⊢
    clear hnl
    cases b
    · gi_wp2_with (first | (gi_at_builtin; refine wpListIn_append_ex (by rfl) _ _ _ (by rfl) _ _ (by rfl) (by rfl) (HI.out.app (by repeat' (first | exact Below.refl _ _ | with_reducible assumption | omega | with_reducible refine below_put_fut ?_ ?_ _ | with_reducible refine below_to_put ?_ | with_reducible refine Below.alloc ?_ ?_ _ | with_reducible refine Below.fut ?_ ?_ _ | with_reducible refine Below.drew ?_ | with_reducible refine Below.setCell ?_ ?_ _ | with_reducible refine Below.atPut ?_ ?_ _ | (simp [go_sem]; done) | (simp [go_sem]; omega))) HPL.out (f y) (by repeat' (first | rfl | assumption | (with_reducible refine (heap_drew_eq _ _).trans ?_) | (refine (Fut.heap _ _ ?_).trans ?_ ; focus (first | assumption | omega | (simp [go_sem]; done) | (simp [go_sem]; omega))) | (refine (heap_put_at _ _ _ ?_).trans ?_ ; focus (first | assumption | omega | (simp [go_sem]; done) | (simp [go_sem]; omega))) | (refine (heap_put_other _ _ _ _ ?_).trans ?_ ; focus (first | assumption | omega | (simp [go_sem]; done) | (simp [go_sem]; omega))) | (refine (heap_alloc_other _ _ _ ?_).trans ?_ ; focus (first | assumption | omega | (simp [go_sem]; done) | (simp [go_sem]; omega))) | (refine (heap_alloc_at _ _ _ ?_).trans ?_ ; focus (first | assumption | omega | (simp [go_sem]; done) | (simp [go_sem]; omega))) | (simp [go_sem]; done) | (simp [go_sem]; omega)))) ?_; rintro v4 w4 ⟨hAb, hAl, hin, hkp, hbl, hkf⟩; obtain ⟨ao4, cc4, rfl⟩ := owns_slice hin.row; generalize (List.map f pre ++ [f y]).length = n4 at he hin hkp hbl hkf ⊢; have HIN := hid hin; have HKP := hid hkp; have HBL := hid hbl; have HKF := hid hkf; have j3 := cell_of_row w4 W.heap.size 0 _ _ (0, 0) ((heap_put_other _ _ _ _ (by omega)).symm.trans ((hbl.block _ (by omega)).trans H3.out)); clear hin hkp hbl hkf; rw [← put_self hAb]; clear hAb))
      exact ⟨HKF.out _, HKP.out, ⟨⟨⟨_, by rw [List.map_append]; exact HIN.out⟩, (HBL.out.block _ (by omega)).trans H3.out, HB.out.trans (HBL.out.mono (by omega))⟩, by have := HBB.out; rw [List.length_append]; simp at this ⊢; omega⟩⟩
    · gi_wp2_with (first | (gi_at_builtin; refine wpListIn_append_ex (by rfl) _ _ _ (by rfl) _ _ (by rfl) (by rfl) (HI.out.app (by repeat' (first | exact Below.refl _ _ | with_reducible assumption | omega | with_reducible refine below_put_fut ?_ ?_ _ | with_reducible refine below_to_put ?_ | with_reducible refine Below.alloc ?_ ?_ _ | with_reducible refine Below.fut ?_ ?_ _ | with_reducible refine Below.drew ?_ | with_reducible refine Below.setCell ?_ ?_ _ | with_reducible refine Below.atPut ?_ ?_ _ | (simp [go_sem]; done) | (simp [go_sem]; omega))) HPL.out (f y) (by repeat' (first | rfl | assumption | (with_reducible refine (heap_drew_eq _ _).trans ?_) | (refine (Fut.heap _ _ ?_).trans ?_ ; focus (first | assumption | omega | (simp [go_sem]; done) | (simp [go_sem]; omega))) | (refine (heap_put_at _ _ _ ?_).trans ?_ ; focus (first | assumption | omega | (simp [go_sem]; done) | (simp [go_sem]; omega))) | (refine (heap_put_other _ _ _ _ ?_).trans ?_ ; focus (first | assumption | omega | (simp [go_sem]; done) | (simp [go_sem]; omega))) | (refine (heap_alloc_other _ _ _ ?_).trans ?_ ; focus (first | assumption | omega | (simp [go_sem]; done) | (simp [go_sem]; omega))) | (refine (heap_alloc_at _ _ _ ?_).trans ?_ ; focus (first | assumption | omega | (simp [go_sem]; done) | (simp [go_sem]; omega))) | (simp [go_sem]; done) | (simp [go_sem]; omega)))) ?_; rintro v4 w4 ⟨hAb, hAl, hin, hkp, hbl, hkf⟩; obtain ⟨ao4, cc4, rfl⟩ := owns_slice hin.row; generalize (List.map f pre ++ [f y]).length = n4 at he hin hkp hbl hkf ⊢; have HIN := hid hin; have HKP := hid hkp; have HBL := hid hbl; have HKF := hid hkf; have j3 := cell_of_row w4 W.heap.size 0 _ _ (0, 0) ((heap_put_other _ _ _ _ (by omega)).symm.trans ((hbl.block _ (by omega)).trans H3.out)); clear hin hkp hbl hkf; rw [← put_self hAb]; clear hAb))
      exact ⟨HKF.out _, ⟨⟨_, by rw [List.map_append]; exact HIN.out⟩, HB.out.trans (HBL.out.mono (by omega))⟩, rfl, by have := HBB.out; rw [List.length_append]; simp at this ⊢; omega⟩
  case done =>
    rintro D ys X hD hys ⟨⟨⟨vi, iv⟩, i3, iB⟩, iL⟩ hK
    have hys : L = ys := hys.symm
    subst hys
    clear i3
    obtain ⟨ao, cc, rfl⟩ := owns_slice iv.row
    have hxA := lt_of_heap iv.heap
    have eA := fun i => cell_of_row X (W.heap.size + 1) i _ _ (0, 0) iv.heap
    have hfin := hid (fun o' => iv.fin hK o')
    have hfrs : ∀ k, k < W.heap.size → blk (.slice ao (L.map f).length cc) k = 0 := fun k hk => by
      rcases Nat.eq_zero_or_pos (blk (.slice ao (L.map f).length cc) k) with e | e
      · exact e
      · have := (iv.row.lt k (blk_ne (by omega))).1
        omega
    have HB := hid iB
    have HK := hid hK
    have HT := hid (show (L.map f).take most = L.map f by exact List.take_of_length_le (by rw [List.length_map]; omega))
    obtain ⟨n, hnl⟩ : ∃ n, (L.map f).length = n := ⟨_, rfl⟩
    have HN := hid (show n = min L.length most by rw [← hnl, List.length_map]; omega)
    rw [hnl] at hfin eA hfrs
    have HFRS := hid hfrs
    clear iv iB hK hnl hfrs
    go_wp2_with fail
    refine ⟨by simp, .inl ⟨_, _, rfl, run_takeDeferred HK.out, ?_⟩⟩
    exact ⟨.slice ao n cc, by simp [results, Tryz.results14, go_sem], ao, n, cc, rfl, by rw [HT.out]; exact hfin.out _, HN.out, HB.out.trans (belowK_b (w := W) (Nat.le_refl _) X D _ _ (by omega) HK.out rfl rfl), HFRS.out⟩
  case stop =>
    rintro D c pre X hD ⟨q, hq, rfl⟩ ⟨⟨⟨vi, iv⟩, iB⟩, rfl, iL⟩ hK
    rw [List.length_take] at iL
    obtain ⟨ao, cc, rfl⟩ := owns_slice iv.row
    have hxA := lt_of_heap iv.heap
    have eA := fun i => cell_of_row X (W.heap.size + 1) i _ _ (0, 0) iv.heap
    have hfin := hid (fun o' => iv.fin hK o')
    have hfrs : ∀ k, k < W.heap.size → blk (.slice ao ((L.take q).map f).length cc) k = 0 := fun k hk => by
      rcases Nat.eq_zero_or_pos (blk (.slice ao ((L.take q).map f).length cc) k) with e | e
      · exact e
      · have := (iv.row.lt k (blk_ne (by omega))).1
        omega
    have HB := hid iB
    have HK := hid hK
    have HT := hid (show (L.map f).take most = (L.take q).map f by rw [← List.map_take, show most = q by omega])
    obtain ⟨n, hnl⟩ : ∃ n, ((L.take q).map f).length = n := ⟨_, rfl⟩
    have HN := hid (show n = min L.length most by rw [← hnl, List.length_map]; rw [List.length_take]; omega)
    rw [hnl] at hfin eA hfrs
    have HFRS := hid hfrs
    clear iv iB hK hnl hfrs
    rw [wpIn_wide]
    go_wp2_with fail
    refine ⟨by simp, .inl ⟨_, _, rfl, run_takeDeferred HK.out, ?_⟩⟩
    exact ⟨.slice ao n cc, by simp [results, Tryz.results14, go_sem], ao, n, cc, rfl, by rw [HT.out]; exact hfin.out _, HN.out, HB.out.trans (belowK_b (w := W) (Nat.le_refl _) X D _ _ (by omega) HK.out rfl rfl), HFRS.out⟩
theorem collect_is {α : Type} (L : List α) (f : α → It) (hL : L.length ≤ 900) (gf : Nat) (lb : Array Value) (W : World) (heg : ∀ args w, (callFunc gf args).run Tryz.prog w = .ok (.enter gf args) w)
    (hseq : ∀ (V : World) (A : Nat), Below W.heap.size W V → A < V.heap.size → ownOf A V = none → SeqStopsK Fence.wide 8 Tryz.prog gf lb (fun x : α => #[.string (f x).1, .string (f x).2]) (KpO A) (fun ys => ys = L) (fun pre => ∃ k, k ≤ L.length ∧ pre = L.take k) L.length V)
    (most : Nat) (hm : 1 ≤ most) (hm2 : most ≤ 2000) :
    Calls Tryz.prog 14 #[.func (.func gf) #[] lb, .int .i64 most] W fun e W' => ∃ ao n c, e = .returned (.slice ao n c) ∧ Row W' 59 2 (.slice ao n c) n (flat ((L.map f).take most)) ∧ n = min L.length most ∧ Below W.heap.size W W' ∧ ∀ k, k < W.heap.size → blk (.slice ao n c) k = 0 :=
  collect_own L f L.length hL gf lb W heg (fun V A hb hA _ h0 => SeqOwn.of_stops (hseq V A hb hA h0)) most hm hm2
end Go.Proofs.YthknenhcnpgkcaaGreat

/- arc.Pieces, as package walk meets it. -/
namespace Go.Proofs.YthknenhcnpgkcaaGreat
open Go.RowKit Go.Shelf
set_option linter.unusedVariables false
set_option linter.unusedSimpArgs false
/-- The pieces of an arc, in its order: none goes round the ring's end. -/
def piecesA (a b : Int) : List (Int × Int) := if b = 0 then [(a, b)] else if a < b then [(a, b)] else [(a, 0), (0, b)]
def flatC : List (Int × Int) → List Value
  | [] => []
  | p :: l => .int .u64 p.1 :: .int .u64 p.2 :: flatC l
theorem piecesA_len (a b : Int) : (piecesA a b).length ≤ 2 := by unfold piecesA; repeat (first | split | simp)
set_option maxRecDepth 100000 in
theorem arcPieces_is (a b : Int) (W : World) :
    Calls Tryz.prog 29 #[.agg #[.int .u64 a, .int .u64 b]] W fun en W' => ∃ r, W.heap.size ≤ r ∧ en = .returned (.slice (some ⟨r, 0, none⟩) (piecesA a b).length (piecesA a b).length) ∧ Below W.heap.size W W' ∧ W'.heap[r]? = some (.cells (flatC (piecesA a b)).toArray 25) := by
  by_cases h0 : b = 0
  · have e : piecesA a b = [(a, b)] := by unfold piecesA; rw [if_pos h0]
    rw [e]
    clear e
    have e0 : (b == 0) = true := by simp [h0]
    clear h0
    go_enter Tryz.func29, Tryz.ntmps29
    go_wp2_with fail
    go_ret
    refine ⟨_, ?_, rfl, (by repeat' (first | exact Below.refl _ _ | with_reducible assumption | omega | with_reducible refine below_put_fut ?_ ?_ _ | with_reducible refine below_to_put ?_ | with_reducible refine Below.alloc ?_ ?_ _ | with_reducible refine Below.fut ?_ ?_ _ | with_reducible refine Below.drew ?_ | with_reducible refine Below.setCell ?_ ?_ _ | with_reducible refine Below.atPut ?_ ?_ _ | (simp [go_sem]; done) | (simp [go_sem]; omega))), (by repeat' (first | rfl | assumption | (with_reducible refine (heap_drew_eq _ _).trans ?_) | (refine (Fut.heap _ _ ?_).trans ?_ ; focus (first | assumption | omega | (simp [go_sem]; done) | (simp [go_sem]; omega))) | (refine (heap_put_at _ _ _ ?_).trans ?_ ; focus (first | assumption | omega | (simp [go_sem]; done) | (simp [go_sem]; omega))) | (refine (heap_put_other _ _ _ _ ?_).trans ?_ ; focus (first | assumption | omega | (simp [go_sem]; done) | (simp [go_sem]; omega))) | (refine (heap_alloc_other _ _ _ ?_).trans ?_ ; focus (first | assumption | omega | (simp [go_sem]; done) | (simp [go_sem]; omega))) | (refine (heap_alloc_at _ _ _ ?_).trans ?_ ; focus (first | assumption | omega | (simp [go_sem]; done) | (simp [go_sem]; omega))) | (simp [go_sem]; done) | (simp [go_sem]; omega)))⟩
    simp [go_sem]
  · have e0 : (b == 0) = false := by simp [h0]
    by_cases h1 : a < b
    · have e : piecesA a b = [(a, b)] := by unfold piecesA; rw [if_neg h0, if_pos h1]
      rw [e]
      clear e h0
      have e1 : decide (a < b) = true := by simp [h1]
      go_enter Tryz.func29, Tryz.ntmps29
      go_wp2_with fail
      go_ret
      refine ⟨_, ?_, rfl, (by repeat' (first | exact Below.refl _ _ | with_reducible assumption | omega | with_reducible refine below_put_fut ?_ ?_ _ | with_reducible refine below_to_put ?_ | with_reducible refine Below.alloc ?_ ?_ _ | with_reducible refine Below.fut ?_ ?_ _ | with_reducible refine Below.drew ?_ | with_reducible refine Below.setCell ?_ ?_ _ | with_reducible refine Below.atPut ?_ ?_ _ | (simp [go_sem]; done) | (simp [go_sem]; omega))), (by repeat' (first | rfl | assumption | (with_reducible refine (heap_drew_eq _ _).trans ?_) | (refine (Fut.heap _ _ ?_).trans ?_ ; focus (first | assumption | omega | (simp [go_sem]; done) | (simp [go_sem]; omega))) | (refine (heap_put_at _ _ _ ?_).trans ?_ ; focus (first | assumption | omega | (simp [go_sem]; done) | (simp [go_sem]; omega))) | (refine (heap_put_other _ _ _ _ ?_).trans ?_ ; focus (first | assumption | omega | (simp [go_sem]; done) | (simp [go_sem]; omega))) | (refine (heap_alloc_other _ _ _ ?_).trans ?_ ; focus (first | assumption | omega | (simp [go_sem]; done) | (simp [go_sem]; omega))) | (refine (heap_alloc_at _ _ _ ?_).trans ?_ ; focus (first | assumption | omega | (simp [go_sem]; done) | (simp [go_sem]; omega))) | (simp [go_sem]; done) | (simp [go_sem]; omega)))⟩
      simp [go_sem]
    · have e1 : decide (a < b) = false := by simp; omega
      have e : piecesA a b = [(a, 0), (0, b)] := by unfold piecesA; rw [if_neg h0, if_neg h1]
      rw [e]
      clear e h0 h1
      go_enter Tryz.func29, Tryz.ntmps29
      go_wp2_with fail
      go_ret
      refine ⟨_, ?_, rfl, (by repeat' (first | exact Below.refl _ _ | with_reducible assumption | omega | with_reducible refine below_put_fut ?_ ?_ _ | with_reducible refine below_to_put ?_ | with_reducible refine Below.alloc ?_ ?_ _ | with_reducible refine Below.fut ?_ ?_ _ | with_reducible refine Below.drew ?_ | with_reducible refine Below.setCell ?_ ?_ _ | with_reducible refine Below.atPut ?_ ?_ _ | (simp [go_sem]; done) | (simp [go_sem]; omega))), (by repeat' (first | rfl | assumption | (with_reducible refine (heap_drew_eq _ _).trans ?_) | (refine (Fut.heap _ _ ?_).trans ?_ ; focus (first | assumption | omega | (simp [go_sem]; done) | (simp [go_sem]; omega))) | (refine (heap_put_at _ _ _ ?_).trans ?_ ; focus (first | assumption | omega | (simp [go_sem]; done) | (simp [go_sem]; omega))) | (refine (heap_put_other _ _ _ _ ?_).trans ?_ ; focus (first | assumption | omega | (simp [go_sem]; done) | (simp [go_sem]; omega))) | (refine (heap_alloc_other _ _ _ ?_).trans ?_ ; focus (first | assumption | omega | (simp [go_sem]; done) | (simp [go_sem]; omega))) | (refine (heap_alloc_at _ _ _ ?_).trans ?_ ; focus (first | assumption | omega | (simp [go_sem]; done) | (simp [go_sem]; omega))) | (simp [go_sem]; done) | (simp [go_sem]; omega)))⟩
      simp [go_sem]
end Go.Proofs.YthknenhcnpgkcaaGreat

/- Package walk: Arc (what it gives), Count. -/
namespace Go.Proofs.YthknenhcnpgkcaaGreat
open Go.RowKit Go.Shelf
attribute [local go_sem] Oper.semAt_some
set_option linter.unusedVariables false
set_option linter.unusedSimpArgs false
theorem walkArc_is (g : Option Addr) (a b : Int) (W : World) : Calls Tryz.prog 9 #[.pointer g, .agg #[.int .u64 a, .int .u64 b]] W fun e W' => e = .returned (.func (.func 28) #[] #[.pointer (some ⟨W.heap.size, 0, none⟩), .pointer (some ⟨W.heap.size + 1, 0, none⟩)]) ∧ W' = (W.alloc (.cells #[.pointer g] 27)).alloc (.cells #[.int .u64 a, .int .u64 b] 25) := by
  go_enter Tryz.func9, Tryz.ntmps9
  go_wp2_with fail
  go_ret
  exact ⟨by simp, rfl⟩
set_option maxRecDepth 100000 in
set_option maxHeartbeats 4000000 in
theorem count_is {α : Type} (L : List α) (f : α → It) (hL : L.length ≤ 900) (g : Option Addr) (a b : Int) (W : World)
    (hseq : ∀ (V : World) (s C : Nat), Below W.heap.size W V → V.heap[s]? = some (.cells #[.pointer g] 27) → V.heap[s + 1]? = some (.cells #[.int .u64 a, .int .u64 b] 25) → C < V.heap.size → W.heap.size ≤ C → C ≠ s → C ≠ s + 1 →
      SeqStopsK Fence.wide 8 Tryz.prog 28 #[.pointer (some ⟨s, 0, none⟩), .pointer (some ⟨s + 1, 0, none⟩)] (fun x : α => #[.string (f x).1, .string (f x).2]) (KpS fun k => k = C) (fun ys => ys = L) (fun pre => ∃ k, k ≤ L.length ∧ pre = L.take k) L.length V) :
    Calls Tryz.prog 63 #[.pointer g, .agg #[.int .u64 a, .int .u64 b]] W (Makes (.int .i64 (L.length : Nat)) W) := by
  refine callsIn_wide.1 (callsIn_of_wp_marks (n := 9) Tryz.func63 rfl trivial ?_ rfl)
  rw [wpIn_wide]
  simp only [Tryz.ntmps63, List.size_toArray, List.length_cons, List.length_nil, Nat.reduceAdd, Nat.reduceSub, Array.replicate_succ, Array.replicate_zero, List.push_toArray, List.append_toArray, List.nil_append, List.cons_append]
  go_wp2_with fail
  (((with_reducible refine (walkArc_is g a b _).mono ?_)); rintro _ _ ⟨rfl, rfl⟩)
  go_wp2_with fail
  have h5 : (((((W.alloc (.cells #[.int .u64 a, .int .u64 b] 25)).alloc (.cells #[.int .i64 0] 3)).alloc (.cells #[.pointer g] 27)).alloc (.cells #[.int .u64 a, .int .u64 b] 25))).heap[W.heap.size + 1]? = some (.cells #[.int .i64 0] 3) := (by repeat' (first | rfl | assumption | (with_reducible refine (heap_drew_eq _ _).trans ?_) | (refine (Fut.heap _ _ ?_).trans ?_ ; focus (first | assumption | omega | (simp [go_sem]; done) | (simp [go_sem]; omega))) | (refine (heap_put_at _ _ _ ?_).trans ?_ ; focus (first | assumption | omega | (simp [go_sem]; done) | (simp [go_sem]; omega))) | (refine (heap_put_other _ _ _ _ ?_).trans ?_ ; focus (first | assumption | omega | (simp [go_sem]; done) | (simp [go_sem]; omega))) | (refine (heap_alloc_other _ _ _ ?_).trans ?_ ; focus (first | assumption | omega | (simp [go_sem]; done) | (simp [go_sem]; omega))) | (refine (heap_alloc_at _ _ _ ?_).trans ?_ ; focus (first | assumption | omega | (simp [go_sem]; done) | (simp [go_sem]; omega))) | (simp [go_sem]; done) | (simp [go_sem]; omega)))
  have hS1 : (((((W.alloc (.cells #[.int .u64 a, .int .u64 b] 25)).alloc (.cells #[.int .i64 0] 3)).alloc (.cells #[.pointer g] 27)).alloc (.cells #[.int .u64 a, .int .u64 b] 25))).heap[W.heap.size + 1 + 1]? = some (.cells #[.pointer g] 27) := (by repeat' (first | rfl | assumption | (with_reducible refine (heap_drew_eq _ _).trans ?_) | (refine (Fut.heap _ _ ?_).trans ?_ ; focus (first | assumption | omega | (simp [go_sem]; done) | (simp [go_sem]; omega))) | (refine (heap_put_at _ _ _ ?_).trans ?_ ; focus (first | assumption | omega | (simp [go_sem]; done) | (simp [go_sem]; omega))) | (refine (heap_put_other _ _ _ _ ?_).trans ?_ ; focus (first | assumption | omega | (simp [go_sem]; done) | (simp [go_sem]; omega))) | (refine (heap_alloc_other _ _ _ ?_).trans ?_ ; focus (first | assumption | omega | (simp [go_sem]; done) | (simp [go_sem]; omega))) | (refine (heap_alloc_at _ _ _ ?_).trans ?_ ; focus (first | assumption | omega | (simp [go_sem]; done) | (simp [go_sem]; omega))) | (simp [go_sem]; done) | (simp [go_sem]; omega)))
  have hS2 : (((((W.alloc (.cells #[.int .u64 a, .int .u64 b] 25)).alloc (.cells #[.int .i64 0] 3)).alloc (.cells #[.pointer g] 27)).alloc (.cells #[.int .u64 a, .int .u64 b] 25))).heap[W.heap.size + 1 + 1 + 1]? = some (.cells #[.int .u64 a, .int .u64 b] 25) := (by repeat' (first | rfl | assumption | (with_reducible refine (heap_drew_eq _ _).trans ?_) | (refine (Fut.heap _ _ ?_).trans ?_ ; focus (first | assumption | omega | (simp [go_sem]; done) | (simp [go_sem]; omega))) | (refine (heap_put_at _ _ _ ?_).trans ?_ ; focus (first | assumption | omega | (simp [go_sem]; done) | (simp [go_sem]; omega))) | (refine (heap_put_other _ _ _ _ ?_).trans ?_ ; focus (first | assumption | omega | (simp [go_sem]; done) | (simp [go_sem]; omega))) | (refine (heap_alloc_other _ _ _ ?_).trans ?_ ; focus (first | assumption | omega | (simp [go_sem]; done) | (simp [go_sem]; omega))) | (refine (heap_alloc_at _ _ _ ?_).trans ?_ ; focus (first | assumption | omega | (simp [go_sem]; done) | (simp [go_sem]; omega))) | (simp [go_sem]; done) | (simp [go_sem]; omega)))
  have hbV : Below W.heap.size W (((((W.alloc (.cells #[.int .u64 a, .int .u64 b] 25)).alloc (.cells #[.int .i64 0] 3)).alloc (.cells #[.pointer g] 27)).alloc (.cells #[.int .u64 a, .int .u64 b] 25))) := (by repeat' (first | exact Below.refl _ _ | with_reducible assumption | omega | with_reducible refine below_put_fut ?_ ?_ _ | with_reducible refine below_to_put ?_ | with_reducible refine Below.alloc ?_ ?_ _ | with_reducible refine Below.fut ?_ ?_ _ | with_reducible refine Below.drew ?_ | with_reducible refine Below.setCell ?_ ?_ _ | with_reducible refine Below.atPut ?_ ?_ _ | (simp [go_sem]; done) | (simp [go_sem]; omega)))
  generalize ((((W.alloc (.cells #[.int .u64 a, .int .u64 b] 25)).alloc (.cells #[.int .i64 0] 3)).alloc (.cells #[.pointer g] 27)).alloc (.cells #[.int .u64 a, .int .u64 b] 25)) = V at h5 hS1 hS2 hbV ⊢
  have hV4 := lt_of_heap hS2
  have hVs := hbV.size
  refine wpIn_wide.1 (wpIn_rangeFunc_ownH (F := Fence.wide) (n := 9) rfl (by omega) (gf := 28) (lb := #[.pointer (some ⟨W.heap.size + 1 + 1, 0, none⟩), .pointer (some ⟨W.heap.size + 1 + 1 + 1, 0, none⟩)]) rfl trivial (enters_of Tryz.func28 (by kernel_rfl) rfl)
    (hseq V (W.heap.size + 1 + 1) (W.heap.size + 1) hbV hS1 hS2 (by omega) (by omega) (by omega) (by omega)) (fun h k => h.trans k) (fun X q o o' hq hX hc _ => KpS.putObj _ X q o o' hX hc) (Below.refl _ _) (fun _ => rfl)
    (fun pre X => (X.heap[W.heap.size + 1]? = some (.cells #[.int .i64 (pre.length : Nat)] 3) ∧ Below W.heap.size W X))
    (fun c pre X => False)
    ?hI (fun c s X Y row hs _ _ => hs) ⟨h5, hbV⟩
    (fun y a' X => a' = { tmps := #[.pointer g, .agg #[.int .u64 a, .int .u64 b], undef, .pointer (some ⟨W.heap.size, 0, none⟩), .int .i64 0, .pointer (some ⟨W.heap.size + 1, 0, none⟩), .pointer g, .agg #[.int .u64 a, .int .u64 b], .func (.func 28) #[] #[.pointer (some ⟨W.heap.size + 1 + 1, 0, none⟩), .pointer (some ⟨W.heap.size + 1 + 1 + 1, 0, none⟩)], .string (f y).1, .string (f y).2, undef, undef, undef], defers := [] })
    (fun x a' s X Y row hs hg hr => hs) ?assign ?body ?done ?stop)
  case hI => exact OwnFrom.and (ownFrom_heap _ _ (fun pre : List α => #[.int .i64 (pre.length : Nat)]) _ _) (ownFrom_below (Nat.le_refl _) hVs)
  case assign =>
    rintro ll pre y X K ⟨i5, iB⟩ hK
    have HK := hid hK
    have HI5 := hid i5
    have HIB := hid iB
    clear hK i5 iB
    gi_wp2_with fail
    exact HK.out _ _ (KeepsFrom.chg (S := fun _ => False) (Chg.refl _ _) (fun k hk => hk.elim)) (KpS.refl _ _) ⟨HI5.out, HIB.out⟩ (by simp)
  case body =>
    rintro ll pre y a' X hll hr ⟨i5, iB⟩ rfl hlen
    have hx5 := lt_of_heap i5
    have hXs := iB.size
    have IB := hid iB
    have HCH := hid ((Chg.refl (fun k => k = W.heap.size + 1) X).put (fun _ => rfl) (.cells #[.int .i64 ((pre.length : Int) + 1)] 3))
    have HBL := hid (show Below W.heap.size W (put X (W.heap.size + 1) (.cells #[.int .i64 ((pre.length : Int) + 1)] 3)) from Below.atPut iB (by omega) _)
    have e1 : IntKind.i64.wrap ((pre.length : Int) + 1) = (pre.length : Int) + 1 := IntWalk.i64_in _ (by omega)
    have I5 := hid i5
    clear hr iB
    rw [← put_self i5]
    clear i5
    gi_wp2_with fail
    rw [put_self I5.out]
    exact ⟨KeepsFrom.chg HCH.out (fun k hk => by subst hk; omega), KpS.chg HCH.out, by rw [List.length_append]; exact heap_put_at _ _ _ hx5, HBL.out⟩
  case done =>
    rintro D ys X hD hys ⟨i5, iB⟩ hK
    have hys : L = ys := hys.symm
    subst hys
    have hx5 := lt_of_heap i5
    have e5 := fun i => cell_of_row X (W.heap.size + 1) i _ _ (0, 0) i5
    have IB := hid iB
    have HK := hid hK
    clear iB hK i5
    go_wp2_with fail
    refine ⟨by simp, .inl ⟨_, _, rfl, run_takeDeferred HK.out, ?_⟩⟩
    exact ⟨.int .i64 (L.length : Nat), by simp [results, Tryz.results63, go_sem], .mk rfl (IB.out.trans (belowK_b (w := W) (Nat.le_refl _) X D _ _ (by omega) HK.out rfl rfl))⟩
  case stop =>
    rintro D c pre X hD ⟨q, hq, rfl⟩ hx hK
    exact hx.elim
end Go.Proofs.YthknenhcnpgkcaaGreat

/- What Arc$1 has told at each step: plain lists. -/
namespace Go.Proofs.YthknenhcnpgkcaaGreat
set_option linter.unusedVariables false
set_option linter.unusedSimpArgs false
/-- Told ahead of element j of piece i. -/
def toldA {α β : Type} (P : List β) (A : List α) (t : β → α → Bool) (p : β) (i j : Nat) : List α := (P.take i).flatMap (fun p => A.filter (t p)) ++ (A.take j).filter (t p)
theorem cut_at {α : Type} {L : List α} {i : Nat} {x : α} (h : L[i]? = some x) : L = L.take i ++ x :: L.drop (i + 1) := by
  obtain ⟨hl, rfl⟩ := List.getElem?_eq_some_iff.1 h
  rw [List.getElem_cons_drop, List.take_append_drop]
theorem toldA_tells {α β : Type} {P : List β} {A : List α} {t : β → α → Bool} {p : β} {q : α} {i j : Nat} (hp : P[i]? = some p) (hq : A[j]? = some q) (hin : t p q = true) :
    (toldA P A t p i j).length < (P.flatMap fun p => A.filter (t p)).length ∧ toldA P A t p i j = (P.flatMap fun p => A.filter (t p)).take (toldA P A t p i j).length ∧
    toldA P A t p i (j + 1) = toldA P A t p i j ++ [q] ∧ toldA P A t p i j ++ [q] = (P.flatMap fun p => A.filter (t p)).take ((toldA P A t p i j).length + 1) := by
  obtain ⟨R, hR⟩ : ∃ R, (P.flatMap fun p => A.filter (t p)) = toldA P A t p i j ++ q :: R := by
    refine ⟨(A.drop (j + 1)).filter (t p) ++ (P.drop (i + 1)).flatMap (fun p => A.filter (t p)), ?_⟩
    have hf : A.filter (t p) = (A.take j).filter (t p) ++ q :: (A.drop (j + 1)).filter (t p) := by
      conv => lhs; rw [cut_at hq]
      rw [List.filter_append, List.filter_cons_of_pos hin]
    conv => lhs; rw [cut_at hp]
    rw [List.flatMap_append, List.flatMap_cons, hf, toldA]
    simp
  have hs : toldA P A t p i (j + 1) = toldA P A t p i j ++ [q] := by
    unfold toldA
    rw [List.take_add_one, hq, List.filter_append]
    simp [hin]
  generalize toldA P A t p i j = T at hR hs ⊢
  rw [hR]
  refine ⟨by rw [List.length_append, List.length_cons]; omega, by rw [List.take_left' rfl], hs, ?_⟩
  rw [show T ++ q :: R = (T ++ [q]) ++ R by simp, List.take_left' (by simp)]
theorem toldA_skips {α β : Type} {P : List β} {A : List α} {t : β → α → Bool} {p : β} {q : α} {i j : Nat} (hq : A[j]? = some q) (hin : t p q = false) : toldA P A t p i (j + 1) = toldA P A t p i j := by
  unfold toldA
  rw [List.take_add_one, hq, List.filter_append]
  simp [hin]
theorem toldA_next {α β : Type} {P : List β} {A : List α} {t : β → α → Bool} {p : β} {i : Nat} (hp : P[i]? = some p) (p' : β) : toldA P A t p i A.length = toldA P A t p' (i + 1) 0 := by
  unfold toldA
  rw [List.take_add_one, hp, List.flatMap_append]
  simp
theorem toldA_end {α β : Type} (P : List β) (A : List α) (t : β → α → Bool) (p : β) : toldA P A t p P.length 0 = P.flatMap fun p => A.filter (t p) := by
  unfold toldA
  simp
end Go.Proofs.YthknenhcnpgkcaaGreat

/- Where keys lie, in their order; the items of an arc, and its middle: plain lists. -/
namespace Go.Proofs.YthknenhcnpgkcaaGreat
open Go.RowKit
set_option linter.unusedVariables false
set_option linter.unusedSimpArgs false
/-- The number of the first k bytes, from the front. -/
def addrF : Nat → List UInt8 → Nat
  | 0, _ => 0
  | k + 1, l => byteAt l 0 * 256 ^ k + addrF k l.tail
theorem byteAt_tail (l : List UInt8) (i : Nat) : byteAt l.tail i = byteAt l (i + 1) := by
  unfold byteAt; cases l <;> simp
theorem addrUp_front (l : List UInt8) : ∀ k, addrUp l (k + 1) = byteAt l 0 * 256 ^ k + addrUp l.tail k
  | 0 => by simp [addrUp]
  | k + 1 => by
    rw [addrUp, addrUp_front l k, addrUp, byteAt_tail, Nat.pow_succ]
    rw [Nat.add_mul, Nat.mul_assoc, Nat.add_assoc]
theorem addrUp_tail_lt (l : List UInt8) (k : Nat) : addrUp l k < 256 ^ k := addrUp_lt l k
theorem addr_mono : ∀ (k : Nat) (a b : List UInt8), Op.bytesLess a b = true → addrUp a k ≤ addrUp b k
  | 0, _, _, _ => Nat.le_refl _
  | k + 1, a, b, h => by
    rw [addrUp_front, addrUp_front]
    cases b with
    | nil => rw [less_nil_right] at h; cases h
    | cons y b =>
      cases a with
      | nil =>
        have e : ∀ j, addrUp ([] : List UInt8) j = 0 := by
          intro j; induction j with
          | zero => rfl
          | succ j ih => simp [addrUp, ih, byteAt]
        rw [List.tail_nil, e]; simp [byteAt]
      | cons x a =>
        rw [less_cons] at h
        simp only [Bool.or_eq_true, Bool.and_eq_true, decide_eq_true_eq] at h
        have e1 : byteAt (x :: a) 0 = x.toNat := rfl
        have e2 : byteAt (y :: b) 0 = y.toNat := rfl
        rw [e1, e2, List.tail_cons, List.tail_cons]
        have := addrUp_lt a k
        rcases h with h | ⟨h, h'⟩
        · have hm : (x.toNat + 1) * 256 ^ k ≤ y.toNat * 256 ^ k := Nat.mul_le_mul_right _ h
          rw [Nat.add_mul] at hm; omega
        · have := addr_mono k a b h'
          rw [h]; omega
theorem addr_le {a b : List UInt8} (h : Op.bytesLess b a = false) : addrN a ≤ addrN b := by
  by_cases e : a = b
  · rw [e]; exact Nat.le_refl _
  · have := less_total b a (fun h' => e h'.symm)
    rw [h] at this
    exact addr_mono 8 a b (by simpa using this)
theorem addr_lt {a b : List UInt8} (h : addrN a < addrN b) : Op.bytesLess a b = true := by
  cases hb : Op.bytesLess a b with
  | true => rfl
  | false => have := addr_le hb; omega
/-- Where an item lies. -/
def adr (x : It) : Int := (addrN x.1.data.toList : Nat)
theorem adr_ge (x : It) : 0 ≤ adr x := by unfold adr; omega
theorem adr_lt (x : It) : adr x < 18446744073709551616 := by
  have := addrUp_lt x.1.data.toList 8
  unfold adr addrN
  omega
theorem adr_le {x y : It} (h : lt x.1 y.1 = true) : adr x ≤ adr y := by
  have := addr_mono 8 x.1.data.toList y.1.data.toList h
  unfold adr addrN
  omega
/-- Does an item lie in a piece? -/
def inP (p : Int × Int) (x : It) : Bool := decide (p.1 ≤ adr x) && (decide (p.2 = 0) || decide (adr x < p.2))
/-- The items of an arc, in its order. -/
def arcL (a b : Int) (xs : List It) : List It := (piecesA a b).flatMap fun p => xs.filter (inP p)
/-- Does a point lie in an arc? -/
def inArc (a b x : Int) : Bool := decide (a = b) || decide ((x - a) % 18446744073709551616 < (b - a) % 18446744073709551616)
/-- How far behind a's beginning an item lies. -/
def off (a : Int) (x : It) : Int := (adr x - a) % 18446744073709551616
theorem pieces_cases (a b : Int) : (b = 0 ∧ piecesA a b = [(a, 0)]) ∨ (b ≠ 0 ∧ a < b ∧ piecesA a b = [(a, b)]) ∨ (b ≠ 0 ∧ b ≤ a ∧ piecesA a b = [(a, 0), (0, b)]) := by
  unfold piecesA
  by_cases h : b = 0
  · subst h; simp
  · by_cases h2 : a < b
    · right; left; simp [h, h2]
    · right; right; simp [h, h2]; omega
theorem inArc_iff (a b x : Int) : inArc a b x = true ↔ a = b ∨ (x - a) % 18446744073709551616 < (b - a) % 18446744073709551616 := by simp [inArc]
theorem inP_iff (p : Int × Int) (x : It) : inP p x = true ↔ p.1 ≤ adr x ∧ (p.2 = 0 ∨ adr x < p.2) := by simp [inP]
theorem inP_iff2 (u v : Int) (x : It) : inP (u, v) x = true ↔ u ≤ adr x ∧ (v = 0 ∨ adr x < v) := inP_iff _ _
/-- The document's: those from the arc's beginning on, then those ahead of it. -/
theorem arcL_ref {a b : Int} (ha : 0 ≤ a) (ha2 : a < 18446744073709551616) (hb : 0 ≤ b) (hb2 : b < 18446744073709551616) (xs : List It) :
    arcL a b xs = (xs.filter fun x => inArc a b (adr x) && decide (a ≤ adr x)) ++ xs.filter fun x => inArc a b (adr x) && !decide (a ≤ adr x) := by
  unfold arcL
  have key : ∀ (p q : It → Bool), (∀ x ∈ xs, p x = q x) → xs.filter p = xs.filter q := fun p q h => List.filter_congr h
  have none : ∀ (p : It → Bool), (∀ x ∈ xs, p x = false) → xs.filter p = [] := fun p h => List.filter_eq_nil_iff.2 fun x hx e => by rw [h x hx] at e; cases e
  have bo : ∀ {p q : Bool}, (p = true ↔ q = true) → p = q := fun {p q} h => by cases p <;> cases q <;> simp_all
  rcases pieces_cases a b with ⟨rfl, e⟩ | ⟨h0, h1, e⟩ | ⟨h0, h1, e⟩
  · rw [e, List.flatMap_cons, List.flatMap_nil, List.append_nil]
    conv => rhs; rw [none (fun x => inArc a 0 (adr x) && !decide (a ≤ adr x)) fun x _ => by
      have := adr_ge x; have := adr_lt x
      rw [Bool.eq_false_iff]; simp only [ne_eq, Bool.and_eq_true, inArc_iff, Bool.not_eq_true', decide_eq_false_iff_not]; omega]
    rw [List.append_nil]
    refine key _ _ fun x _ => bo ?_
    have := adr_ge x; have := adr_lt x
    simp only [Bool.and_eq_true, inArc_iff, inP_iff2, true_or, and_true, decide_eq_true_eq]
    omega
  · rw [e, List.flatMap_cons, List.flatMap_nil, List.append_nil]
    conv => rhs; rw [none (fun x => inArc a b (adr x) && !decide (a ≤ adr x)) fun x _ => by
      have := adr_ge x; have := adr_lt x
      rw [Bool.eq_false_iff]; simp only [ne_eq, Bool.and_eq_true, inArc_iff, Bool.not_eq_true', decide_eq_false_iff_not]; omega]
    rw [List.append_nil]
    refine key _ _ fun x _ => bo ?_
    have := adr_ge x; have := adr_lt x
    simp only [Bool.and_eq_true, inArc_iff, inP_iff2, true_or, and_true, decide_eq_true_eq]
    omega
  · rw [e, List.flatMap_cons, List.flatMap_cons, List.flatMap_nil, List.append_nil]
    congr 1
    · refine key _ _ fun x _ => bo ?_
      have := adr_ge x; have := adr_lt x
      simp only [Bool.and_eq_true, inArc_iff, inP_iff2, true_or, and_true, decide_eq_true_eq]
      omega
    · refine key _ _ fun x _ => bo ?_
      have := adr_ge x; have := adr_lt x
      simp only [Bool.and_eq_true, inArc_iff, inP_iff2, true_or, and_true, Bool.not_eq_true', decide_eq_false_iff_not]
      omega
theorem arcL_countP {a b : Int} (ha : 0 ≤ a) (ha2 : a < 18446744073709551616) (hb : 0 ≤ b) (hb2 : b < 18446744073709551616) (q : It → Bool) (xs : List It) :
    (arcL a b xs).countP q = xs.countP fun x => inArc a b (adr x) && q x := by
  rw [arcL_ref ha ha2 hb hb2, List.countP_append, List.countP_filter, List.countP_filter]
  induction xs with
  | nil => rfl
  | cons x xs ih =>
    simp only [List.countP_cons]
    rw [← ih]
    cases q x <;> cases inArc a b (adr x) <;> cases decide (a ≤ adr x) <;> simp <;> omega
theorem arcL_len {a b : Int} (ha : 0 ≤ a) (ha2 : a < 18446744073709551616) (hb : 0 ≤ b) (hb2 : b < 18446744073709551616) (xs : List It) :
    (arcL a b xs).length = xs.countP fun x => inArc a b (adr x) := by
  have := arcL_countP ha ha2 hb hb2 (fun _ => true) xs
  simpa using this
theorem arcL_len_le {a b : Int} (ha : 0 ≤ a) (ha2 : a < 18446744073709551616) (hb : 0 ≤ b) (hb2 : b < 18446744073709551616) (xs : List It) : (arcL a b xs).length ≤ xs.length := by
  rw [arcL_len ha ha2 hb hb2]; exact List.countP_le_length
theorem arcL_mem {a b : Int} (ha : 0 ≤ a) (ha2 : a < 18446744073709551616) (hb : 0 ≤ b) (hb2 : b < 18446744073709551616) {xs : List It} {x : It} : x ∈ arcL a b xs ↔ x ∈ xs ∧ inArc a b (adr x) = true := by
  rw [arcL_ref ha ha2 hb hb2, List.mem_append, List.mem_filter, List.mem_filter]
  cases inArc a b (adr x) <;> cases decide (a ≤ adr x) <;> simp
/-- An arc's items come in the order in which they lie behind its beginning. -/
theorem arcL_off {a b : Int} (ha : 0 ≤ a) (ha2 : a < 18446744073709551616) (hb : 0 ≤ b) (hb2 : b < 18446744073709551616) {xs : List It} (hr : Rises xs) : (arcL a b xs).Pairwise fun x y => off a x ≤ off a y := by
  have hp : ∀ q : It → Bool, (xs.filter q).Pairwise fun x y => adr x ≤ adr y := fun q => (List.Pairwise.sublist List.filter_sublist hr).imp fun h => adr_le h
  rw [arcL_ref ha ha2 hb hb2, List.pairwise_append]
  refine ⟨List.Pairwise.imp_of_mem ?_ (hp _), List.Pairwise.imp_of_mem ?_ (hp _), ?_⟩
  · intro x y hx hy h
    have h1 := (List.mem_filter.1 hx).2
    have h2 := (List.mem_filter.1 hy).2
    simp only [Bool.and_eq_true, decide_eq_true_eq] at h1 h2
    have := adr_lt x; have := adr_lt y
    unfold off; omega
  · intro x y hx hy h
    have h1 := (List.mem_filter.1 hx).2
    have h2 := (List.mem_filter.1 hy).2
    simp only [Bool.and_eq_true, Bool.not_eq_true', decide_eq_false_iff_not] at h1 h2
    have := adr_ge x; have := adr_ge y
    unfold off; omega
  · intro x hx y hy
    have h1 := (List.mem_filter.1 hx).2
    have h2 := (List.mem_filter.1 hy).2
    simp only [Bool.and_eq_true, Bool.not_eq_true', decide_eq_false_iff_not, decide_eq_true_eq] at h1 h2
    have := adr_lt x; have := adr_ge y
    unfold off; omega
/-- Where a list of addresses is cut. -/
def midL (D : List Int) : Option Int := (D.drop ((D.length + 1) / 2)).find? fun x => x != D.getD ((D.length + 1) / 2 - 1) 0
end Go.Proofs.YthknenhcnpgkcaaGreat

/- Where an arc is cut in the middle; an arc's two parts; two ranges side by side: plain lists. -/
namespace Go.Proofs.YthknenhcnpgkcaaGreat
open Go.RowKit
set_option linter.unusedVariables false
set_option linter.unusedSimpArgs false
theorem midL_some {D : List Int} {m : Int} (h : midL D = some m) : ∃ i, (D.length + 1) / 2 ≤ i ∧ D[i]? = some m ∧ m ≠ D.getD ((D.length + 1) / 2 - 1) 0 := by
  unfold midL at h
  have h1 := List.mem_of_find?_eq_some h
  have h2 := List.find?_some h
  obtain ⟨j, hj⟩ := List.getElem?_of_mem h1
  rw [List.getElem?_drop] at hj
  exact ⟨_, Nat.le_add_right _ _, hj, by simpa using h2⟩
theorem pairwise_get {α : Type} {R : α → α → Prop} {L : List α} (h : L.Pairwise R) (hrefl : ∀ x, R x x) {i j : Nat} {x y : α} (hij : i ≤ j) (hx : L[i]? = some x) (hy : L[j]? = some y) : R x y := by
  rcases Nat.lt_or_eq_of_le hij with c | rfl
  · obtain ⟨hi, rfl⟩ := List.getElem?_eq_some_iff.1 hx
    obtain ⟨hj, rfl⟩ := List.getElem?_eq_some_iff.1 hy
    exact List.pairwise_iff_getElem.1 h i j hi hj c
  · rw [hx] at hy; cases hy; exact hrefl _
theorem middle_law {a b : Int} (ha : 0 ≤ a) (ha2 : a < 18446744073709551616) (hb : 0 ≤ b) (hb2 : b < 18446744073709551616) {xs : List It} (hr : Rises xs) {m : Int} (hm : midL ((arcL a b xs).map adr) = some m) :
    m ≠ a ∧ 0 ≤ m ∧ m < 18446744073709551616 ∧ 1 ≤ (arcL a m xs).length ∧ 1 ≤ (arcL m b xs).length ∧ (arcL a b xs).length ≤ 2 * (arcL a m xs).length ∧ (arcL a m xs).length + (arcL m b xs).length = (arcL a b xs).length := by
  obtain ⟨i, hi, hmi, hne⟩ := midL_some hm
  rw [List.length_map] at hi hne
  obtain ⟨L, hL⟩ : ∃ L, arcL a b xs = L := ⟨_, rfl⟩
  rw [hL] at hi hmi hne
  rw [List.getElem?_map] at hmi
  obtain ⟨y, hy, rfl⟩ := Option.map_eq_some_iff.1 hmi
  have hil : i < L.length := (List.getElem?_eq_some_iff.1 hy).1
  obtain ⟨z, hz⟩ : ∃ z, L[(L.length + 1) / 2 - 1]? = some z := ⟨_, List.getElem?_eq_getElem (by omega)⟩
  have hz' : adr y ≠ adr z := by
    rw [List.getD, List.getElem?_map, hz] at hne
    exact hne
  have hp : L.Pairwise fun x y => off a x ≤ off a y := by rw [← hL]; exact arcL_off ha ha2 hb hb2 hr
  have hzy : off a z ≤ off a y := pairwise_get hp (fun _ => Int.le_refl _) (by omega) hz hy
  have y1 := adr_ge y; have y2 := adr_lt y; have z1 := adr_ge z; have z2 := adr_lt z
  have hzy2 : off a z < off a y := by unfold off at hzy ⊢; omega
  have hya : adr y ≠ a := by unfold off at hzy2; intro e; rw [e] at hzy2; omega
  have hyL : y ∈ L := List.mem_of_getElem? hy
  have hyin : inArc a b (adr y) = true := by rw [← hL] at hyL; exact ((arcL_mem ha ha2 hb hb2).1 hyL).2
  rw [inArc_iff] at hyin
  have low : (arcL a (adr y) xs).length = L.countP fun x => decide (off a x < off a y) := by
    rw [arcL_len ha ha2 y1 y2, ← hL, arcL_countP ha ha2 hb hb2]
    refine List.countP_congr fun x _ => ?_
    have := adr_ge x; have := adr_lt x
    simp only [Bool.and_eq_true, inArc_iff, decide_eq_true_eq]
    unfold off
    omega
  have high : (arcL (adr y) b xs).length = L.countP fun x => !decide (off a x < off a y) := by
    rw [arcL_len y1 y2 hb hb2, ← hL, arcL_countP ha ha2 hb hb2]
    refine List.countP_congr fun x _ => ?_
    have := adr_ge x; have := adr_lt x
    simp only [Bool.and_eq_true, inArc_iff, Bool.not_eq_true', decide_eq_false_iff_not]
    unfold off
    omega
  have hsum := List.length_eq_countP_add_countP (fun x => decide (off a x < off a y)) (l := L)
  have hsum2 : L.countP (fun x => decide (off a x < off a y)) + L.countP (fun x => !decide (off a x < off a y)) = L.length := by
    rw [hsum]
    congr 1
    refine List.countP_congr fun x _ => ?_
    simp
  have h1 : (L.length + 1) / 2 ≤ L.countP fun x => decide (off a x < off a y) := by
    have e : (L.take ((L.length + 1) / 2)).countP (fun x => decide (off a x < off a y)) = (L.take ((L.length + 1) / 2)).length := List.countP_eq_length.2 fun x hx => by
      obtain ⟨j, hj⟩ := List.getElem?_of_mem hx
      have hj2 : j < (L.length + 1) / 2 := by
        have := (List.getElem?_eq_some_iff.1 hj).1
        rw [List.length_take] at this; omega
      rw [List.getElem?_take, if_pos hj2] at hj
      have := pairwise_get hp (fun _ => Int.le_refl _) (show j ≤ (L.length + 1) / 2 - 1 by omega) hj hz
      exact decide_eq_true (by omega)
    have e2 := (List.take_sublist ((L.length + 1) / 2) L).countP_le (p := fun x => decide (off a x < off a y))
    rw [e, List.length_take] at e2
    omega
  have h2 : 0 < L.countP fun x => !decide (off a x < off a y) := List.countP_pos_iff.2 ⟨y, hyL, by simp⟩
  rw [low, high, hL]
  exact ⟨hya, y1, y2, by omega, by omega, by omega, hsum2⟩
/-- What is in one of two parts, of which the one lies ahead of the other. -/
theorem filter_two {α : Type} {R : α → α → Prop} (p q r : α → Bool) (hr : ∀ x, r x = (p x || q x)) (hpq : ∀ x y, p x = true → q y = true → R y x → False) (hself : ∀ x, p x = true → q x = true → False) : ∀ {xs : List α}, xs.Pairwise R → xs.filter r = xs.filter p ++ xs.filter q
  | [], _ => rfl
  | x :: xs, h => by
    obtain ⟨h1, h2⟩ := List.pairwise_cons.1 h
    have ih := filter_two p q r hr hpq hself h2
    rw [List.filter_cons, List.filter_cons, List.filter_cons, hr x, ih]
    cases hp : p x with
    | true =>
      have hq : q x = false := by
        cases hq : q x with
        | false => rfl
        | true => exact (hself x hp hq).elim
      simp [hq]
    | false =>
      cases hq : q x with
      | false => simp
      | true =>
        have e : xs.filter p = [] := List.filter_eq_nil_iff.2 fun y hy e => hpq y x e hq (h1 y hy)
        simp [e]
/-- An arc's two parts. -/
theorem arcL_split {a b x : Int} (ha : 0 ≤ a) (ha2 : a < 18446744073709551616) (hb : 0 ≤ b) (hb2 : b < 18446744073709551616) (hx : 0 ≤ x) (hx2 : x < 18446744073709551616) (hin : inArc a b x = true) (hne : x ≠ a) {xs : List It} (hr : Rises xs) :
    arcL a x xs ++ arcL x b xs = arcL a b xs := by
  rw [inArc_iff] at hin
  have hp : xs.Pairwise fun y z => adr y ≤ adr z := hr.imp fun h => adr_le h
  have two : ∀ (l m h : Int), (m ≠ 0) → l ≤ m → (h = 0 ∨ m ≤ h) → xs.filter (inP (l, h)) = xs.filter (inP (l, m)) ++ xs.filter (inP (m, h)) := fun l m h hm hl hh => by
    refine filter_two (R := fun y z => adr y ≤ adr z) _ _ _ (fun y => ?_) (fun y z h1 h2 h3 => ?_) (fun y h1 h2 => ?_) hp
    · have bo : ∀ {p q : Bool}, (p = true ↔ q = true) → p = q := fun {p q} h => by cases p <;> cases q <;> simp_all
      refine bo ?_
      simp only [Bool.or_eq_true, inP_iff]
      omega
    · rw [inP_iff] at h1 h2
      simp only at h1 h2
      omega
    · rw [inP_iff] at h1 h2
      simp only at h1 h2
      omega
  unfold arcL
  rcases pieces_cases a b with ⟨rfl, e⟩ | ⟨h0, h1, e⟩ | ⟨h0, h1, e⟩
  · have c : a < x := by omega
    have e1 : piecesA a x = [(a, x)] := by unfold piecesA; rw [if_neg (by omega), if_pos c]
    have e2 : piecesA x 0 = [(x, 0)] := by unfold piecesA; rw [if_pos rfl]
    rw [e, e1, e2]
    simp only [List.flatMap_cons, List.flatMap_nil, List.append_nil]
    exact (two a x 0 (by omega) (by omega) (by omega)).symm
  · have c : a < x ∧ x < b := by omega
    have e1 : piecesA a x = [(a, x)] := by unfold piecesA; rw [if_neg (by omega), if_pos c.1]
    have e2 : piecesA x b = [(x, b)] := by unfold piecesA; rw [if_neg h0, if_pos c.2]
    rw [e, e1, e2]
    simp only [List.flatMap_cons, List.flatMap_nil, List.append_nil]
    exact (two a x b (by omega) (by omega) (by omega)).symm
  · rcases Int.lt_or_le a x with c | c
    · have e1 : piecesA a x = [(a, x)] := by unfold piecesA; rw [if_neg (by omega), if_pos c]
      have e2 : piecesA x b = [(x, 0), (0, b)] := by unfold piecesA; rw [if_neg h0, if_neg (by omega)]
      rw [e, e1, e2]
      simp only [List.flatMap_cons, List.flatMap_nil, List.append_nil]
      rw [two a x 0 (by omega) (by omega) (by omega), List.append_assoc]
    · by_cases hx0 : x = 0
      · subst hx0
        have e1 : piecesA a 0 = [(a, 0)] := by unfold piecesA; rw [if_pos rfl]
        have e2 : piecesA 0 b = [(0, b)] := by unfold piecesA; rw [if_neg h0, if_pos (by omega)]
        rw [e, e1, e2]
        simp only [List.flatMap_cons, List.flatMap_nil, List.append_nil]
      · have c2 : x < b := by omega
        have e1 : piecesA a x = [(a, 0), (0, x)] := by unfold piecesA; rw [if_neg hx0, if_neg (by omega)]
        have e2 : piecesA x b = [(x, b)] := by unfold piecesA; rw [if_neg h0, if_pos c2]
        rw [e, e1, e2]
        simp only [List.flatMap_cons, List.flatMap_nil, List.append_nil]
        rw [two 0 x b hx0 (by omega) (by omega), List.append_assoc]
/-- The items of a range. -/
def rangeL (u v : ByteArray) (xs : List It) : List It := xs.filter fun x => !lt x.1 u && (decide (v.size = 0) || lt x.1 v)
/-- Two ranges side by side. -/
theorem rangeL_split {u v t : ByteArray} {xs : List It} (hr : Rises xs) (huv : lt v u = false) (hvt : lt t v = false) (hv : v.size ≠ 0) (ht : t.size ≠ 0) : rangeL u v xs ++ rangeL v t xs = rangeL u t xs := by
  unfold rangeL
  have d1 : decide (v.size = 0) = false := decide_eq_false hv
  have d2 : decide (t.size = 0) = false := decide_eq_false ht
  have tr : ∀ {a b c : ByteArray}, lt a b = true → lt c b = false → lt a c = true := fun {a b c} h1 h2 => by
    by_cases e : c = b
    · subst e; exact h1
    · exact lt_trans h1 (lt_of_not h2 e)
  refine (filter_two (R := fun (y z : It) => lt y.1 z.1 = true) _ _ _ (fun y => ?_) (fun y z h1 h2 h3 => ?_) (fun y h1 h2 => ?_) hr).symm
  · simp only [d1, d2, Bool.false_or]
    cases h1 : lt y.1 u <;> cases h2 : lt y.1 v <;> cases h3 : lt y.1 t <;> simp
    · rw [tr h2 hvt] at h3; cases h3
    · rw [tr h1 huv] at h2; cases h2
  · simp only [d1, d2, Bool.false_or, Bool.and_eq_true, Bool.not_eq_true'] at h1 h2
    rw [lt_trans h3 h1.2] at h2
    simp at h2
  · simp only [d1, d2, Bool.false_or, Bool.and_eq_true, Bool.not_eq_true'] at h1 h2
    rw [h1.2] at h2
    simp at h2
/-- From behind its end a range has nothing. -/
theorem rangeL_none {u v : ByteArray} {xs : List It} (huv : lt v u = true) (hv : v.size ≠ 0) : rangeL u v xs = [] := by
  unfold rangeL
  refine List.filter_eq_nil_iff.2 fun x _ e => ?_
  simp only [decide_eq_false hv, Bool.false_or, Bool.and_eq_true, Bool.not_eq_true'] at e
  rw [lt_trans e.2 huv] at e
  simp at e
end Go.Proofs.YthknenhcnpgkcaaGreat
