import Derived.Test.YthgajbfgolcpkaaBag4
import Derived.RangeFuncNested
import Derived.RangeFuncBound
import Derived.RangeFuncCalls
import Derived.RangeFuncLeaves
import Derived.Shelf.Abstract
import Derived.Shelf.RegionOpen
import Derived.OwnWalkIn
import Derived.TacticsInMore
import Derived.LoopNIn
import Derived.LoopIn
/- Contracts of package bag: All, a way through it. -/
namespace Go.Proofs.Ythgajbfgolcpkaa
open Go.RowKit Go.Shelf
attribute [local go_sem] Oper.semAt_some
set_option linter.unusedVariables false
set_option linter.unusedSimpArgs false
/-- Whatever holds cells, and is none of S, lies as it lay. -/
def KpS (S : Nat → Prop) (W W' : World) : Prop := W.heap.size ≤ W'.heap.size ∧ ∀ k o, W.heap[k]? = some o → o.isCells = true → ¬ S k → W'.heap[k]? = W.heap[k]?
theorem KpS.refl (S : Nat → Prop) (W : World) : KpS S W W := ⟨Nat.le_refl _, fun _ _ _ _ _ => rfl⟩
theorem KpS.trans {S : Nat → Prop} {A B C : World} (h : KpS S A B) (k : KpS S B C) : KpS S A C :=
  ⟨Nat.le_trans h.1 k.1, fun i o hi hc hn => by
    have h1 := h.2 i o hi hc hn
    exact (k.2 i o (h1.trans hi) hc hn).trans h1⟩
theorem KpS.putObj (S : Nat → Prop) (W : World) (l : Nat) (o o' : Obj) (h : W.heap[l]? = some o) (hc : o.isCells = false) : KpS S W (W.putObj l o') :=
  ⟨by simp, fun k q hk hq _ => World.putObj_heap_other (fun e => by subst e; rw [h] at hk; cases hk; rw [hc] at hq; cases hq)⟩
theorem KpS.chg {S : Nat → Prop} {W W' : World} (h : Chg S W W') : KpS S W W' := ⟨h.size, fun k o hk _ hn => h.block k (lt_of_heap hk) hn⟩
theorem KpS.at_ {S : Nat → Prop} {W W' : World} (h : KpS S W W') {k : Nat} {cs : Array Value} {t : TypeId} {fr : Nat × Nat} (hk : W.heap[k]? = some (.cells cs t fr)) (hn : ¬ S k) : W'.heap[k]? = some (.cells cs t fr) := (h.2 k _ hk rfl hn).trans hk
theorem wpListIn_runTo {F : Fence} {n : Nat} {P : Program} {ops : Array Oper} {rest : List Oper} {o : Oper} {a : Act} {w : World} {Q : Exit → Act → World → Prop} (hF : ∀ f, F.fn f) (hg : o.guard = none) (hd : ∀ c, o.op ≠ .defer c) (dst : Option Tmp) (hdst : o.dst = dst)
    (v : Value) (w' : World) (hrun : (execOp a.eval o).run P w = .ok (.value v) w')
    (h : wpListIn F n P ops Q rest (a.put dst v) w') : wpListIn F n P ops Q (o :: rest) a w := by
  subst hdst
  refine wpListIn_plain hg fun K hK => ⟨fun f _ => hF f, ?_⟩
  rw [Oper.semAt_eq _ _ _ hd, hrun, Oper.uponIn_value]
  exact hK _ _ h
theorem wpListIn_skipTo {F : Fence} {n : Nat} {P : Program} {ops : Array Oper} {rest : List Oper} {o : Oper} {a : Act} {w : World} {Q : Exit → Act → World → Prop} (hF : ∀ f, F.fn f) (hg : o.guard = none) (hd : ∀ c, o.op ≠ .defer c) (hdst : o.dst = none)
    (w' : World) (hrun : (execOp a.eval o).run P w = .ok .skip w')
    (h : wpListIn F n P ops Q rest a w') : wpListIn F n P ops Q (o :: rest) a w := by
  refine wpListIn_plain hg fun K hK => ⟨fun f _ => hF f, ?_⟩
  rw [Oper.semAt_eq _ _ _ hd, hrun, Oper.uponIn_skip, hdst]
  exact hK _ _ h
theorem run_load_row {P : Program} {o : Oper} {a : Act} {w : World} (ty : TypeId) (x : Operand) (ho : o.op = .load ty x)
    (g : Nat) (hx : a.eval x = .pointer (some ⟨g, 0, none⟩)) (t : TypeId) (cs : Array Value) (fr : Nat × Nat) (d : TypeDesc) (hg : w.heap[g]? = some (.cells cs t fr))
    (hu : P.underlying ty = some d) (hd : (match d with | .struct _ | .array _ _ => true | _ => false) = true) (hi : (P.info? ty).map (·.size) = some cs.size) : (execOp a.eval o).run P w = .ok (.value (.agg cs)) w := by
  unfold execOp
  simp only [ho, hx, Instr.loadAt, Instr.sureAddr, Sem.run_bind, Sem.run_pure, Result.andThen_ok, run_loadVar_row w g t ty cs fr d hg hu hd hi]
theorem run_store_row {P : Program} {w : World} {o : Oper} {a : Act} (ty : TypeId) (x y : Operand) (ho : o.op = .store ty x y) (g : Nat) (cs cur : Array Value)
    (hx : a.eval x = .pointer (some ⟨g, 0, none⟩)) (hy : a.eval y = .agg cs) (hg : w.heap[g]? = some (.cells cur ty)) (hi : (P.info? ty).map (·.size) = some cs.size) (hs : cur.size = cs.size) (h1 : cs.all (·.oneCell') = true) :
    (execOp a.eval o).run P w = .ok .skip (put w g (.cells cs ty)) := by
  unfold execOp
  have hr := run_storeVar_row (P := P) w g ty ty cur cs hg hi hs h1
  rw [setRow_put hg] at hr
  simp only [ho, hx, hy, Instr.storeAt, Instr.sureAddr, Sem.run_bind, Sem.run_pure, Result.andThen_ok, hr]
theorem bagAll_is (g : Nat) (W : World) : Calls Try.prog 20 #[.pointer (some ⟨g, 0, none⟩)] W fun e W' => e = .returned (.func (.func 46) #[] #[.pointer (some ⟨W.heap.size, 0, none⟩)]) ∧ W' = W.alloc (.cells #[.pointer (some ⟨g, 0, none⟩)] 23) := by
  go_enter Try.func20, Try.ntmps20
  go_wp2_with fail
  go_ret
  exact ⟨rfl, rfl⟩
/-- What is told: packets with their places. -/
def told (l : List Pk) : List (Pk × Nat) := l.zipIdx
theorem told_length (l : List Pk) : (told l).length = l.length := by simp [told]
theorem told_at {l : List Pk} {k : Nat} {p : Pk} (h : l[k]? = some p) : (told l)[k]? = some (p, k) := by simp [told, h]
theorem told_succ {l : List Pk} {k : Nat} {p : Pk} (h : l[k]? = some p) : (told l).take (k + 1) = (told l).take k ++ [(p, k)] := by
  rw [List.take_add_one, told_at h]; rfl
/-- A row at a place: what an element's cells are. -/
theorem row_cells {W : World} {b r n cap : Nat} {l : List Pk} (h : W.ownsRow b 38 25 (.slice (some ⟨r, 0, none⟩) n cap) n (flatP l)) {k : Nat} {p : Pk} (hp : l[k]? = some p) : ∀ j u, (pkl p)[j]? = some u → W.cell? ((⟨r, k * 25, none⟩ : Addr).add j) = some u := by
  intro j u hu
  have := h.cells (g := r) rfl _ _ (flatP_at hp j u hu)
  rw [add_none] at this ⊢
  simpa using this
set_option maxRecDepth 100000 in
set_option maxHeartbeats 4000000 in
theorem bagAll1_stops (n : Nat) {most : Int} {w0 : Base} {g : Nat} {l : List Pk} {w : World} {v : Value} (h : BagAt most w0 g l.length (flatP l) w v) (hl : l.length ≤ 1000) (B : Nat) (hB : w.cell? ⟨B, 0, none⟩ = some (.pointer (some ⟨g, 0, none⟩))) (S : Nat → Prop) (hS : ∀ k, S k → k < w.heap.size) :
    SeqStopsK Fence.wide n Try.prog 46 #[.pointer (some ⟨B, 0, none⟩)] (fun x : Pk × Nat => #[Value.int .i64 (x.2 : Int), .agg (pk x.1.1 x.1.2.1 x.1.2.2.1 x.1.2.2.2)]) (KpS S) (fun ys => ys = told l) (fun pre => ∃ k, k ≤ l.length ∧ pre = (told l).take k) l.length w := fun ll J Jx W hW hJ hJx hY h0 => by
  refine callsIn_wide.2 ?_
  have hBl := World.block_lt_of_cell? _ _ hB
  have hB1 := (hW.cell hBl).trans hB
  have h1 := h.on hW
  obtain ⟨ao, cc, rfl⟩ := owns_slice h.owns
  have hc := fun i => cell_of_row W g i _ _ (0, 0) h1.heap
  have hJb : ∀ s A B, J s A → Below A.heap.size A B → J s B := fun s A B hs hb => hJ s A B none hs ⟨hb.os, hb.tape, hb.output, hb.size, fun k hk _ => hb.block k hk⟩ (fun r e => by cases e)
  have hz := hW.size
  have H1 := hid h1
  clear h h1 hB hBl
  go_enter Try.func46, Try.ntmps46
  go_wp2_with fail
  (((with_reducible refine (clone_pkt _ _ l.length (flatP l) ((owns_zero H1.out.owns).src (flatP_one _)) hl).mono ?_)); rintro _ W1 ⟨cv, rfl, hr1, hb1, hf1⟩)
  have hJ1 := hJb _ _ _ h0 hb1
  obtain ⟨a1, c1, rfl⟩ := owns_slice hr1
  have hz1 := hb1.size
  clear hc hB1
  have HR := hid hr1
  have HF := hid hf1
  have HJ1 := hid hJ1
  have HJB := hid hJb
  have HY := hid hY
  clear hr1 hf1 hb1 h0 hJ1 hJ hJx hY hJb
  go_wp2_with fail
  go_loopw [13] (fun i wr => ∃ k : Nat, k ≤ l.length ∧ i = .int .i64 k ∧ W1.heap.size ≤ wr.heap.size ∧ Hid (J ((told l).take k) wr) ∧ Hid (Row wr 38 25 (.slice a1 l.length c1) l.length (flatP l))) (fun i _ => l.length - (intOf i).toNat)
  case atStart => exact ⟨0, Nat.zero_le _, rfl, Nat.le_refl _, hid (by simpa using HJ1.out), HR⟩
  case round =>
    obtain ⟨k, hk, rfl, hzr, hJk, hrow⟩ := hrel
    by_cases hlt : k < l.length
    · obtain ⟨p, hp⟩ : ∃ p, l[k]? = some p := ⟨l[k], List.getElem?_eq_getElem hlt⟩
      obtain ⟨r2, rfl⟩ : ∃ r2, a1 = some ⟨r2, 0, none⟩ := by
        obtain ⟨r, cap, h2, _, _⟩ := World.ownsRow.form hrow.out (by omega)
        injection h2 with h2; exact ⟨r, h2⟩
      have HC := hid (row_cells hrow.out hp)
      have HP := hid hp
      clear hp
      have k1 : (k : Int) < l.length := by omega
      go_upto_region 3 with fail
      refine wp_region_lit ?_
      refine Go.Great.wpList_runTo rfl (some 15) rfl (.int .i64 k) wr (by simp [execOp, Act.eval, Act.put, go_sem, k1, hlt]) ?_
      simp only [Act.put, List.setIfInBounds_toArray, List.set_cons_succ, List.set_cons_zero]
      refine Go.Great.wpList_runTo rfl (some 16) rfl (.pointer (some ⟨r2, k * 25, none⟩)) wr (by simp [execOp, Act.eval, Act.put, go_sem, k1, hlt]) ?_
      simp only [Act.put, List.setIfInBounds_toArray, List.set_cons_succ, List.set_cons_zero]
      refine wpList_load_cells rfl 38 _ rfl ⟨r2, k * 25, none⟩ (by simp [Act.eval, Act.put]) (pkl p) _ HC.out Try.underlying38 rfl (by kernel_rfl) ?_
      rw [pkl_arr]
      simp only [Act.put, List.setIfInBounds_toArray, List.set_cons_succ, List.set_cons_zero]
      refine Go.Great.wpList_runTo rfl (some 4) rfl (.pointer (some ⟨wr.heap.size, 0, none⟩)) (wr.alloc (.cells (pk 0 0 0 0) 38)) (by kernel_rfl) ?_
      simp only [Act.put, List.setIfInBounds_toArray, List.set_cons_succ, List.set_cons_zero]
      refine Go.Great.wpList_runTo rfl (some 3) rfl (.int .i64 k) (wr.alloc (.cells (pk 0 0 0 0) 38)) (by simp [execOp, Act.eval, Act.put, go_sem]) ?_
      simp only [Act.put, List.setIfInBounds_toArray, List.set_cons_succ, List.set_cons_zero]
      refine wpList_store_row rfl 38 (.tmp 4) (.tmp 17) rfl wr.heap.size (pk p.1 p.2.1 p.2.2.1 p.2.2.2) (pk 0 0 0 0) (by simp [Act.eval, Act.put]) (by simp [Act.eval, Act.put]) (heap_alloc_at _ _ _ rfl) (by kernel_rfl) rfl (by simp [Value.oneCell']) ?_
      refine wpList_nil ?_
      rw [put_alloc]
      simp [Act.put]
      have hp2 : (wr.alloc (.cells (pk p.1 p.2.1 p.2.2.1 p.2.2.2) 38)).heap[wr.heap.size]? = some (.cells (pk p.1 p.2.1 p.2.2.1 p.2.2.2) 38) := heap_alloc_at _ _ _ rfl
      have hb2 : Below wr.heap.size wr (wr.alloc (.cells (pk p.1 p.2.1 p.2.2.1 p.2.2.2) 38)) := (by repeat' (first | exact Below.refl _ _ | with_reducible assumption | omega | with_reducible refine below_put_fut ?_ ?_ _ | with_reducible refine below_to_put ?_ | with_reducible refine Below.alloc ?_ ?_ _ | with_reducible refine Below.fut ?_ ?_ _ | with_reducible refine Below.drew ?_ | with_reducible refine Below.setCell ?_ ?_ _ | with_reducible refine Below.atPut ?_ ?_ _ | (simp [go_sem]; done) | (simp [go_sem]; omega)))
      generalize wr.alloc (.cells (pk p.1 p.2.1 p.2.2.1 p.2.2.2) 38) = W2 at hp2 hb2 ⊢
      go_upto_region 4 with fail
      rw [← wpIn_wide (n := n)]
      refine wpIn_region_lit ?_
      refine wpListIn_runTo (fun _ => trivial) rfl (fun _ h => by cases h) (some 18) rfl (.func (.yield ll) #[] #[]) W2 (by simp [execOp, Act.eval, Act.put, go_sem]) ?_
      simp only [Act.put, List.setIfInBounds_toArray, List.set_cons_succ, List.set_cons_zero]
      refine wpListIn_runTo (fun _ => trivial) rfl (fun _ h => by cases h) (some 19) rfl (.int .i64 k) W2 (by simp [execOp, Act.eval, Act.put, go_sem]) ?_
      simp only [Act.put, List.setIfInBounds_toArray, List.set_cons_succ, List.set_cons_zero]
      refine wpListIn_runTo (fun _ => trivial) rfl (fun _ h => by cases h) (some 20) rfl (.agg (pk p.1 p.2.1 p.2.2.1 p.2.2.2)) W2 (run_load_row 38 (.tmp 4) rfl wr.heap.size (by simp [Act.eval]) 38 _ (0, 0) _ hp2 Try.underlying38 rfl (by kernel_rfl)) ?_
      simp only [Act.put, List.setIfInBounds_toArray, List.set_cons_succ, List.set_cons_zero]
      gi_wp2_with fail
      refine ⟨trivial, fun h => (by cases h), ?_⟩
      rw [callsIn_wide]
      (((with_reducible refine (own_is _ _ _ _ _).mono ?_)); rintro _ _ ⟨rfl, u, rfl⟩)
      have hb3 := hb2.trans (u.below.mono hb2.size)
      have hp3 := (u.below.block _ (lt_of_heap hp2)).trans hp2
      have hz3 := u.below.size
      have hz4 := hb2.size
      generalize u.val = W3 at hb3 hp3 hz3 ⊢
      obtain ⟨fn, tmps, assign, body, hy, hR⟩ := HY.out _ (p, k) W3 (HJB.out _ _ _ hJk.out hb3) (by rw [List.length_take, told_length]; omega)
      dsimp only at hy
      gi_wp2_with fail
      refine ⟨fun h => (by cases h), ?_⟩
      refine hR.mono ?_
      clear hy hR
      rintro e W4 (⟨rfl, hJ4, hk4⟩ | ⟨rfl, hJx4⟩)
      · have hrow4 : Row W4 38 25 (.slice (some ⟨r2, 0, none⟩) l.length c1) l.length (flatP l) := by
          refine (hrow.out.chg (Chg.of_below (S := fun _ => False) hb3) (fun _ _ h => h)).keep fun q hq => ?_
          rw [blk_at _ _ _ _ _ none] at hq
          obtain rfl := one_ne hq
          obtain ⟨cur, _, _, hcur, _, _⟩ := row_open (hrow.out.chg (Chg.of_below (S := fun _ => False) hb3) (fun _ _ h => h))
          have hq0 := HF.out q
          refine hk4.2 q _ hcur rfl (fun h => ?_)
          have h2 := hS q h
          have := HF.out q (by omega)
          rw [blk_at _ _ _ _ _ none, one_self] at this
          omega
        have HJ4 := hid hJ4
        have HR4 := hid hrow4
        have hz5 := hk4.1
        clear hJ4 hk4 hrow4 hp3 hp2
        gi_wp2_with fail
        go_wp2_with fail
        exact ⟨⟨k + 1, by omega, by go_num, by omega, by rw [told_succ HP.out]; exact HJ4, HR4⟩, by simp [intOf]; omega⟩
      · gi_wp2_with fail
        go_wp2_with fail
        exact bodyPost_ret (results_none rfl _ _ _) rfl ⟨⟨_, rfl⟩, .inr ⟨_, ⟨k + 1, by omega, (told_succ HP.out).symm⟩, hJx4⟩⟩
    · obtain rfl : k = l.length := by omega
      have HJ5 := hid (show J (told l) wr from by have := hJk.out; rwa [List.take_of_length_le (by rw [told_length]; exact Nat.le_refl _)] at this)
      go_wp2_with fail
      go_end0
      exact ⟨⟨_, rfl⟩, .inl ⟨_, rfl, HJ5.out⟩⟩
end Go.Proofs.Ythgajbfgolcpkaa
