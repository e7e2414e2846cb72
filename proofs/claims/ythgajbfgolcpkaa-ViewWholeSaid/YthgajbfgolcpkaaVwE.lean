import Derived.Test.YthgajbfgolcpkaaVwB
import Derived.OwnWalkIn
/- The nodes of a view: the numbers that Nodes puts together. -/
namespace Go.Proofs.Ythgajbfgolcpkaa
open Go.RowKit Go.Shelf
attribute [local go_sem] Oper.semAt_some
set_option linter.unusedVariables false
set_option linter.unusedSimpArgs false
/-- The block of the list in block A. -/
def ownOf (A : Nat) (W : World) : Option Nat := match W.heap[A]? with
  | some (.cells cs _ _) => (cs[0]?).bind Value.ownBlock
  | _ => none
/-- Nothing but the list in block A, and its block, has changed. -/
structure KpO (A : Nat) (W W' : World) : Prop where
  size : W.heap.size ≤ W'.heap.size
  keep : ∀ k o, W.heap[k]? = some o → o.isCells = true → k ≠ A → ownOf A W ≠ some k → W'.heap[k]? = W.heap[k]?
  own : ∀ k, k < W.heap.size → ownOf A W' = some k → ownOf A W = some k
theorem ownOf_same {A : Nat} {W W' : World} (h : W'.heap[A]? = W.heap[A]?) : ownOf A W' = ownOf A W := by unfold ownOf; rw [h]
theorem KpO.refl (A : Nat) (W : World) : KpO A W W := ⟨Nat.le_refl _, fun _ _ _ _ _ _ => rfl, fun _ _ h => h⟩
theorem KpO.trans {A : Nat} {X Y Z : World} (h : KpO A X Y) (k : KpO A Y Z) : KpO A X Z :=
  ⟨Nat.le_trans h.size k.size, fun i o hi hc hA hn => by
    have h1 := h.keep i o hi hc hA hn
    exact (k.keep i o (h1.trans hi) hc hA fun e => hn (h.own i (lt_of_heap hi) e)).trans h1,
   fun i hi e => h.own i hi (k.own i (Nat.lt_of_lt_of_le hi h.size) e)⟩
theorem KpO.below {A : Nat} {W W' : World} (hA : A < W.heap.size) (h : Below W.heap.size W W') : KpO A W W' :=
  ⟨h.size, fun k o hk _ _ _ => h.block k (lt_of_heap hk), fun k _ e => by rwa [ownOf_same (h.block A hA)] at e⟩
theorem KpO.putObj {A : Nat} {W : World} {l : Nat} {o : Obj} (o' : Obj) (h : W.heap[l]? = some o) (hc : o.isCells = false) (hA : l ≠ A) : KpO A W (W.putObj l o') :=
  ⟨by simp, fun k q hk hq _ _ => World.putObj_heap_other (fun e => by subst e; rw [h] at hk; cases hk; rw [hc] at hq; cases hq),
   fun k _ e => by rwa [ownOf_same (World.putObj_heap_other (fun e => hA e.symm))] at e⟩
theorem ArcsAt.keepO {B A : Nat} {W W' : World} {ao : Option Addr} {n c : Nat} {L : List Ow} (h : ArcsAt B W (.slice ao n c) L) (hk : KpO A W W') (hA : A < B) (ho : ∀ r o, ao = some ⟨r, o, none⟩ → ownOf A W ≠ some r) : ArcsAt B W' (.slice ao n c) L := by
  rcases h with h | ⟨r, o, c', h1, h2, h3, h4⟩
  · exact .inl h
  · refine .inr ⟨r, o, c', h1, h2, Nat.lt_of_lt_of_le h3 hk.size, fun j u hu => ?_⟩
    injection h1 with h1
    have hc := h4 j u hu
    obtain ⟨q, hq, hqc⟩ := isCells_of_cell hc
    rw [World.cell?_of_block (w := W)]
    · exact hc
    · exact hk.keep r q hq hqc (by omega) (ho r o h1)
set_option maxRecDepth 100000 in
set_option maxHeartbeats 4000000 in
theorem viewAll1_stopsO (n : Nat) {w0 : Base} {g : Nat} {l : List Pt} {w : World} {v : Value} (h : ViewAt w0 g l w v) (hl : l.length ≤ 900) (B : Nat) (hB : w.cell? ⟨B, 0, none⟩ = some (.pointer (some ⟨g, 0, none⟩))) (A : Nat) (hA : A < w.heap.size) (hAo : ownOf A w = none) :
    SeqStopsK Fence.wide n Try.prog 69 #[.pointer (some ⟨B, 0, none⟩)] (fun x : Ow => #[.agg (owA x)]) (KpO A) (fun ys => ys = arcsL l) (fun pre => ∃ k, k ≤ (arcsL l).length ∧ pre = (arcsL l).take k) (arcsL l).length w := fun ll J Jx W hW hJ hJx hY h0 => by
  refine callsIn_wide.2 ?_
  have hBl := World.block_lt_of_cell? _ _ hB
  have hB1 := (hW.cell hBl).trans hB
  have h1 := h.on hW
  have hJb : ∀ s A B, J s A → Below A.heap.size A B → J s B := fun s A B hs hb => hJ s A B none hs ⟨hb.os, hb.tape, hb.output, hb.size, fun k hk _ => hb.block k hk⟩ (fun r e => by cases e)
  have hz := hW.size
  have hAoW : ownOf A W = none := by rw [ownOf_same (hW.block A hA)]; exact hAo
  have H1 := hid h1
  have hm := Nat.le_trans (arcsL_len l) hl
  have harcs := arcs_is h1 _ rfl hl
  generalize arcsL l = L at hm h0 hY harcs ⊢
  have HJB := hid hJb
  have HY := hid hY
  clear hJ hJx hY hJb h h1 hB hBl
  go_enter Try.func69, Try.ntmps69
  go_wp2_with fail
  refine harcs.mono ?_
  rintro _ W1 ⟨_, rfl, ha, hb1⟩
  have hJ1 := HJB.out _ _ _ h0 hb1
  obtain ⟨a1, c1, rfl⟩ := ha.form
  have hz1 := hb1.size
  have HJ1 := hid hJ1
  have HA := hid ha
  have HO1 := hid (show ownOf A W1 = none by rw [ownOf_same (hb1.block A (by omega))]; exact hAoW)
  obtain ⟨m, hLm⟩ : ∃ m, L.length = m := ⟨_, rfl⟩
  have HLM := hid hLm
  clear hJ1 ha hb1 h0 harcs
  rw [hLm] at hm HA ⊢
  clear hLm
  go_wp2_with fail
  go_loopw [8] (fun i wr => ∃ k : Nat, k ≤ m ∧ i = .int .i64 k ∧ W1.heap.size ≤ wr.heap.size ∧ Hid (J (L.take k) wr) ∧ Hid (ArcsAt W.heap.size wr (.slice a1 m c1) L) ∧ Hid (∀ r, r < W1.heap.size → ownOf A wr ≠ some r)) (fun i _ => m - (intOf i).toNat)
  case atStart => exact ⟨0, Nat.zero_le _, rfl, Nat.le_refl _, hid (by simpa using HJ1.out), HA, hid (fun r _ e => by rw [HO1.out] at e; cases e)⟩
  case round =>
    obtain ⟨k, hk, rfl, hzr, hJk, hrow, hown⟩ := hrel
    by_cases hlt : k < m
    · obtain ⟨p, hp⟩ : ∃ p, L[k]? = some p := ⟨L[k]'(by rw [HLM.out]; exact hlt), List.getElem?_eq_getElem _⟩
      obtain ⟨r, o, rfl, hr, c0, c1', c2, c3⟩ := hrow.out.cells hp
      obtain ⟨r', o', hr', hr1, _⟩ := HA.out.cells hp
      cases hr'
      have HP := hid hp
      clear hp
      go_upto_region 3 with fail
      have hp2 : (wr.alloc (.cells (owA p) 71)).heap[wr.heap.size]? = some (.cells (owA p) 71) := heap_alloc_at _ _ _ rfl
      have hb2 : Below wr.heap.size wr (wr.alloc (.cells (owA p) 71)) := (by repeat' (first | exact Below.refl _ _ | with_reducible assumption | omega | with_reducible refine below_put_fut ?_ ?_ _ | with_reducible refine below_to_put ?_ | with_reducible refine Below.alloc ?_ ?_ _ | with_reducible refine Below.fut ?_ ?_ _ | with_reducible refine Below.drew ?_ | with_reducible refine Below.setCell ?_ ?_ _ | with_reducible refine Below.atPut ?_ ?_ _ | (simp [go_sem]; done) | (simp [go_sem]; omega)))
      generalize wr.alloc (.cells _ 71) = W2 at hp2 hb2 ⊢
      rw [← wpIn_wide (n := n)]
      refine wpIn_region_lit ?_
      refine wpListIn_runTo (fun _ => trivial) rfl (fun _ h => by cases h) (some 12) rfl (.func (.yield ll) #[] #[]) W2 (by simp [execOp, Act.eval, Act.put, go_sem]) ?_
      simp only [Act.put, List.setIfInBounds_toArray, List.set_cons_succ, List.set_cons_zero]
      refine wpListIn_runTo (fun _ => trivial) rfl (fun _ h => by cases h) (some 13) rfl (.agg (owA p)) W2 (run_load_row 71 (.tmp 4) rfl wr.heap.size (by simp [Act.eval]) 71 _ (0, 0) _ hp2 Try.underlying71 rfl (by kernel_rfl)) ?_
      simp only [Act.put, List.setIfInBounds_toArray, List.set_cons_succ, List.set_cons_zero]
      have hz4 := hb2.size
      have HO2 := hid (show ∀ r, r < W1.heap.size → ownOf A W2 ≠ some r from fun r hr => by rw [ownOf_same (hb2.block A (by omega))]; exact hown.out r hr)
      obtain ⟨fn, tmps, assign, body, hy, hR⟩ := HY.out _ p W2 (HJB.out _ _ _ hJk.out hb2) (by rw [List.length_take, HLM.out]; omega)
      try dsimp only at hy
      gi_wp2_with fail
      refine ⟨fun h => (by cases h), ?_⟩
      refine hR.mono ?_
      clear hy hR
      rintro e W4 (⟨rfl, hJ4, hk4⟩ | ⟨rfl, hJx4⟩)
      · have hrow4 := hid ((hrow.out.on hb2).keepO hk4 (by omega) (fun r' o' e => by cases e; exact HO2.out _ hr1))
        have hown4 := hid (show ∀ r, r < W1.heap.size → ownOf A W4 ≠ some r from fun r hr e => HO2.out r hr (hk4.own r (by omega) e))
        have HJ4 := hid hJ4
        have hz5 := hk4.size
        clear hJ4 hk4 hp2
        gi_wp2_with fail
        go_wp2_with fail
        exact ⟨⟨k + 1, by omega, by go_num, by omega, by rw [take_snoc HP.out]; exact HJ4, hrow4, hown4⟩, by simp [intOf]; omega⟩
      · gi_wp2_with fail
        go_wp2_with fail
        exact bodyPost_ret (results_none rfl _ _ _) rfl ⟨⟨_, rfl⟩, .inr ⟨_, ⟨k + 1, by have := HLM.out; omega, (take_snoc HP.out).symm⟩, hJx4⟩⟩
    · obtain rfl : k = m := by omega
      have HJ5 := hid (show J L wr from by have := hJk.out; rwa [List.take_of_length_le (Nat.le_of_eq HLM.out)] at this)
      go_wp2_with fail
      go_end0
      exact ⟨⟨_, rfl⟩, .inl ⟨_, rfl, HJ5.out⟩⟩
theorem wpListIn_append_ex {F : Fence} {n : Nat} {P : Program} {w : World} {ops : Array Oper} {rest : List Oper} {o : Oper} {a : Act} {Q : Exit → Act → World → Prop} {R : Value → World → Prop} (hg : o.guard = none) (s x : Operand) (t : TypeId)
    (hop : o.op = Op.call { callee := Callee.builtin Builtin.append, args := #[s, x], argTypes := #[t, t] }) (v sv : Value) (hs : a.eval s = v) (hx : a.eval x = sv)
    (hrun : ∃ v' w', (Builtin.append_ #[t, t] o.type #[v, sv]).run P w = .ok v' w' ∧ R v' w') (h : ∀ v' w', R v' w' → wpListIn F n P ops Q rest (a.put o.dst v') w') : wpListIn F n P ops Q (o :: rest) a w := by
  obtain ⟨v', w', hrun, hR⟩ := hrun
  refine wpListIn_plain hg fun K hK' => ?_
  unfold Oper.wpIn
  refine ⟨?_, ?_⟩
  · simp [Oper.about, hop, resolve, Target.leads, Sem.run_pure]
  · rw [Oper.semAt_plain F _ _ (by rw [hop]; intro c hc'; cases hc')]
    simp [execOp, hop, resolve, invoke, builtin, hs, hx, hrun, Result.andThen]
    exact hK' _ _ (h v' w' hR)
theorem int1_info : (Try.prog.info? 3).map (fun i => (i.zero, i.size, i.bytes)) = some (some (.int .i64 0), 1, 8) := by kernel_rfl
/-- Block A holds a list of these numbers, of the program's own behind A. -/
structure IntsIn (A : Nat) (xs : List Int) (W : World) (v : Value) : Prop where
  heap : W.heap[A]? = some (.cells #[v] 47)
  row : W.ownsRow (A + 1) 3 1 v xs.length (xs.map (Value.int .i64))
theorem IntsIn.ownOf {A : Nat} {xs : List Int} {W : World} {v : Value} (h : IntsIn A xs W v) : Go.Proofs.Ythgajbfgolcpkaa.ownOf A W = v.ownBlock := by
  unfold Go.Proofs.Ythgajbfgolcpkaa.ownOf
  rw [h.heap]
  rfl
/-- One more number. -/
theorem IntsIn.app {A : Nat} {xs : List Int} {W W2 : World} {v : Value} (h : IntsIn A xs W v) (hb : Below W.heap.size W W2) (hl : xs.length ≤ 900) (x : Int) {S : Nat} (hS : W2.heap[S]? = some (.cells #[.int .i64 x] 3)) :
    ∃ v' w', (Builtin.append_ #[47, 47] 47 #[v, .slice (some ⟨S, 0, none⟩) 1 1]).run Try.prog W2 = .ok v' w' ∧ w'.heap[A]? = some (.cells #[v] 47) ∧ A < w'.heap.size ∧ IntsIn A (xs ++ [x]) (put w' A (.cells #[v'] 47)) v' ∧ KpO A W (put w' A (.cells #[v'] 47)) ∧ Below A W (put w' A (.cells #[v'] 47)) ∧ ∀ B, KeepsFrom B W (put w' A (.cells #[v'] 47)) := by
  obtain ⟨i0, hi0, hz0, hz1, hz2⟩ := info_parts int1_info
  have hA := lt_of_heap h.heap
  have hrow := owns_below h.row hb
  obtain ⟨v', w', hrun, hown, hgrow, _, hw⟩ := run_append_own_at (P := Try.prog) W2 (A + 1) 47 47 3 i0 _ 1 8 Try.underlying47 hi0 hz0 hz1 hz2 rfl (by omega) v xs.length _ hrow ⟨S, 0, none⟩ 1 1 [.int .i64 x] rfl (World.news_of_block hS) (by simp [Value.oneCell']) (by unfold maxLen; omega) (by omega) (by have := hb.size; omega)
  have hz := hb.size
  have hg := hgrow.size
  have hvA : v.ownBlock ≠ some A := fun e => by have := (hrow.lt A e).1; omega
  have hv'A : v'.ownBlock ≠ some A := fun e => by have := (hown.lt A e).1; omega
  have hAl : A < w'.heap.size := by omega
  have hAb : w'.heap[A]? = some (.cells #[v] 47) := by rw [hgrow.block A (by omega) (fun e => hvA e.symm), hb.block A hA]; exact h.heap
  have hin : IntsIn A (xs ++ [x]) (put w' A (.cells #[v'] 47)) v' := ⟨heap_put_at _ _ _ hAl, owns_put (by simpa using hown) hv'A _⟩
  refine ⟨v', w', hrun, hAb, hAl, hin, ⟨by rw [size_put]; omega, fun k o hk _ hne hn => ?_, fun k hk e => ?_⟩, ?_, fun B => ⟨by rw [size_put]; omega, fun k o _ hk hc => ?_⟩⟩
  · rw [h.ownOf] at hn
    rw [heap_put_other _ _ _ _ hne, hgrow.block k (by have := lt_of_heap hk; omega) (fun e => hn e.symm), hb.block k (lt_of_heap hk)]
  · rw [hin.ownOf] at e
    rw [h.ownOf]
    rcases hw with f | f
    · rw [← f]; exact e
    · rw [f] at e
      have := Option.some.inj e
      omega
  · exact Below.atPut ((hb.mono (by omega)).grown hgrow (by omega) (fun k hk => by have := (hrow.lt k hk).1; omega)) (Nat.le_refl _) _
  · have hkl := lt_of_heap hk
    have hne : k ≠ A := fun e => by subst e; rw [h.heap] at hk; cases hk; cases hc
    rw [heap_put_other _ _ _ _ hne, hgrow.block k (by omega) (fun e => ?_), hb.block k hkl]
    · exact hk
    · rcases h.row.2 with ⟨rfl, _⟩ | ⟨r, cap, cur, rfl, _, hh, _⟩
      · simp [Value.ownBlock] at e
      · have : r = k := by simpa [Value.ownBlock] using e.symm
        subst this
        rw [hh] at hk; cases hk; cases hc
theorem IntsIn.from (A B : Nat) : OwnFrom B (fun (pre : List Ow) X => ∃ v, IntsIn A (pre.map fun o => o.2.2.1) X v) := fun s X Y row ⟨v, h⟩ hg hr => by
  refine ⟨v, (grownBy_keeps_cells hg (fun r e => (hr r e).2) h.heap rfl).trans h.heap, owns_heap h.row fun k hk => ?_⟩
  rcases h.row.2 with ⟨rfl, _⟩ | ⟨r, cap, cur, rfl, _, hh, _⟩
  · simp [Value.ownBlock] at hk
  · have : r = k := by simpa [Value.ownBlock] using hk
    subst this
    exact grownBy_keeps_cells hg (fun r e => (hr r e).2) hh rfl
end Go.Proofs.Ythgajbfgolcpkaa
