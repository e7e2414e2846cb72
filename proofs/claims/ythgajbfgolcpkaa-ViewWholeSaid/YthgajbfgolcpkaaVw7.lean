import Derived.Test.YthgajbfgolcpkaaVw6
/- Going through the arcs of a view: All, Len. -/
namespace Go.Proofs.Ythgajbfgolcpkaa
open Go.RowKit Go.Shelf
attribute [local go_sem] Oper.semAt_some
set_option linter.unusedVariables false
set_option linter.unusedSimpArgs false
theorem ded_len (acc : List Pt) (p : Pt) : (ded acc p).length ≤ acc.length + 1 := by
  unfold ded
  split
  · simp
  · split <;> simp
theorem dedF_len : ∀ (l acc : List Pt), (l.foldl ded acc).length ≤ acc.length + l.length
  | [], acc => by simp
  | p :: l, acc => by
    have h1 := dedF_len l (ded acc p)
    have h2 := ded_len acc p
    simp only [List.foldl_cons, List.length_cons]
    omega
theorem outL_len (D : List Pt) : ∀ k, (outL D k).length ≤ k
  | 0 => by simp [outL]
  | k + 1 => by
    have := outL_len D k
    rw [outL]
    split
    · split
      · rw [List.length_append]; simp; omega
      · omega
    · omega
theorem joinL_len (out : List Ow) : (joinL out).length ≤ out.length := by
  unfold joinL
  split <;> simp
theorem mergeL_len (D : List Pt) (out : List Ow) : (mergeL D out).length ≤ out.length := by
  have := joinL_len out
  unfold mergeL
  repeat (first | split | omega)
theorem arcsL_len (l : List Pt) : (arcsL l).length ≤ l.length := by
  have h1 := mergeL_len (l.foldl ded []) (outL (l.foldl ded []) (l.foldl ded []).length)
  have h2 := outL_len (l.foldl ded []) (l.foldl ded []).length
  have h3 := dedF_len l []
  simp only [List.length_nil] at h3
  unfold arcsL
  omega
theorem isCells_of_cell {W : World} {r o : Nat} {u : Value} (h : W.cell? ⟨r, o, none⟩ = some u) : ∃ q, W.heap[r]? = some q ∧ q.isCells = true := by
  unfold World.cell? at h
  dsimp only at h
  cases hb : W.heap[r]? with
  | none => rw [hb] at h; cases h
  | some x =>
    rw [hb] at h
    refine ⟨x, rfl, ?_⟩
    cases x with
    | cells cs t fr => rfl
    | _ => cases h
theorem ArcsAt.keep {B : Nat} {W W' : World} {v : Value} {L : List Ow} (h : ArcsAt B W v L) {S : Nat → Prop} (hk : KpS S W W') (hS : ∀ k, S k → k < B) : ArcsAt B W' v L := by
  rcases h with h | ⟨r, o, c, h1, h2, h3, h4⟩
  · exact .inl h
  · refine .inr ⟨r, o, c, h1, h2, Nat.lt_of_lt_of_le h3 hk.1, fun j u hu => ?_⟩
    have hc := h4 j u hu
    obtain ⟨q, hq, hqc⟩ := isCells_of_cell hc
    rw [World.cell?_of_block (w := W)]
    · exact hc
    · exact hk.2 r q hq hqc fun hs => by have := hS r hs; omega
theorem ArcsAt.on {B : Nat} {W W' : World} {v : Value} {L : List Ow} (h : ArcsAt B W v L) (hb : Below W.heap.size W W') : ArcsAt B W' v L := by
  rcases h with h | ⟨r, o, c, h1, h2, h3, h4⟩
  · exact .inl h
  · exact .inr ⟨r, o, c, h1, h2, Nat.lt_of_lt_of_le h3 hb.size, fun j u hu => by rw [World.cell?_of_block (w := W)]; · exact h4 j u hu
                                                                                 · exact hb.block r h3⟩
theorem ArcsAt.form {B : Nat} {W : World} {v : Value} {L : List Ow} (h : ArcsAt B W v L) : ∃ ao c, v = .slice ao L.length c := by
  rcases h with ⟨c, rfl, rfl⟩ | ⟨r, o, c, rfl, _⟩
  · exact ⟨_, _, rfl⟩
  · exact ⟨_, _, rfl⟩
theorem ArcsAt.cells {B : Nat} {W : World} {ao : Option Addr} {n c : Nat} {L : List Ow} (h : ArcsAt B W (.slice ao n c) L) {k : Nat} {x : Ow} (hx : L[k]? = some x) : ∃ r o, ao = some ⟨r, o, none⟩ ∧ r < W.heap.size ∧ W.cell? ⟨r, o + k * 4, none⟩ = some (.int .u64 x.1) ∧ W.cell? ⟨r, o + k * 4 + 1, none⟩ = some (.int .u64 x.2.1) ∧ W.cell? ⟨r, o + k * 4 + 2, none⟩ = some (.int .i64 x.2.2.1) ∧ W.cell? ⟨r, o + k * 4 + 3, none⟩ = some (.int .i64 x.2.2.2) := by
  rcases h with ⟨c, h1, rfl⟩ | ⟨r, o, c, h1, h2, h3, h4⟩
  · cases hx
  · injection h1 with h1
    exact ⟨r, o, h1, h3, h4 _ _ (flatO_at hx 0 _ rfl), h4 _ _ (flatO_at hx 1 _ rfl), h4 _ _ (flatO_at hx 2 _ rfl), h4 _ _ (flatO_at hx 3 _ rfl)⟩
theorem take_snoc {α : Type} {L : List α} {k : Nat} {x : α} (h : L[k]? = some x) : L.take (k + 1) = L.take k ++ [x] := by
  obtain ⟨hl, rfl⟩ := List.getElem?_eq_some_iff.1 h
  exact List.take_succ_eq_append_getElem hl
abbrev owA (x : Ow) : Array Value := #[.int .u64 x.1, .int .u64 x.2.1, .int .i64 x.2.2.1, .int .i64 x.2.2.2]
theorem viewAll_is (g : Nat) (W : World) : Calls Try.prog 57 #[.pointer (some ⟨g, 0, none⟩)] W fun e W' => e = .returned (.func (.func 69) #[] #[.pointer (some ⟨W.heap.size, 0, none⟩)]) ∧ W' = W.alloc (.cells #[.pointer (some ⟨g, 0, none⟩)] 72) := by
  go_enter Try.func57, Try.ntmps57
  go_wp2_with fail
  go_ret
  exact ⟨rfl, rfl⟩
set_option maxRecDepth 100000 in
theorem len_is {w0 : Base} {g : Nat} {l : List Pt} {W : World} {v : Value} (h : ViewAt w0 g l W v) (hl : l.length ≤ 900) :
    Calls Try.prog 39 #[.pointer (some ⟨g, 0, none⟩)] W fun e W' => e = .returned (.int .i64 (arcsL l).length) ∧ Below W.heap.size W W' := by
  go_enter Try.func39, Try.ntmps39
  go_wp2_with fail
  (((with_reducible refine (arcs_is h _ rfl hl).mono ?_)); rintro _ W1 ⟨av, rfl, ha, hb⟩)
  obtain ⟨ao, c, rfl⟩ := ha.form
  go_wp2_with fail
  go_ret
  exact ⟨by simp, hb⟩
set_option maxRecDepth 100000 in
set_option maxHeartbeats 4000000 in
theorem viewAll1_stops (n : Nat) {w0 : Base} {g : Nat} {l : List Pt} {w : World} {v : Value} (h : ViewAt w0 g l w v) (hl : l.length ≤ 900) (B : Nat) (hB : w.cell? ⟨B, 0, none⟩ = some (.pointer (some ⟨g, 0, none⟩))) (S : Nat → Prop) (hS : ∀ k, S k → k < w.heap.size) :
    SeqStopsK Fence.wide n Try.prog 69 #[.pointer (some ⟨B, 0, none⟩)] (fun x : Ow => #[.agg (owA x)]) (KpS S) (fun ys => ys = arcsL l) (fun pre => ∃ k, k ≤ (arcsL l).length ∧ pre = (arcsL l).take k) (arcsL l).length w := fun ll J Jx W hW hJ hJx hY h0 => by
  refine callsIn_wide.2 ?_
  have hBl := World.block_lt_of_cell? _ _ hB
  have hB1 := (hW.cell hBl).trans hB
  have h1 := h.on hW
  have hJb : ∀ s A B, J s A → Below A.heap.size A B → J s B := fun s A B hs hb => hJ s A B none hs ⟨hb.os, hb.tape, hb.output, hb.size, fun k hk _ => hb.block k hk⟩ (fun r e => by cases e)
  have hz := hW.size
  have H1 := hid h1
  have hm := Nat.le_trans (arcsL_len l) hl
  have harcs := arcs_is h1 _ rfl hl
  generalize arcsL l = L at hm h0 hY harcs ⊢
  have HJB := hid hJb
  have HY := hid hY
  clear hJ hJx hY hJb h h1 hB hBl
  go_enter Try.func69, Try.ntmps69
  go_wp2_with fail
  refine harcs.mono ?_
  rintro _ W1 ⟨_, rfl, ha, hb1⟩
  have hJ1 := HJB.out _ _ _ h0 hb1
  obtain ⟨a1, c1, rfl⟩ := ha.form
  have hz1 := hb1.size
  have HJ1 := hid hJ1
  have HA := hid ha
  obtain ⟨m, hLm⟩ : ∃ m, L.length = m := ⟨_, rfl⟩
  have HLM := hid hLm
  clear hJ1 ha hb1 h0 harcs
  rw [hLm] at hm HA ⊢
  clear hLm
  go_wp2_with fail
  go_loopw [8] (fun i wr => ∃ k : Nat, k ≤ m ∧ i = .int .i64 k ∧ W1.heap.size ≤ wr.heap.size ∧ Hid (J (L.take k) wr) ∧ Hid (ArcsAt W.heap.size wr (.slice a1 m c1) L)) (fun i _ => m - (intOf i).toNat)
  case atStart => exact ⟨0, Nat.zero_le _, rfl, Nat.le_refl _, hid (by simpa using HJ1.out), HA⟩
  case round =>
    obtain ⟨k, hk, rfl, hzr, hJk, hrow⟩ := hrel
    by_cases hlt : k < m
    · obtain ⟨p, hp⟩ : ∃ p, L[k]? = some p := ⟨L[k]'(by rw [HLM.out]; exact hlt), List.getElem?_eq_getElem _⟩
      obtain ⟨r, o, rfl, hr, c0, c1', c2, c3⟩ := hrow.out.cells hp
      have HP := hid hp
      clear hp
      go_upto_region 3 with fail
      have hp2 : (wr.alloc (.cells (owA p) 71)).heap[wr.heap.size]? = some (.cells (owA p) 71) := heap_alloc_at _ _ _ rfl
      have hb2 : Below wr.heap.size wr (wr.alloc (.cells (owA p) 71)) := (by repeat' (first | exact Below.refl _ _ | with_reducible assumption | omega | with_reducible refine below_put_fut ?_ ?_ _ | with_reducible refine below_to_put ?_ | with_reducible refine Below.alloc ?_ ?_ _ | with_reducible refine Below.fut ?_ ?_ _ | with_reducible refine Below.drew ?_ | with_reducible refine Below.setCell ?_ ?_ _ | with_reducible refine Below.atPut ?_ ?_ _ | (simp [go_sem]; done) | (simp [go_sem]; omega)))
      generalize wr.alloc (.cells _ 71) = W2 at hp2 hb2 ⊢
      rw [← wpIn_wide (n := n)]
      refine wpIn_region_lit ?_
      refine wpListIn_runTo (fun _ => trivial) rfl (fun _ h => by cases h) (some 12) rfl (.func (.yield ll) #[] #[]) W2 (by simp [execOp, Act.eval, Act.put, go_sem]) ?_
      simp only [Act.put, List.setIfInBounds_toArray, List.set_cons_succ, List.set_cons_zero]
      refine wpListIn_runTo (fun _ => trivial) rfl (fun _ h => by cases h) (some 13) rfl (.agg (owA p)) W2 (run_load_row 71 (.tmp 4) rfl wr.heap.size (by simp [Act.eval]) 71 _ (0, 0) _ hp2 Try.underlying71 rfl (by kernel_rfl)) ?_
      simp only [Act.put, List.setIfInBounds_toArray, List.set_cons_succ, List.set_cons_zero]
      have hz4 := hb2.size
      obtain ⟨fn, tmps, assign, body, hy, hR⟩ := HY.out _ p W2 (HJB.out _ _ _ hJk.out hb2) (by rw [List.length_take, HLM.out]; omega)
      try dsimp only at hy
      gi_wp2_with fail
      refine ⟨fun h => (by cases h), ?_⟩
      refine hR.mono ?_
      clear hy hR
      rintro e W4 (⟨rfl, hJ4, hk4⟩ | ⟨rfl, hJx4⟩)
      · have hrow4 := hid ((hrow.out.on hb2).keep hk4 fun q hq => by have := hS q hq; omega)
        have HJ4 := hid hJ4
        have hz5 := hk4.1
        clear hJ4 hk4 hp2
        gi_wp2_with fail
        go_wp2_with fail
        exact ⟨⟨k + 1, by omega, by go_num, by omega, by rw [take_snoc HP.out]; exact HJ4, hrow4⟩, by simp [intOf]; omega⟩
      · gi_wp2_with fail
        go_wp2_with fail
        exact bodyPost_ret (results_none rfl _ _ _) rfl ⟨⟨_, rfl⟩, .inr ⟨_, ⟨k + 1, by have := HLM.out; omega, (take_snoc HP.out).symm⟩, hJx4⟩⟩
    · obtain rfl : k = m := by omega
      have HJ5 := hid (show J L wr from by have := hJk.out; rwa [List.take_of_length_le (Nat.le_of_eq HLM.out)] at this)
      go_wp2_with fail
      go_end0
      exact ⟨⟨_, rfl⟩, .inl ⟨_, rfl, HJ5.out⟩⟩
end Go.Proofs.Ythgajbfgolcpkaa
