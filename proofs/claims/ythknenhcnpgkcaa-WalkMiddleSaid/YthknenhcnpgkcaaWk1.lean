import Derived.Test.YthknenhcnpgkcaaSeq
/- Package walk: All. -/
namespace Go.Proofs.Ythknenhcnpgkcaa
open Go.RowKit Go.Shelf
attribute [local go_sem] Oper.semAt_some
set_option linter.unusedVariables false
set_option linter.unusedSimpArgs false
theorem walkAll_is (g : Value) (W : World) (hg : g.oneCell' = true) : Calls Try.prog 42 #[g] W fun e W' => e = .returned (.func (.func 78) #[] #[.pointer (some ⟨W.heap.size, 0, none⟩)]) ∧ W' = W.alloc (.cells #[g] 23) := by
  go_enter Try.func42, Try.ntmps42
  go_wp2_with fail
  go_ret
  exact ⟨rfl, rfl⟩
/-- Pointer g is of a shelf that holds xs, or of none. -/
def Gives (g : Option Addr) (xs : List It) (w : World) : Prop := ∀ W, Below w.heap.size w W → Calls Try.prog 28 #[.pointer g] W fun en W' => ∃ ao cc, en = .returned (.slice ao xs.length cc) ∧ Row W' 34 2 (.slice ao xs.length cc) xs.length (flat xs) ∧ Below W.heap.size W W' ∧ ∀ k, k < W.heap.size → blk (.slice ao xs.length cc) k = 0
theorem Sh.gives {B0 : Nat} {w0 : World} {most : Int} {xs : List It} {g : Nat} {w : World} (h : Sh B0 w0 most xs g w) (hn : xs.length ≤ 900) : Gives (some ⟨g, 0, none⟩) xs w := fun W hW => sh_items (h.on hW h.ge) (by omega)
theorem Gives.on {g : Option Addr} {xs : List It} {w w' : World} (h : Gives g xs w) (hb : Below w.heap.size w w') : Gives g xs w' := fun W hW => h W (hb.trans (hW.mono hb.size))
set_option maxRecDepth 100000 in
theorem gives_nil (w : World) : Gives none [] w := fun W hW => by
  go_enter Try.func28, Try.ntmps28
  go_wp2_with fail
  go_ret
  exact ⟨none, 0, rfl, World.ownsRow_nil _ _ _ _, Below.refl _ _, fun k _ => blk_nil _ _ _⟩
set_option maxRecDepth 100000 in
set_option maxHeartbeats 4000000 in
theorem walkAll1_gen (n : Nat) {xs : List It} {g : Option Addr} {w : World} (h : Gives g xs w) (hn : xs.length ≤ 900) (B : Nat) (hB : w.cell? ⟨B, 0, none⟩ = some (.pointer g))
    {α : Type} (A : List α) (f : α → It) (hAf : A.map f = xs) {K : World → World → Prop} {Rk : Nat → World → Prop} (hF : Fen K Rk) (hfr : ∀ (W : World) (r : Nat), Below w.heap.size w W → W.heap.size ≤ r → Rk r W) :
    SeqStopsK Fence.wide n Try.prog 78 #[.pointer (some ⟨B, 0, none⟩)] (fun x : α => #[.string (f x).1, .string (f x).2]) K (fun ys => ys = A) (fun pre => ∃ k, k ≤ A.length ∧ pre = A.take k) A.length w := fun ll J Jx W hW hJ hJx hY h0 => by
  refine callsIn_wide.2 ?_
  have hBl := World.block_lt_of_cell? _ _ hB
  have hB1 := (hW.cell hBl).trans hB
  have hJb : ∀ s A B, J s A → Below A.heap.size A B → J s B := fun s A B hs hb => hJ s A B none hs ⟨hb.os, hb.tape, hb.output, hb.size, fun k hk _ => hb.block k hk⟩ (fun r e => by cases e)
  have hz := hW.size
  have hits := h W hW
  have HFR := hid (fun r => hfr W r hW)
  have HJB := hid hJb
  have HY := hid hY
  clear hJ hJx hY hJb h hB hBl hfr
  go_enter Try.func78, Try.ntmps78
  go_wp2_with fail
  refine hits.mono ?_
  rintro _ W1 ⟨a1, c1, rfl, hr1, hb1, hf1⟩
  have hJ1 := HJB.out _ _ _ h0 hb1
  have hz1 := hb1.size
  have HJ1 := hid hJ1
  have HA := hid hr1
  obtain ⟨m, hLm⟩ : ∃ m, xs.length = m := ⟨_, rfl⟩
  have HLM := hid hLm
  have HAM := hid (show A.length = m by rw [← hLm, ← hAf, List.length_map])
  have HAF := hid hAf
  have HG := hid (show ∀ r, blk (.slice a1 m c1) r ≠ 0 → Rk r W1 from fun r hr => hF.below (HFR.out r (Nat.le_of_not_lt fun e => by rw [← hLm] at hr; exact hr (hf1 r e))) hb1)
  clear hJ1 hr1 hb1 h0 hits hf1 hAf
  rw [hLm] at hn HA ⊢
  clear hLm
  go_wp2_with fail
  go_loopw [8] (fun i wr => ∃ k : Nat, k ≤ m ∧ i = .int .i64 k ∧ W1.heap.size ≤ wr.heap.size ∧ Hid (J (A.take k) wr) ∧ Hid (Row wr 34 2 (.slice a1 m c1) m (flat xs)) ∧ Hid (∀ r, blk (.slice a1 m c1) r ≠ 0 → Rk r wr)) (fun i _ => m - (intOf i).toNat)
  case atStart => exact ⟨0, Nat.zero_le _, rfl, Nat.le_refl _, hid (by simpa using HJ1.out), HA, HG⟩
  case round =>
    obtain ⟨k, hk, rfl, hzr, hJk, hrow, hrk⟩ := hrel
    by_cases hlt : k < m
    · obtain ⟨q, hq⟩ : ∃ q, A[k]? = some q := ⟨A[k]'(by rw [HAM.out]; exact hlt), List.getElem?_eq_getElem _⟩
      have hp : xs[k]? = some (f q) := by rw [← HAF.out, List.getElem?_map, hq]; rfl
      have HQ := hid hq
      clear hq
      obtain ⟨p, hpq⟩ : ∃ p, p = f q := ⟨_, rfl⟩
      rw [← hpq] at hp
      have HPQ := hid hpq
      clear hpq
      obtain ⟨r, o, rfl, c0, c2, c1'⟩ := (show Src wr 2 (.slice a1 xs.length c1) xs.length (flat xs) by rw [HLM.out]; exact hrow.out.src (flat_one _)).at_ k p hp
      have hr := World.block_lt_of_cell? _ _ c0
      have HP := hid hp
      clear hp
      go_upto_region 3 with fail
      have hp2 : (wr.alloc (.cells #[.string p.1, .string p.2] 34)).heap[wr.heap.size]? = some (.cells #[.string p.1, .string p.2] 34) := heap_alloc_at _ _ _ rfl
      have hb2 : Below wr.heap.size wr (wr.alloc (.cells #[.string p.1, .string p.2] 34)) := (by repeat' (first | exact Below.refl _ _ | with_reducible assumption | omega | with_reducible refine below_put_fut ?_ ?_ _ | with_reducible refine below_to_put ?_ | with_reducible refine Below.alloc ?_ ?_ _ | with_reducible refine Below.fut ?_ ?_ _ | with_reducible refine Below.drew ?_ | with_reducible refine Below.setCell ?_ ?_ _ | with_reducible refine Below.atPut ?_ ?_ _ | (simp [go_sem]; done) | (simp [go_sem]; omega)))
      generalize wr.alloc (.cells _ 34) = W2 at hp2 hb2 ⊢
      have hq0 := cell_of_row W2 _ 0 _ _ (0, 0) hp2
      have hq1 := cell_of_row W2 _ 1 _ _ (0, 0) hp2
      rw [← wpIn_wide (n := n)]
      refine wpIn_region_lit ?_
      refine wpListIn_runTo (fun _ => trivial) rfl (fun _ h => by cases h) (some 12) rfl (.func (.yield ll) #[] #[]) W2 (by simp [execOp, Act.eval, Act.put, go_sem]) ?_
      simp only [Act.put, List.setIfInBounds_toArray, List.set_cons_succ, List.set_cons_zero]
      refine wpListIn_runTo (fun _ => trivial) rfl (fun _ h => by cases h) (some 13) rfl (.pointer (some ⟨wr.heap.size, 0, none⟩)) W2 (by simp [execOp, Act.eval, Act.put, go_sem]) ?_
      simp only [Act.put, List.setIfInBounds_toArray, List.set_cons_succ, List.set_cons_zero]
      refine wpListIn_runTo (fun _ => trivial) rfl (fun _ h => by cases h) (some 14) rfl (.string p.1) W2 (by simp [execOp, Act.eval, Act.put, go_sem, hq0]) ?_
      simp only [Act.put, List.setIfInBounds_toArray, List.set_cons_succ, List.set_cons_zero]
      refine wpListIn_runTo (fun _ => trivial) rfl (fun _ h => by cases h) (some 15) rfl (.pointer (some ⟨wr.heap.size, 1, none⟩)) W2 (by simp [execOp, Act.eval, Act.put, go_sem]) ?_
      simp only [Act.put, List.setIfInBounds_toArray, List.set_cons_succ, List.set_cons_zero]
      refine wpListIn_runTo (fun _ => trivial) rfl (fun _ h => by cases h) (some 16) rfl (.string p.2) W2 (by simp [execOp, Act.eval, Act.put, go_sem, hq1]) ?_
      simp only [Act.put, List.setIfInBounds_toArray, List.set_cons_succ, List.set_cons_zero]
      have hz4 := hb2.size
      obtain ⟨fn, tmps, assign, body, hy, hR⟩ := HY.out _ q W2 (HJB.out _ _ _ hJk.out hb2) (by rw [List.length_take, HAM.out]; omega)
      try dsimp only at hy
      rw [← HPQ.out] at hy
      gi_wp2_with fail
      refine ⟨fun h => (by cases h), ?_⟩
      refine hR.mono ?_
      clear hy hR
      rintro e W4 (⟨rfl, hJ4, hk4⟩ | ⟨rfl, hJx4⟩)
      · have hst : ∀ q, blk (.slice (some ⟨r, o, none⟩) m c1) q ≠ 0 → Rk q W4 ∧ ∀ o', W2.heap[q]? = some o' → o'.isCells = true → W4.heap[q]? = some o' := fun q hq => by
          have hql := hrow.out.lt hq
          exact hF.step (hF.below (hrk.out q hq) hb2) (Nat.lt_of_lt_of_le hql hb2.size) hk4
        have hrow4 := hid (show Row W4 34 2 (.slice (some ⟨r, o, none⟩) m c1) m (flat xs) from (hrow.out.keep fun q hq => hb2.block q (hrow.out.lt hq)).keep fun q hq => by
          obtain ⟨r2, c3, hv, _, _⟩ := World.ownsRow.form hrow.out (by omega)
          injection hv with hv; injection hv with hv; cases hv
          have hrow2 := hrow.out.keep (W' := W2) fun q hq => hb2.block q (hrow.out.lt hq)
          obtain ⟨cur, _, _, hcur, _, _⟩ := row_open hrow2
          rw [blk_at _ _ _ _ _ none] at hq
          obtain rfl := one_ne hq
          rw [(hst q (by rw [blk_at _ _ _ _ _ none, one_self]; omega)).2 _ hcur rfl, hcur])
        have hrk4 := hid (fun q hq => (hst q hq).1)
        have HJ4 := hid hJ4
        have hz5 := hF.size hk4
        clear hJ4 hk4 hp2 hst hq0 hq1
        gi_wp2_with fail
        go_wp2_with fail
        exact ⟨⟨k + 1, by omega, by go_num, by omega, by rw [take_snoc HQ.out]; exact HJ4, hrow4, hrk4⟩, by simp [intOf]; omega⟩
      · gi_wp2_with fail
        go_wp2_with fail
        exact bodyPost_ret (results_none rfl _ _ _) rfl ⟨⟨_, rfl⟩, .inr ⟨_, ⟨k + 1, by have := HAM.out; omega, (take_snoc HQ.out).symm⟩, hJx4⟩⟩
    · obtain rfl : k = m := by omega
      have HJ5 := hid (show J A wr from by have := hJk.out; rwa [List.take_of_length_le (Nat.le_of_eq HAM.out)] at this)
      go_wp2_with fail
      go_end0
      exact ⟨⟨_, rfl⟩, .inl ⟨_, rfl, HJ5.out⟩⟩
theorem walkAll1_stops (n : Nat) {B0 : Nat} {w0 : World} {most : Int} {xs : List It} {g : Nat} {w : World} (h : Sh B0 w0 most xs g w) (hn : xs.length ≤ 900) (B : Nat) (hB : w.cell? ⟨B, 0, none⟩ = some (.pointer (some ⟨g, 0, none⟩)))
    {α : Type} (A : List α) (f : α → It) (hAf : A.map f = xs) {K : World → World → Prop} {Rk : Nat → World → Prop} (hF : Fen K Rk) (hfr : ∀ (W : World) (r : Nat), Below w.heap.size w W → W.heap.size ≤ r → Rk r W) :
    SeqStopsK Fence.wide n Try.prog 78 #[.pointer (some ⟨B, 0, none⟩)] (fun x : α => #[.string (f x).1, .string (f x).2]) K (fun ys => ys = A) (fun pre => ∃ k, k ≤ A.length ∧ pre = A.take k) A.length w :=
  walkAll1_gen n (h.gives hn) hn B hB A f hAf hF hfr
end Go.Proofs.Ythknenhcnpgkcaa
