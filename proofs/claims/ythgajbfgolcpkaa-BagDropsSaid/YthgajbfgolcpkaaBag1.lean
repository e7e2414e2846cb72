import Derived.Test.YthgajbfgolcpkaaScan5
import Derived.Test.YthgajbfgolcpkaaCnt
import Derived.Great.Walk
import Derived.Deep.Cut
import Derived.Deep.DeepCutAuto
/- Contracts of package bag: own, New, Len, there. -/
namespace Go.Proofs.Ythgajbfgolcpkaa
open Go.RowKit
set_option linter.unusedVariables false
set_option linter.unusedSimpArgs false
/-- A packet without a letter. -/
@[reducible] def pk (a b c d : Int) : Array Value := #[.int .i64 a, .int .i64 b, .int .i64 c, .int .i64 d, .int .i64 0, .int .i64 0, .int .i64 0, .int .i64 0, .int .i64 0, .string ⟨#[]⟩, .string ⟨#[]⟩, .string ⟨#[]⟩, .int .i64 0, .int .i64 0, .string ⟨#[]⟩, .slice none 0 0, .bool false, .string ⟨#[]⟩, .int .i64 0, .int .u64 0, .int .u64 0, .int .i64 0, .slice none 0 0, .int .i64 0, .int .i64 0]
/-- Packets: from, to, number, news. -/
abbrev Pk := Int × Int × Int × Int
def pkl (p : Pk) : List Value := (pk p.1 p.2.1 p.2.2.1 p.2.2.2).toList
theorem pkl_len (p : Pk) : (pkl p).length = 25 := rfl
theorem pkl_one (p : Pk) : ∀ u ∈ pkl p, u.oneCell' = true := by simp [pkl, Value.oneCell']
theorem pkl_arr (p : Pk) : (pkl p).toArray = pk p.1 p.2.1 p.2.2.1 p.2.2.2 := rfl
theorem packet_info : (Try.prog.info? 38).map (fun i => (i.zero, i.size, i.bytes)) = some (some (.agg (pk 0 0 0 0)), 25, 272) := by kernel_rfl
@[reducible] def bagObj (most : Int) (v : Value) : Obj := .cells #[.int .i64 most, v] 90
abbrev BagAt (most : Int) (w0 : Base) (g n : Nat) (xs : List Value) (W : World) (v : Value) : Prop := ObjAt (bagObj most v) 38 25 w0 g n xs W v
theorem setCell_self {w : World} {b o : Nat} {v : Value} (h : w.cell? ⟨b, o, none⟩ = some v) : w.setCell ⟨b, o, none⟩ v = w := by
  have e : (w.setCell ⟨b, o, none⟩ v).heap = w.heap := by
    apply Array.ext_getElem?
    intro k
    simp only [World.setCell, Array.getElem?_modify]
    by_cases hk : b = k
    · subst hk
      rw [if_pos rfl]
      unfold World.cell? at h
      dsimp only at h
      cases hb : w.heap[b]? with
      | none => rfl
      | some x =>
        rw [hb] at h
        cases x with
        | cells cs t fr =>
          have h : cs[o]? = some v := h
          have : cs.setIfInBounds o v = cs := by
            apply Array.ext_getElem?
            intro j
            by_cases hj : o = j
            · subst hj; rw [Array.getElem?_setIfInBounds_self_of_lt (Array.getElem?_eq_some_iff.1 h).1, h]
            · rw [Array.getElem?_setIfInBounds_ne hj]
          simp [this]
        | _ => rfl
    · rw [if_neg hk]
  have e2 : w.setCell ⟨b, o, none⟩ v = { w with heap := (w.setCell ⟨b, o, none⟩ v).heap } := rfl
  rw [e2, e]
@[go_sem] theorem put_alloc (w : World) (o o' : Obj) : put (w.alloc o) w.heap.size o' = w.alloc o' := by
  unfold put World.alloc
  congr 1
  apply Array.ext_getElem?
  intro k
  rw [Array.getElem?_setIfInBounds]
  split
  · rename_i e; subst e; simp
  · rename_i e; simp only [Array.getElem?_push]; rw [if_neg (by omega), if_neg (by omega)]
set_option maxRecDepth 100000 in
set_option maxHeartbeats 4000000 in
theorem own_is (a b c d : Int) (W : World) : Calls Try.prog 45 #[.agg (pk a b c d)] W (Makes (.agg (pk a b c d)) W) := by
  go_enter Try.func45, Try.ntmps45
  go_upto_region 2 with (first | (go_at_call 54; ((with_reducible refine (clone_nil _).mono ?_)); rintro _ _ ⟨rfl, u, rfl⟩))
  rw [setCell_self (by simp [go_sem])]
  go_upto_region 3 with (first | (go_at_call 54; ((with_reducible refine (clone_nil _).mono ?_)); rintro _ _ ⟨rfl, u, rfl⟩))
  rw [setCell_self (by simp [go_sem])]
  rename_i u1 K hK
  refine wp_region_lit ?_
  refine wpList_load_row rfl 38 (.tmp 1) rfl W.heap.size rfl 38 (pk a b c d) (0, 0) _ ?_ rfl rfl rfl ?_
  · rw [u.heap _ (by simp [go_sem]), u1.heap _ (by simp [go_sem])]
    exact (heap_alloc_other _ _ _ (by simp)).trans (heap_alloc_at _ _ _ rfl)
  refine wpList_store_row rfl 38 (.tmp 2) (.tmp 17) rfl (W.heap.size + 1) (pk a b c d) (pk 0 0 0 0) rfl rfl ?_ (by kernel_rfl) rfl (by simp [Value.oneCell']) ?_
  · rw [u.heap _ (by simp [go_sem]), u1.heap _ (by simp [go_sem])]
    exact heap_alloc_at _ _ _ (by simp)
  refine wpList_nil ?_
  simp [Act.put]
  go_wp2_with fail
  exact bodyPost_ret (v := .agg (pk a b c d)) (results_cell_row rfl _ _ (W.heap.size + 1) _ (pk a b c d) (0, 0) _ rfl (heap_put_at _ _ _ (by first | assumption | (simp [go_sem]; done) | (simp [go_sem]; omega))) rfl rfl rfl) rfl (.mk rfl (by repeat' (first | exact Below.refl _ _ | with_reducible assumption | omega | with_reducible refine below_put_fut ?_ ?_ _ | with_reducible refine below_to_put ?_ | with_reducible refine Below.alloc ?_ ?_ _ | with_reducible refine Below.fut ?_ ?_ _ | with_reducible refine Below.drew ?_ | with_reducible refine Below.setCell ?_ ?_ _ | with_reducible refine Below.atPut ?_ ?_ _ | (simp [go_sem]; done) | (simp [go_sem]; omega))))
/-- A whole struct is loaded out of a row. -/
theorem run_loadVar_cells {P : Program} (w : World) (A : Addr) (ty : TypeId) (cs : List Value) (d : TypeDesc) (hc : ∀ j v, cs[j]? = some v → w.cell? (A.add j) = some v)
    (hu : P.underlying ty = some d) (hd : (match d with | .struct _ | .array _ _ => true | _ => false) = true) (hi : (P.info? ty).map (·.size) = some cs.length) :
    (loadVar ty A).run P w = .ok (.agg cs.toArray) w := by
  have hl := run_loadCells_list (P := P) w A cs hc
  cases hq : P.info? ty with
  | none => simp [hq] at hi
  | some i =>
    have hs : i.size = cs.length := by simpa [hq] using hi
    have hagg : (isAgg ty).run P w = .ok true w := by
      unfold isAgg
      rw [Sem.run_bind, run_underlying hu w]
      cases d <;> simp_all
    simp [loadVar, Sem.run_bind, hagg, sizeOf, typeInfo, hq, hs, hl]
theorem wp_load_cells {P : Program} {o : Oper} {a : Act} {w : World} {K : Act → World → Prop} {Q : Exit → Act → World → Prop} (ty : TypeId) (x : Operand) (ho : o.op = .load ty x)
    (A : Addr) (hx : a.eval x = .pointer (some A)) (cs : List Value) (d : TypeDesc) (hc : ∀ j v, cs[j]? = some v → w.cell? (A.add j) = some v)
    (hu : P.underlying ty = some d) (hd : (match d with | .struct _ | .array _ _ => true | _ => false) = true) (hi : (P.info? ty).map (·.size) = some cs.length)
    (h : K (a.put o.dst (.agg cs.toArray)) w) : o.wp P a w K Q := by
  unfold Oper.wp execOp
  simp only [ho, hx, Instr.loadAt, Instr.sureAddr, Sem.run_bind, Sem.run_pure, Result.andThen_ok, run_loadVar_cells w A ty cs d hc hu hd hi]
  exact h
theorem wpList_load_cells {P : Program} {ops : Array Oper} {rest : List Oper} {o : Oper} {a : Act} {w : World} {Q : Exit → Act → World → Prop} (hgd : o.guard = none) (ty : TypeId) (x : Operand) (ho : o.op = .load ty x)
    (A : Addr) (hx : a.eval x = .pointer (some A)) (cs : List Value) (d : TypeDesc) (hc : ∀ j v, cs[j]? = some v → w.cell? (A.add j) = some v)
    (hu : P.underlying ty = some d) (hd : (match d with | .struct _ | .array _ _ => true | _ => false) = true) (hi : (P.info? ty).map (·.size) = some cs.length)
    (h : wpList P ops Q rest (a.put o.dst (.agg cs.toArray)) w) : wpList P ops Q (o :: rest) a w :=
  wpList_plain hgd fun _ hK => wp_load_cells ty x ho A hx cs d hc hu hd hi (hK _ _ h)
set_option maxRecDepth 100000 in
theorem bagNew_is (most m : Int) (hm : min (max most 0) 2000 = m) (w0 : Base) (hk : Hid (∀ k, w0.keep k = none)) (W : World) (hb : Below w0.heap.size w0.toWorld W) :
    Calls Try.prog 18 #[.int .i64 most] W fun en W' => ∃ g, en = .returned (.pointer (some ⟨g, 0, none⟩)) ∧ BagAt m w0 g 0 [] W' (.slice none 0 0) := by
  have hs := hb.size
  subst hm
  go_enter Try.func18, Try.ntmps18
  go_wp2_with (first | (((with_reducible refine wp_region_fut_lit (by kernel_rfl) (by kernel_rfl) ?_)); (repeat (go_big_quiet_step ((first | fail)))); ((with_reducible refine wpQuiet_nil ?_)); rintro _ ⟨u, rfl⟩; (try (rw [Fut.put_self u (by first | assumption | (simp [go_sem]; done) | (simp [go_sem]; omega))]))))
  go_ret
  exact ⟨_, rfl, (by repeat' (first | exact Below.refl _ _ | with_reducible assumption | omega | with_reducible refine below_put_fut ?_ ?_ _ | with_reducible refine below_to_put ?_ | with_reducible refine Below.alloc ?_ ?_ _ | with_reducible refine Below.fut ?_ ?_ _ | with_reducible refine Below.drew ?_ | with_reducible refine Below.setCell ?_ ?_ _ | with_reducible refine Below.atPut ?_ ?_ _ | (simp [go_sem]; done) | (simp [go_sem]; omega))), (by repeat' (first | rfl | assumption | (with_reducible refine (heap_drew_eq _ _).trans ?_) | (refine (Fut.heap _ _ ?_).trans ?_ ; focus (first | assumption | omega | (simp [go_sem]; done) | (simp [go_sem]; omega))) | (refine (heap_put_at _ _ _ ?_).trans ?_ ; focus (first | assumption | omega | (simp [go_sem]; done) | (simp [go_sem]; omega))) | (refine (heap_put_other _ _ _ _ ?_).trans ?_ ; focus (first | assumption | omega | (simp [go_sem]; done) | (simp [go_sem]; omega))) | (refine (heap_alloc_other _ _ _ ?_).trans ?_ ; focus (first | assumption | omega | (simp [go_sem]; done) | (simp [go_sem]; omega))) | (refine (heap_alloc_at _ _ _ ?_).trans ?_ ; focus (first | assumption | omega | (simp [go_sem]; done) | (simp [go_sem]; omega))) | (simp [go_sem]; done) | (simp [go_sem]; omega))), World.ownsRow_nil _ _ _ _, by first | assumption | (simp [go_sem]; omega), by simp [Value.ownBlock], fun k q e => by rw [hk.out k] at e; cases e⟩
theorem bagLen_is {most : Int} {w0 : Base} {g n : Nat} {xs : List Value} {W : World} {v : Value} (h : BagAt most w0 g n xs W v) :
    Calls Try.prog 23 #[.pointer (some ⟨g, 0, none⟩)] W fun en W' => en = .returned (.int .i64 n) ∧ BagAt most w0 g n xs W' v := by
  have hc := fun i => cell_of_row W g i _ _ (0, 0) h.heap
  obtain ⟨ao, cc, rfl⟩ := owns_slice h.owns
  go_enter Try.func23, Try.ntmps23
  go_wp2_with (first | (((with_reducible refine wp_region_fut_lit (by kernel_rfl) (by kernel_rfl) ?_)); (repeat (go_big_quiet_step ((first | fail)))); ((with_reducible refine wpQuiet_nil ?_)); rintro _ ⟨u, rfl⟩; (try (rw [Fut.put_self u (by first | assumption | (simp [go_sem]; done) | (simp [go_sem]; omega))]))))
  go_ret
  exact ⟨rfl, h.on (by repeat' (first | exact Below.refl _ _ | with_reducible assumption | omega | with_reducible refine below_put_fut ?_ ?_ _ | with_reducible refine below_to_put ?_ | with_reducible refine Below.alloc ?_ ?_ _ | with_reducible refine Below.fut ?_ ?_ _ | with_reducible refine Below.drew ?_ | with_reducible refine Below.setCell ?_ ?_ _ | with_reducible refine Below.atPut ?_ ?_ _ | (simp [go_sem]; done) | (simp [go_sem]; omega)))⟩
theorem there_is {most : Int} {w0 : Base} {g n : Nat} {xs : List Value} {W : World} {v : Value} (h : BagAt most w0 g n xs W v) (k : Int) (r : Bool) (hr : r = (decide (0 ≤ k) && decide (k < n))) :
    Calls Try.prog 48 #[.pointer (some ⟨g, 0, none⟩), .int .i64 k] W (Makes (.bool r) W) := by
  have hc := fun i => cell_of_row W g i _ _ (0, 0) h.heap
  obtain ⟨ao, cc, rfl⟩ := owns_slice h.owns
  subst hr
  clear h
  rcases Decidable.em (0 ≤ k) with c | c
  · rcases Decidable.em (k < n) with c' | c'
    · have d1 : decide (k < n) = true := by simpa using c'
      go_enter Try.func48, Try.ntmps48
      go_wp2_with (first | (((with_reducible refine wp_region_fut_lit (by kernel_rfl) (by kernel_rfl) ?_)); (repeat (go_big_quiet_step ((first | fail)))); ((with_reducible refine wpQuiet_nil ?_)); rintro _ ⟨u, rfl⟩; (try (rw [Fut.put_self u (by first | assumption | (simp [go_sem]; done) | (simp [go_sem]; omega))]))))
      go_ret; exact .mk (by first | rfl | (simp; done) | (simp; omega)) (by repeat' (first | exact Below.refl _ _ | with_reducible assumption | omega | with_reducible refine below_put_fut ?_ ?_ _ | with_reducible refine below_to_put ?_ | with_reducible refine Below.alloc ?_ ?_ _ | with_reducible refine Below.fut ?_ ?_ _ | with_reducible refine Below.drew ?_ | with_reducible refine Below.setCell ?_ ?_ _ | with_reducible refine Below.atPut ?_ ?_ _ | (simp [go_sem]; done) | (simp [go_sem]; omega)))
    · have d1 : decide (k < n) = false := by simpa using c'
      go_enter Try.func48, Try.ntmps48
      go_wp2_with (first | (((with_reducible refine wp_region_fut_lit (by kernel_rfl) (by kernel_rfl) ?_)); (repeat (go_big_quiet_step ((first | fail)))); ((with_reducible refine wpQuiet_nil ?_)); rintro _ ⟨u, rfl⟩; (try (rw [Fut.put_self u (by first | assumption | (simp [go_sem]; done) | (simp [go_sem]; omega))]))))
      go_ret; exact .mk (by first | rfl | (simp; done) | (simp; omega)) (by repeat' (first | exact Below.refl _ _ | with_reducible assumption | omega | with_reducible refine below_put_fut ?_ ?_ _ | with_reducible refine below_to_put ?_ | with_reducible refine Below.alloc ?_ ?_ _ | with_reducible refine Below.fut ?_ ?_ _ | with_reducible refine Below.drew ?_ | with_reducible refine Below.setCell ?_ ?_ _ | with_reducible refine Below.atPut ?_ ?_ _ | (simp [go_sem]; done) | (simp [go_sem]; omega)))
  · have d1 : decide (0 ≤ k) = false := by simpa using c
    go_enter Try.func48, Try.ntmps48
    go_wp2_with (first | (((with_reducible refine wp_region_fut_lit (by kernel_rfl) (by kernel_rfl) ?_)); (repeat (go_big_quiet_step ((first | fail)))); ((with_reducible refine wpQuiet_nil ?_)); rintro _ ⟨u, rfl⟩; (try (rw [Fut.put_self u (by first | assumption | (simp [go_sem]; done) | (simp [go_sem]; omega))]))))
    go_ret; exact .mk (by first | rfl | (simp; done) | (simp; omega)) (by repeat' (first | exact Below.refl _ _ | with_reducible assumption | omega | with_reducible refine below_put_fut ?_ ?_ _ | with_reducible refine below_to_put ?_ | with_reducible refine Below.alloc ?_ ?_ _ | with_reducible refine Below.fut ?_ ?_ _ | with_reducible refine Below.drew ?_ | with_reducible refine Below.setCell ?_ ?_ _ | with_reducible refine Below.atPut ?_ ?_ _ | (simp [go_sem]; done) | (simp [go_sem]; omega)))
end Go.Proofs.Ythgajbfgolcpkaa
