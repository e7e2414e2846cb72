import Derived.Test.YthgajbfgolcpkaaBag3
/- Contracts of package bag: Take, Drop, Twice. -/
namespace Go.Proofs.Ythgajbfgolcpkaa
open Go.RowKit
set_option linter.unusedVariables false
set_option linter.unusedSimpArgs false
/-- The cells of packets. -/
def flatP : List Pk → List Value
  | [] => []
  | p :: l => pkl p ++ flatP l
theorem flatP_append : ∀ a b : List Pk, flatP (a ++ b) = flatP a ++ flatP b
  | [], _ => rfl
  | p :: a, b => by simp [flatP, flatP_append a b]
theorem flatP_length : ∀ a : List Pk, (flatP a).length = a.length * 25
  | [] => rfl
  | p :: a => by simp [flatP, flatP_length a, pkl_len]; omega
theorem flatP_one : ∀ (a : List Pk), ∀ u ∈ flatP a, u.oneCell' = true
  | [], u, h => by simp [flatP] at h
  | p :: a, u, h => by
    rcases List.mem_append.1 h with h | h
    · exact pkl_one p u h
    · exact flatP_one a u h
theorem flatP_take : ∀ (a : List Pk) (i : Nat), (flatP a).take (i * 25) = flatP (a.take i)
  | _, 0 => by simp [flatP]
  | [], i + 1 => by simp [flatP]
  | p :: a, i + 1 => by
    rw [show (i + 1) * 25 = (pkl p).length + i * 25 from by rw [pkl_len]; omega, flatP, List.take_length_add_append, flatP_take a i]; rfl
theorem flatP_drop : ∀ (a : List Pk) (i : Nat), (flatP a).drop (i * 25) = flatP (a.drop i)
  | _, 0 => by simp
  | [], i + 1 => by simp [flatP]
  | p :: a, i + 1 => by
    rw [show (i + 1) * 25 = (pkl p).length + i * 25 from by rw [pkl_len]; omega, flatP, List.drop_length_add_append, flatP_drop a i]; rfl
theorem flatP_erase (a : List Pk) (i : Nat) : (flatP a).take (i * 25) ++ (flatP a).drop ((i + 1) * 25) = flatP (a.eraseIdx i) := by
  rw [flatP_take, flatP_drop, ← flatP_append, List.eraseIdx_eq_take_drop_succ]
theorem flatP_at {a : List Pk} {i : Nat} {p : Pk} (h : a[i]? = some p) (j : Nat) (u : Value) (hu : (pkl p)[j]? = some u) : (flatP a)[i * 25 + j]? = some u := by
  have hj : j < 25 := (List.getElem?_eq_some_iff.1 hu).1
  obtain ⟨hl, rfl⟩ := List.getElem?_eq_some_iff.1 h
  have e : a = a.take i ++ (a[i] :: a.drop (i + 1)) := by simp
  rw [e, flatP_append, List.getElem?_append_right (by rw [flatP_length, List.length_take]; omega), flatP_length, List.length_take, Nat.min_eq_left (by omega), flatP, List.getElem?_append_left (by rw [pkl_len]; omega)]
  rw [show i * 25 + j - i * 25 = j from by omega]; exact hu
/-- A world in which the object's own two blocks alone have changed. -/
theorem ObjAt.step {o o' : Obj} {e : TypeId} {size : Nat} {w0 : Base} {g n n' : Nat} {xs xs' : List Value} {W W' : World} {v v' : Value} (h : ObjAt o e size w0 g n xs W v)
    (hc : Chg (fun k => k = g ∨ v.ownBlock = some k) W W') (hg : W'.heap[g]? = some o') (ho : W'.ownsRow w0.heap.size e size v' n' xs')
    (hv : v'.ownBlock = v.ownBlock ∨ ∀ k, v'.ownBlock = some k → W.heap.size ≤ k) : ObjAt o' e size w0 g n' xs' W' v' := by
  have hne : ∀ k, k < W.heap.size → v.ownBlock ≠ some k → v'.ownBlock ≠ some k := by
    intro k hk hn he
    rcases hv with hv | hv
    · exact hn (hv ▸ he)
    · have := hv k he; omega
  refine ⟨h.below.trans (hc.below h.size ?_), hg, ho, h.base, hne g h.lt h.ne, fun k q hk => ?_⟩
  · rintro i (rfl | hi)
    · exact h.base
    · exact (h.owns.lt i hi).1
  · obtain ⟨h1, h2, h3⟩ := h.kept k q hk
    have hl := lt_of_heap h1
    exact ⟨by rw [hc.block k hl (fun e => e.elim h2 h3)]; exact h1, h2, hne k hl h3⟩
theorem owns_zero {W : World} {base : Nat} {e : TypeId} {size n : Nat} {v : Value} {xs : List Value} (h : W.ownsRow base e size v n xs) : Row W e size v n xs := by
  refine ⟨h.1, h.2.imp id ?_⟩
  rintro ⟨g, cap, cur, h1, _, h3⟩
  exact ⟨g, cap, cur, h1, Nat.zero_le _, h3⟩
theorem owns_base {W : World} {base : Nat} {e : TypeId} {size n : Nat} {v : Value} {xs : List Value} (h : Row W e size v n xs) (hb : ∀ k, v.ownBlock = some k → base ≤ k) : W.ownsRow base e size v n xs := by
  refine ⟨h.1, h.2.imp id ?_⟩
  rintro ⟨g, cap, cur, h1, _, h3⟩
  exact ⟨g, cap, cur, h1, hb g (by rw [h1]; rfl), h3⟩
theorem wpList_runToG {P : Program} {ops : Array Oper} {rest : List Oper} {o : Oper} {a : Act} {w : World} {Q : Exit → Act → World → Prop} (hw : Region.wanted o (yielded ops a.tmps) = true) (dst : Option Tmp) (hdst : o.dst = dst)
    (v : Value) (w' : World) (hrun : (execOp a.eval o).run P w = .ok (.value v) w')
    (h : wpList P ops Q rest (a.put dst v) w') : wpList P ops Q (o :: rest) a w := by
  subst hdst
  refine wpList_step fun K hK => ?_
  rw [if_pos hw]
  unfold Oper.wp
  rw [hrun, Oper.upon_value]
  exact hK _ _ h
theorem wpList_load_cellsG {P : Program} {ops : Array Oper} {rest : List Oper} {o : Oper} {a : Act} {w : World} {Q : Exit → Act → World → Prop} (hw : Region.wanted o (yielded ops a.tmps) = true) (ty : TypeId) (x : Operand) (ho : o.op = .load ty x)
    (A : Addr) (hx : a.eval x = .pointer (some A)) (cs : List Value) (d : TypeDesc) (hc : ∀ j v, cs[j]? = some v → w.cell? (A.add j) = some v)
    (hu : P.underlying ty = some d) (hd : (match d with | .struct _ | .array _ _ => true | _ => false) = true) (hi : (P.info? ty).map (·.size) = some cs.length)
    (h : wpList P ops Q rest (a.put o.dst (.agg cs.toArray)) w) : wpList P ops Q (o :: rest) a w :=
  wpList_step fun _ hK => by rw [if_pos hw]; exact wp_load_cells ty x ho A hx cs d hc hu hd hi (hK _ _ h)
theorem results_row_tmp {P : Program} {fn : Func} {p q : Tmp} {ty : TypeId} (h : fn.results = #[.cell p ty, .tmp q]) (tmps : Array Value) (w : World) (g : Nat) (t : TypeId) (cs : Array Value) (fr : Nat × Nat) (d : TypeDesc) (v : Value)
    (hp : tmps.getD p undef = .pointer (some ⟨g, 0, none⟩)) (hq : tmps.getD q undef = v) (hg : w.heap[g]? = some (.cells cs t fr))
    (hu : P.underlying ty = some d) (hd : (match d with | .struct _ | .array _ _ => true | _ => false) = true) (hi : (P.info? ty).map (·.size) = some cs.size) :
    (results fn tmps).run P w = .ok (.tuple #[.agg cs, v]) w := by
  have hp' : tmps[p]?.getD undef = .pointer (some ⟨g, 0, none⟩) := by simpa using hp
  have hq' : tmps[q]?.getD undef = v := by simpa using hq
  simp [results, h, hp', hq', asAddr, run_loadVar_row w g t ty cs fr d hg hu hd hi]
set_option maxRecDepth 100000 in
set_option maxHeartbeats 4000000 in
theorem take_no {most : Int} {w0 : Base} {g n : Nat} {xs : List Value} {W : World} {v : Value} (h : BagAt most w0 g n xs W v) (k : Int) (hk : k < 0 ∨ n ≤ k) :
    Calls Try.prog 24 #[.pointer (some ⟨g, 0, none⟩), .int .i64 k] W fun en W' => en = .returned (.tuple #[.agg (pk 0 0 0 0), .bool false]) ∧ BagAt most w0 g n xs W' v := by
  have hg := h.lt
  have H := hid h
  clear h
  have hr : false = (decide (0 ≤ k) && decide (k < n)) := by
    rcases hk with hk | hk
    · rw [show decide (0 ≤ k) = false from by simp; omega]; rfl
    · rw [show decide (k < (n : Int)) = false from by simp; omega]; simp
  have HR := hid hr
  clear hr hk
  go_enter Try.func24, Try.ntmps24
  go_wp2_with fail
  (((with_reducible refine (there_is (H.out.on (by repeat' (first | exact Below.refl _ _ | with_reducible assumption | omega | with_reducible refine below_put_fut ?_ ?_ _ | with_reducible refine below_to_put ?_ | with_reducible refine Below.alloc ?_ ?_ _ | with_reducible refine Below.fut ?_ ?_ _ | with_reducible refine Below.drew ?_ | with_reducible refine Below.setCell ?_ ?_ _ | with_reducible refine Below.atPut ?_ ?_ _ | (simp [go_sem]; done) | (simp [go_sem]; omega)))) k false HR.out).mono ?_)); rintro _ _ ⟨rfl, u, rfl⟩)
  go_upto_region 2 with fail
  refine wp_region_lit ?_
  refine Go.Great.wpList_runTo rfl (some 11) rfl (.agg (pk 0 0 0 0)) u.val (by simp [execOp, Act.eval, Act.put, go_sem]) ?_
  refine wpList_store_row rfl 38 (.tmp 4) (.tmp 11) rfl W.heap.size (pk 0 0 0 0) (pk 0 0 0 0) rfl rfl ?_ (by kernel_rfl) rfl (by simp [Value.oneCell']) ?_
  · rw [u.heap _ (by simp [go_sem])]
    exact heap_alloc_at _ _ _ rfl
  simp [Act.put]
  go_wp2_with fail
  exact bodyPost_ret (v := .tuple #[.agg (pk 0 0 0 0), .bool false]) (results_row_tmp rfl _ _ W.heap.size _ (pk 0 0 0 0) (0, 0) _ (.bool false) rfl rfl (heap_put_at _ _ _ (by first | assumption | (simp [go_sem]; done) | (simp [go_sem]; omega))) rfl rfl rfl) rfl ⟨rfl, H.out.on (by repeat' (first | exact Below.refl _ _ | with_reducible assumption | omega | with_reducible refine below_put_fut ?_ ?_ _ | with_reducible refine below_to_put ?_ | with_reducible refine Below.alloc ?_ ?_ _ | with_reducible refine Below.fut ?_ ?_ _ | with_reducible refine Below.drew ?_ | with_reducible refine Below.setCell ?_ ?_ _ | with_reducible refine Below.atPut ?_ ?_ _ | (simp [go_sem]; done) | (simp [go_sem]; omega)))⟩
set_option maxRecDepth 100000 in
set_option maxHeartbeats 4000000 in
theorem take_is {most : Int} {w0 : Base} {g n : Nat} {l : List Pk} {W : World} {v : Value} (h : BagAt most w0 g (n + 1) (flatP l) W v) (hn : n ≤ 1000) (i : Nat) (p : Pk) (hp : l[i]? = some p) (hi : i ≤ n) :
    Calls Try.prog 24 #[.pointer (some ⟨g, 0, none⟩), .int .i64 i] W fun en W' => ∃ v', en = .returned (.tuple #[.agg (pk p.1 p.2.1 p.2.2.1 p.2.2.2), .bool true]) ∧ BagAt most w0 g n (flatP (l.eraseIdx i)) W' v' := by
  obtain ⟨r, cap, rfl⟩ : ∃ r cap, v = .slice (some ⟨r, 0, none⟩) (n + 1) cap := by
    obtain ⟨r, cap, h2, _, _⟩ := World.ownsRow.form h.owns (by omega)
    exact ⟨r, cap, h2⟩
  have hg := h.lt
  have hrow := h.owns.cells (g := r) rfl
  have hrl : r < W.heap.size := (h.owns.lt r rfl).2
  have hgr : r ≠ g := fun e => h.ne (by rw [e]; rfl)
  have hr0 : w0.heap.size ≤ r := (h.owns.lt r rfl).1
  have hsz := h.size
  have hc := fun i => cell_of_row W g i _ _ (0, 0) h.heap
  have HR := hid (show true = (decide ((0 : Int) ≤ (i : Int)) && decide ((i : Int) < ((n + 1 : Nat) : Int))) by simp; omega)
  have hcl : ∀ j u, (pkl p)[j]? = some u → W.cell? ((⟨r, i * 25, none⟩ : Addr).add j) = some u := by
    intro j u hu
    have := hrow _ _ (flatP_at hp j u hu)
    rw [add_none] at this ⊢
    simpa using this
  have HC := hid hcl
  have H := hid h
  clear h hcl hrow hp
  have k1 : (i : Int) < (n : Int) + 1 := by omega
  go_enter Try.func24, Try.ntmps24
  go_wp2_with fail
  (((with_reducible refine (there_is (H.out.on (by repeat' (first | exact Below.refl _ _ | with_reducible assumption | omega | with_reducible refine below_put_fut ?_ ?_ _ | with_reducible refine below_to_put ?_ | with_reducible refine Below.alloc ?_ ?_ _ | with_reducible refine Below.fut ?_ ?_ _ | with_reducible refine Below.drew ?_ | with_reducible refine Below.setCell ?_ ?_ _ | with_reducible refine Below.atPut ?_ ?_ _ | (simp [go_sem]; done) | (simp [go_sem]; omega)))) i true HR.out).mono ?_)); rintro _ _ ⟨rfl, u, rfl⟩)
  go_upto_region 3 with fail
  have hcu : ∀ o, u.val.cell? ⟨g, o, none⟩ = (#[.int .i64 most, .slice (some ⟨r, 0, none⟩) (n + 1) cap] : Array Value)[o]? := fun o => by
    rw [u.cell _ _ (by first | assumption | (simp [go_sem]; done) | (simp [go_sem]; omega)), ← hc o]
    exact World.cell?_alloc_lt _ _ _ hg
  refine wp_region_lit ?_
  refine Go.Great.wpList_runTo rfl (some 12) rfl (.pointer (some ⟨g, 0, none⟩)) u.val (by simp [execOp, Act.eval, Act.put, go_sem, hcu, k1]) ?_
  refine Go.Great.wpList_runTo rfl (some 13) rfl (.pointer (some ⟨g, 0, none⟩)) u.val (by simp [execOp, Act.eval, Act.put, go_sem, hcu, k1]) ?_
  refine Go.Great.wpList_runTo rfl (some 14) rfl (.pointer (some ⟨g, 1, none⟩)) u.val (by simp [execOp, Act.eval, Act.put, go_sem, hcu, k1]) ?_
  refine Go.Great.wpList_runTo rfl (some 15) rfl (.slice (some ⟨r, 0, none⟩) (n + 1) cap) u.val (by simp [execOp, Act.eval, Act.put, go_sem, hcu, k1]) ?_
  refine Go.Great.wpList_runTo rfl (some 16) rfl (.int .i64 i) u.val (by simp [execOp, Act.eval, Act.put, go_sem, hcu, k1]) ?_
  refine Go.Great.wpList_runTo rfl (some 17) rfl (.pointer (some ⟨r, i * 25, none⟩)) u.val (by simp [execOp, Act.eval, Act.put, go_sem, hcu, k1]) ?_
  refine wpList_load_cells rfl 38 _ rfl ⟨r, i * 25, none⟩ rfl (pkl p) _ ?_ Try.underlying38 rfl (by kernel_rfl) ?_
  · intro j x hx
    have hj := HC.out j x hx
    rw [add_none] at hj ⊢
    rw [u.cell _ _ (by first | assumption | (simp [go_sem]; done) | (simp [go_sem]; omega))]
    simpa [go_sem, hrl] using hj
  rw [pkl_arr]
  refine Go.Great.wpList_runTo rfl (some 6) rfl (.pointer (some ⟨u.val.heap.size, 0, none⟩)) (u.val.alloc (.cells (pk 0 0 0 0) 38)) (by kernel_rfl) ?_
  refine wpList_store_row rfl 38 (.tmp 6) (.tmp 18) rfl u.val.heap.size (pk p.1 p.2.1 p.2.2.1 p.2.2.2) (pk 0 0 0 0) (by simp [Act.eval, Act.put]) (by simp [Act.eval, Act.put]) (heap_alloc_at _ _ _ rfl) (by kernel_rfl) rfl (by simp [Value.oneCell']) ?_
  refine wpList_nil ?_
  rw [put_alloc]
  simp [Act.put]
  have hb2 : Below W.heap.size W (u.val.alloc (.cells (pk p.1 p.2.1 p.2.2.1 p.2.2.2) 38)) := (by repeat' (first | exact Below.refl _ _ | with_reducible assumption | omega | with_reducible refine below_put_fut ?_ ?_ _ | with_reducible refine below_to_put ?_ | with_reducible refine Below.alloc ?_ ?_ _ | with_reducible refine Below.fut ?_ ?_ _ | with_reducible refine Below.drew ?_ | with_reducible refine Below.setCell ?_ ?_ _ | with_reducible refine Below.atPut ?_ ?_ _ | (simp [go_sem]; done) | (simp [go_sem]; omega)))
  have hz2 : (u.val.alloc (.cells (pk p.1 p.2.1 p.2.2.1 p.2.2.2) 38)).heap[W.heap.size]? = some (.cells (pk 0 0 0 0) 38) := (by repeat' (first | rfl | assumption | (with_reducible refine (heap_drew_eq _ _).trans ?_) | (refine (Fut.heap _ _ ?_).trans ?_ ; focus (first | assumption | omega | (simp [go_sem]; done) | (simp [go_sem]; omega))) | (refine (heap_put_at _ _ _ ?_).trans ?_ ; focus (first | assumption | omega | (simp [go_sem]; done) | (simp [go_sem]; omega))) | (refine (heap_put_other _ _ _ _ ?_).trans ?_ ; focus (first | assumption | omega | (simp [go_sem]; done) | (simp [go_sem]; omega))) | (refine (heap_alloc_other _ _ _ ?_).trans ?_ ; focus (first | assumption | omega | (simp [go_sem]; done) | (simp [go_sem]; omega))) | (refine (heap_alloc_at _ _ _ ?_).trans ?_ ; focus (first | assumption | omega | (simp [go_sem]; done) | (simp [go_sem]; omega))) | (simp [go_sem]; done) | (simp [go_sem]; omega)))
  have hS2 : (u.val.alloc (.cells (pk p.1 p.2.1 p.2.2.1 p.2.2.2) 38)).heap[u.val.heap.size]? = some (.cells (pk p.1 p.2.1 p.2.2.1 p.2.2.2) 38) := heap_alloc_at _ _ _ rfl
  have hSs : W.heap.size < u.val.heap.size := (by first | assumption | (simp [go_sem]; done) | (simp [go_sem]; omega))
  generalize u.val.alloc (.cells (pk p.1 p.2.1 p.2.2.1 p.2.2.2) 38) = W2 at hb2 hz2 hS2 ⊢
  generalize u.val.heap.size = S at hS2 hSs ⊢
  clear hcu hc
  have hz3 := hb2.size
  have hc2 := fun i => cell_of_row W2 g i _ _ (0, 0) (H.out.on hb2).heap
  go_wp2_with fail
  (((with_reducible refine (delete_pkt W2 r cap n _ (owns_zero (H.out.on hb2).owns) hn (flatP_one _) i hi).mono ?_)); rintro _ W3 ⟨rfl, hr3, hch3⟩)
  have hg3 := (hch3.block g (by omega) (fun e => hgr e.symm)).trans (H.out.on hb2).heap
  have hzz := (hch3.block W.heap.size (lt_of_heap hz2) (by omega)).trans hz2
  have hSS := (hch3.block S (lt_of_heap hS2) (by omega)).trans hS2
  rw [flatP_erase] at hr3
  have HR3 := hid hr3
  have hs3 := hch3.size
  have hlg3 := lt_of_heap hg3
  have hl2 := lt_of_heap hz2
  clear hr3 hc2 hz2 hS2
  rw [← put_self hg3]
  simp only [bagObj]
  go_upto_region 5 with fail
  refine wp_region_lit ?_
  refine wpList_load_row rfl 38 (.tmp 6) rfl S (by simp [Act.eval, Act.put]) 38 (pk p.1 p.2.1 p.2.2.1 p.2.2.2) (0, 0) _ ((heap_put_other _ _ _ _ (by omega)).trans hSS) Try.underlying38 rfl (by kernel_rfl) ?_
  refine wpList_store_row rfl 38 (.tmp 4) (.tmp 30) rfl W.heap.size (pk p.1 p.2.1 p.2.2.1 p.2.2.2) (pk 0 0 0 0) (by simp [Act.eval, Act.put]) (by simp [Act.eval, Act.put]) ((heap_put_other _ _ _ _ (by omega)).trans hzz) (by kernel_rfl) rfl (by simp [Value.oneCell']) ?_
  simp [Act.put]
  go_wp2_with fail
  refine bodyPost_ret (v := .tuple #[.agg (pk p.1 p.2.1 p.2.2.1 p.2.2.2), .bool true]) (results_row_tmp rfl _ _ W.heap.size _ (pk p.1 p.2.1 p.2.2.1 p.2.2.2) (0, 0) _ (.bool true) (by simp) (by simp) (heap_put_at _ _ _ (by rw [size_put]; omega)) Try.underlying38 rfl (by kernel_rfl)) rfl ⟨.slice (some ⟨r, 0, none⟩) n cap, rfl, ?_⟩
  refine H.out.step ?_ ((heap_put_other _ _ _ _ (by omega)).trans (heap_put_at _ _ _ hlg3)) (owns_base (HR3.out.keep fun k hk => ?_) ?_) (.inl rfl)
  · refine ((((Chg.of_below hb2).trans hch3 (T := fun k => k = r) ?_).put (g := g) (fun _ => .inl rfl) _).put (g := W.heap.size) (fun h => by omega) _)
    rintro k _ rfl
    exact .inr rfl
  · rw [blk_at _ _ _ _ _ none] at hk
    obtain rfl := one_ne hk
    rw [heap_put_other _ _ _ _ (by omega), heap_put_other _ _ _ _ hgr]
  · intro k hk
    cases hk
    exact hr0
theorem drop_no {most : Int} {w0 : Base} {g n : Nat} {xs : List Value} {W : World} {v : Value} (h : BagAt most w0 g n xs W v) (k : Int) (hk : k < 0 ∨ n ≤ k) :
    Calls Try.prog 26 #[.pointer (some ⟨g, 0, none⟩), .int .i64 k] W fun en W' => en = .returned (.bool false) ∧ BagAt most w0 g n xs W' v := by
  have hg := h.lt
  have H := hid h
  have HK := hid hk
  clear h hk
  go_enter Try.func26, Try.ntmps26
  go_wp2_with fail
  (((with_reducible refine (take_no H.out k HK.out).mono ?_)); rintro _ W2 ⟨rfl, h2⟩)
  go_simp
  rename_i K hK
  refine hK _ _ ?_
  clear hK K
  refine Go.Great.wpList_runTo rfl (some 7) rfl (.tuple #[.agg (pk 0 0 0 0), .bool false]) W2 (by simp [execOp, Act.eval, Act.put, go_sem]) ?_
  refine Go.Great.wpList_runTo rfl (some 11) rfl (.agg (pk 0 0 0 0)) W2 (by simp [execOp, Act.eval, Act.put, go_sem]) ?_
  refine Go.Great.wpList_runTo rfl (some 12) rfl (.bool false) W2 (by simp [execOp, Act.eval, Act.put, go_sem]) ?_
  refine Go.Great.wpList_runTo rfl (some 5) rfl (.pointer (some ⟨(W2).heap.size, 0, none⟩)) (World.alloc W2 (.cells (pk 0 0 0 0) 38)) (by kernel_rfl) ?_
  refine wpList_store_row rfl 38 (.tmp 5) (.tmp 11) rfl ((W2).heap.size) (pk 0 0 0 0) (pk 0 0 0 0) (by simp [Act.eval, Act.put]) (by simp [Act.eval, Act.put]) (heap_alloc_at _ _ _ rfl) (by kernel_rfl) rfl (by simp [Value.oneCell']) ?_
  rw [put_alloc]
  simp [Act.put]
  go_wp2_with fail
  go_ret
  exact ⟨rfl, h2.on (by repeat' (first | exact Below.refl _ _ | with_reducible assumption | omega | with_reducible refine below_put_fut ?_ ?_ _ | with_reducible refine below_to_put ?_ | with_reducible refine Below.alloc ?_ ?_ _ | with_reducible refine Below.fut ?_ ?_ _ | with_reducible refine Below.drew ?_ | with_reducible refine Below.setCell ?_ ?_ _ | with_reducible refine Below.atPut ?_ ?_ _ | (simp [go_sem]; done) | (simp [go_sem]; omega)))⟩
set_option maxRecDepth 100000 in
set_option maxHeartbeats 4000000 in
theorem drop_is {most : Int} {w0 : Base} {g n : Nat} {l : List Pk} {W : World} {v : Value} (h : BagAt most w0 g (n + 1) (flatP l) W v) (hn : n ≤ 1000) (i : Nat) (p : Pk) (hp : l[i]? = some p) (hi : i ≤ n) :
    Calls Try.prog 26 #[.pointer (some ⟨g, 0, none⟩), .int .i64 i] W fun en W' => ∃ v', en = .returned (.bool true) ∧ BagAt most w0 g n (flatP (l.eraseIdx i)) W' v' := by
  have hg := h.lt
  have H := hid h
  have HP := hid hp
  clear h hp
  go_enter Try.func26, Try.ntmps26
  go_wp2_with fail
  (((with_reducible refine (take_is H.out hn i p HP.out hi).mono ?_)); rintro _ W2 ⟨v', rfl, h2⟩)
  go_simp
  rename_i K hK
  refine hK _ _ ?_
  clear hK K
  refine Go.Great.wpList_runTo rfl (some 7) rfl (.tuple #[.agg (pk p.1 p.2.1 p.2.2.1 p.2.2.2), .bool true]) W2 (by simp [execOp, Act.eval, Act.put, go_sem]) ?_
  refine Go.Great.wpList_runTo rfl (some 11) rfl (.agg (pk p.1 p.2.1 p.2.2.1 p.2.2.2)) W2 (by simp [execOp, Act.eval, Act.put, go_sem]) ?_
  refine Go.Great.wpList_runTo rfl (some 12) rfl (.bool true) W2 (by simp [execOp, Act.eval, Act.put, go_sem]) ?_
  refine Go.Great.wpList_runTo rfl (some 5) rfl (.pointer (some ⟨(W2).heap.size, 0, none⟩)) (World.alloc W2 (.cells (pk 0 0 0 0) 38)) (by kernel_rfl) ?_
  refine wpList_store_row rfl 38 (.tmp 5) (.tmp 11) rfl ((W2).heap.size) (pk p.1 p.2.1 p.2.2.1 p.2.2.2) (pk 0 0 0 0) (by simp [Act.eval, Act.put]) (by simp [Act.eval, Act.put]) (heap_alloc_at _ _ _ rfl) (by kernel_rfl) rfl (by simp [Value.oneCell']) ?_
  rw [put_alloc]
  simp [Act.put]
  go_wp2_with fail
  go_ret
  exact ⟨v', rfl, h2.on (by repeat' (first | exact Below.refl _ _ | with_reducible assumption | omega | with_reducible refine below_put_fut ?_ ?_ _ | with_reducible refine below_to_put ?_ | with_reducible refine Below.alloc ?_ ?_ _ | with_reducible refine Below.fut ?_ ?_ _ | with_reducible refine Below.drew ?_ | with_reducible refine Below.setCell ?_ ?_ _ | with_reducible refine Below.atPut ?_ ?_ _ | (simp [go_sem]; done) | (simp [go_sem]; omega)))⟩
theorem twice_no {most : Int} {w0 : Base} {g n : Nat} {xs : List Value} {W : World} {v : Value} (h : BagAt most w0 g n xs W v) (k : Int) (hk : k < 0 ∨ n ≤ k) :
    Calls Try.prog 22 #[.pointer (some ⟨g, 0, none⟩), .int .i64 k] W fun en W' => en = .returned (.bool false) ∧ BagAt most w0 g n xs W' v := by
  have hr : false = (decide (0 ≤ k) && decide (k < n)) := by
    rcases hk with hk | hk
    · rw [show decide (0 ≤ k) = false from by simp; omega]; rfl
    · rw [show decide (k < (n : Int)) = false from by simp; omega]; simp
  have HR := hid hr
  have hg := h.lt
  have H := hid h
  clear h hr hk
  go_enter Try.func22, Try.ntmps22
  go_wp2_with fail
  (((with_reducible refine (there_is H.out k false HR.out).mono ?_)); rintro _ _ ⟨rfl, u, rfl⟩)
  go_wp2_with fail
  go_ret
  exact ⟨rfl, H.out.on (by repeat' (first | exact Below.refl _ _ | with_reducible assumption | omega | with_reducible refine below_put_fut ?_ ?_ _ | with_reducible refine below_to_put ?_ | with_reducible refine Below.alloc ?_ ?_ _ | with_reducible refine Below.fut ?_ ?_ _ | with_reducible refine Below.drew ?_ | with_reducible refine Below.setCell ?_ ?_ _ | with_reducible refine Below.atPut ?_ ?_ _ | (simp [go_sem]; done) | (simp [go_sem]; omega)))⟩
set_option maxRecDepth 100000 in
set_option maxHeartbeats 4000000 in
theorem twice_full {most : Int} {w0 : Base} {g n : Nat} {l : List Pk} {W : World} {v : Value} (h : BagAt most w0 g n (flatP l) W v) (hf : most ≤ n) (i : Nat) (p : Pk) (hp : l[i]? = some p) (hi : i < n) :
    Calls Try.prog 22 #[.pointer (some ⟨g, 0, none⟩), .int .i64 i] W fun en W' => ∃ v', en = .returned (.bool false) ∧ BagAt most w0 g n (flatP l) W' v' := by
  obtain ⟨r, cap, rfl⟩ : ∃ r cap, v = .slice (some ⟨r, 0, none⟩) n cap := by
    obtain ⟨r, cap, h2, _, _⟩ := World.ownsRow.form h.owns (by omega)
    exact ⟨r, cap, h2⟩
  have hg := h.lt
  have hrow := h.owns.cells (g := r) rfl
  have hrl : r < W.heap.size := (h.owns.lt r rfl).2
  have hgr : r ≠ g := fun e => h.ne (by rw [e]; rfl)
  have hc := fun i => cell_of_row W g i _ _ (0, 0) h.heap
  have HR := hid (show true = (decide ((0 : Int) ≤ (i : Int)) && decide ((i : Int) < (n : Int))) by simp; omega)
  have hcl : ∀ j u, (pkl p)[j]? = some u → W.cell? ((⟨r, i * 25, none⟩ : Addr).add j) = some u := by
    intro j u hu
    have := hrow _ _ (flatP_at hp j u hu)
    rw [add_none] at this ⊢
    simpa using this
  have HC := hid hcl
  have H := hid h
  clear h hcl hrow hp
  have k1 : (i : Int) < (n : Int) := by omega
  go_enter Try.func22, Try.ntmps22
  go_wp2_with fail
  (((with_reducible refine (there_is H.out i true HR.out).mono ?_)); rintro _ _ ⟨rfl, u, rfl⟩)
  go_simp
  rename_i K hK
  refine hK _ _ ?_
  clear hK K
  have hcu : ∀ o, u.val.cell? ⟨g, o, none⟩ = (#[.int .i64 most, .slice (some ⟨r, 0, none⟩) n cap] : Array Value)[o]? := fun o => by
    rw [u.cell _ _ (by first | assumption | (simp [go_sem]; done) | (simp [go_sem]; omega)), ← hc o]
  refine Go.Great.wpList_runTo rfl (some 8) rfl (.bool true) u.val (by simp [execOp, Act.eval, Act.put, go_sem, hcu, k1]) ?_
  simp only [Act.put, List.setIfInBounds_toArray, List.set_cons_succ, List.set_cons_zero]
  refine wpList_runToG (by rfl) (some 9) rfl (.pointer (some ⟨g, 0, none⟩)) u.val (by simp [execOp, Act.eval, Act.put, go_sem, hcu, k1]) ?_
  simp only [Act.put, List.setIfInBounds_toArray, List.set_cons_succ, List.set_cons_zero]
  refine wpList_runToG (by rfl) (some 10) rfl (.pointer (some ⟨g, 0, none⟩)) u.val (by simp [execOp, Act.eval, Act.put, go_sem, hcu, k1]) ?_
  simp only [Act.put, List.setIfInBounds_toArray, List.set_cons_succ, List.set_cons_zero]
  refine wpList_runToG (by rfl) (some 11) rfl (.pointer (some ⟨g, 0, none⟩)) u.val (by simp [execOp, Act.eval, Act.put, go_sem, hcu, k1]) ?_
  simp only [Act.put, List.setIfInBounds_toArray, List.set_cons_succ, List.set_cons_zero]
  refine wpList_runToG (by rfl) (some 12) rfl (.pointer (some ⟨g, 1, none⟩)) u.val (by simp [execOp, Act.eval, Act.put, go_sem, hcu, k1]) ?_
  simp only [Act.put, List.setIfInBounds_toArray, List.set_cons_succ, List.set_cons_zero]
  refine wpList_runToG (by rfl) (some 13) rfl (.slice (some ⟨r, 0, none⟩) n cap) u.val (by simp [execOp, Act.eval, Act.put, go_sem, hcu, k1]) ?_
  simp only [Act.put, List.setIfInBounds_toArray, List.set_cons_succ, List.set_cons_zero]
  refine wpList_runToG (by rfl) (some 14) rfl (.int .i64 i) u.val (by simp [execOp, Act.eval, Act.put, go_sem, hcu, k1]) ?_
  simp only [Act.put, List.setIfInBounds_toArray, List.set_cons_succ, List.set_cons_zero]
  refine wpList_runToG (by rfl) (some 15) rfl (.pointer (some ⟨r, i * 25, none⟩)) u.val (by simp [execOp, Act.eval, Act.put, go_sem, hcu, k1]) ?_
  simp only [Act.put, List.setIfInBounds_toArray, List.set_cons_succ, List.set_cons_zero]
  refine wpList_load_cellsG (by rfl) 38 _ rfl ⟨r, i * 25, none⟩ (by simp [Act.eval, Act.put]) (pkl p) _ ?_ Try.underlying38 rfl (by kernel_rfl) ?_
  · intro j x hx
    have hj := HC.out j x hx
    rw [add_none] at hj ⊢
    rw [u.cell _ _ (by first | assumption | (simp [go_sem]; done) | (simp [go_sem]; omega))]
    exact hj
  rw [pkl_arr]
  simp [Act.put]
  go_wp2_with fail
  (((with_reducible refine (put_full (H.out.on u.below) hf _ _ _ _).mono ?_)); rintro _ W2 ⟨rfl, h2⟩)
  go_wp2_with fail
  go_ret
  exact ⟨_, rfl, h2⟩
set_option maxRecDepth 100000 in
set_option maxHeartbeats 4000000 in
theorem twice_is {most : Int} {w0 : Base} {g n : Nat} {l : List Pk} {W : World} {v : Value} (h : BagAt most w0 g n (flatP l) W v) (hf : n < most) (hm : most ≤ 2000) (i : Nat) (p : Pk) (hp : l[i]? = some p) (hi : i < n) :
    Calls Try.prog 22 #[.pointer (some ⟨g, 0, none⟩), .int .i64 i] W fun en W' => ∃ v', en = .returned (.bool true) ∧ BagAt most w0 g (n + 1) (flatP (l ++ [p])) W' v' := by
  obtain ⟨r, cap, rfl⟩ : ∃ r cap, v = .slice (some ⟨r, 0, none⟩) n cap := by
    obtain ⟨r, cap, h2, _, _⟩ := World.ownsRow.form h.owns (by omega)
    exact ⟨r, cap, h2⟩
  have hg := h.lt
  have hrow := h.owns.cells (g := r) rfl
  have hrl : r < W.heap.size := (h.owns.lt r rfl).2
  have hgr : r ≠ g := fun e => h.ne (by rw [e]; rfl)
  have hc := fun i => cell_of_row W g i _ _ (0, 0) h.heap
  have HR := hid (show true = (decide ((0 : Int) ≤ (i : Int)) && decide ((i : Int) < (n : Int))) by simp; omega)
  have hcl : ∀ j u, (pkl p)[j]? = some u → W.cell? ((⟨r, i * 25, none⟩ : Addr).add j) = some u := by
    intro j u hu
    have := hrow _ _ (flatP_at hp j u hu)
    rw [add_none] at this ⊢
    simpa using this
  have HC := hid hcl
  have H := hid h
  clear h hcl hrow hp
  have k1 : (i : Int) < (n : Int) := by omega
  go_enter Try.func22, Try.ntmps22
  go_wp2_with fail
  (((with_reducible refine (there_is H.out i true HR.out).mono ?_)); rintro _ _ ⟨rfl, u, rfl⟩)
  go_simp
  rename_i K hK
  refine hK _ _ ?_
  clear hK K
  have hcu : ∀ o, u.val.cell? ⟨g, o, none⟩ = (#[.int .i64 most, .slice (some ⟨r, 0, none⟩) n cap] : Array Value)[o]? := fun o => by
    rw [u.cell _ _ (by first | assumption | (simp [go_sem]; done) | (simp [go_sem]; omega)), ← hc o]
  refine Go.Great.wpList_runTo rfl (some 8) rfl (.bool true) u.val (by simp [execOp, Act.eval, Act.put, go_sem, hcu, k1]) ?_
  simp only [Act.put, List.setIfInBounds_toArray, List.set_cons_succ, List.set_cons_zero]
  refine wpList_runToG (by rfl) (some 9) rfl (.pointer (some ⟨g, 0, none⟩)) u.val (by simp [execOp, Act.eval, Act.put, go_sem, hcu, k1]) ?_
  simp only [Act.put, List.setIfInBounds_toArray, List.set_cons_succ, List.set_cons_zero]
  refine wpList_runToG (by rfl) (some 10) rfl (.pointer (some ⟨g, 0, none⟩)) u.val (by simp [execOp, Act.eval, Act.put, go_sem, hcu, k1]) ?_
  simp only [Act.put, List.setIfInBounds_toArray, List.set_cons_succ, List.set_cons_zero]
  refine wpList_runToG (by rfl) (some 11) rfl (.pointer (some ⟨g, 0, none⟩)) u.val (by simp [execOp, Act.eval, Act.put, go_sem, hcu, k1]) ?_
  simp only [Act.put, List.setIfInBounds_toArray, List.set_cons_succ, List.set_cons_zero]
  refine wpList_runToG (by rfl) (some 12) rfl (.pointer (some ⟨g, 1, none⟩)) u.val (by simp [execOp, Act.eval, Act.put, go_sem, hcu, k1]) ?_
  simp only [Act.put, List.setIfInBounds_toArray, List.set_cons_succ, List.set_cons_zero]
  refine wpList_runToG (by rfl) (some 13) rfl (.slice (some ⟨r, 0, none⟩) n cap) u.val (by simp [execOp, Act.eval, Act.put, go_sem, hcu, k1]) ?_
  simp only [Act.put, List.setIfInBounds_toArray, List.set_cons_succ, List.set_cons_zero]
  refine wpList_runToG (by rfl) (some 14) rfl (.int .i64 i) u.val (by simp [execOp, Act.eval, Act.put, go_sem, hcu, k1]) ?_
  simp only [Act.put, List.setIfInBounds_toArray, List.set_cons_succ, List.set_cons_zero]
  refine wpList_runToG (by rfl) (some 15) rfl (.pointer (some ⟨r, i * 25, none⟩)) u.val (by simp [execOp, Act.eval, Act.put, go_sem, hcu, k1]) ?_
  simp only [Act.put, List.setIfInBounds_toArray, List.set_cons_succ, List.set_cons_zero]
  refine wpList_load_cellsG (by rfl) 38 _ rfl ⟨r, i * 25, none⟩ (by simp [Act.eval, Act.put]) (pkl p) _ ?_ Try.underlying38 rfl (by kernel_rfl) ?_
  · intro j x hx
    have hj := HC.out j x hx
    rw [add_none] at hj ⊢
    rw [u.cell _ _ (by first | assumption | (simp [go_sem]; done) | (simp [go_sem]; omega))]
    exact hj
  rw [pkl_arr]
  simp [Act.put]
  go_wp2_with fail
  (((with_reducible refine (put_is (H.out.on u.below) hf hm _ _ _ _).mono ?_)); rintro _ W2 ⟨v2, rfl, h2⟩)
  go_wp2_with fail
  go_ret
  exact ⟨_, rfl, by rw [flatP_append]; simpa [flatP] using h2⟩
end Go.Proofs.Ythgajbfgolcpkaa
