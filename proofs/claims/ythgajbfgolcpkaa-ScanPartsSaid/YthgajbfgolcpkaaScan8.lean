import Derived.Test.YthgajbfgolcpkaaScan7
/- Contracts of package scan: what is refused; sent round. -/
namespace Go.Proofs.Ythgajbfgolcpkaa
open Go.RowKit
theorem new_no (me nodes : Int) (k : nodes < 1 ∨ 16 < nodes) (W : World) : Calls Try.prog 28 #[.int .i64 me, .int .i64 nodes] W (Makes (.pointer none) W) := by
  rcases Decidable.em (nodes < 1) with h | h
  · clear k
    go_enter Try.func28, Try.ntmps28
    go_wp2_with (first | (((with_reducible refine wp_region_fut_lit (by kernel_rfl) (by kernel_rfl) ?_)); (repeat (go_big_quiet_step ((first | fail)))); ((with_reducible refine wpQuiet_nil ?_)); rintro _ ⟨u, rfl⟩; (try (rw [Fut.put_self u (by first | assumption | (simp [go_sem]; done) | (simp [go_sem]; omega))]))))
    go_ret; exact .mk (by first | rfl | (simp; done) | (simp; omega)) (by repeat' (first | exact Below.refl _ _ | with_reducible assumption | omega | with_reducible refine below_put_fut ?_ ?_ _ | with_reducible refine below_to_put ?_ | with_reducible refine Below.alloc ?_ ?_ _ | with_reducible refine Below.fut ?_ ?_ _ | with_reducible refine Below.drew ?_ | with_reducible refine Below.setCell ?_ ?_ _ | with_reducible refine Below.atPut ?_ ?_ _ | (simp [go_sem]; done) | (simp [go_sem]; omega)))
  · have k' : 16 < nodes := by omega
    clear k
    go_enter Try.func28, Try.ntmps28
    go_wp2_with (first | (((with_reducible refine wp_region_fut_lit (by kernel_rfl) (by kernel_rfl) ?_)); (repeat (go_big_quiet_step ((first | fail)))); ((with_reducible refine wpQuiet_nil ?_)); rintro _ ⟨u, rfl⟩; (try (rw [Fut.put_self u (by first | assumption | (simp [go_sem]; done) | (simp [go_sem]; omega))]))))
    go_ret; exact .mk (by first | rfl | (simp; done) | (simp; omega)) (by repeat' (first | exact Below.refl _ _ | with_reducible assumption | omega | with_reducible refine below_put_fut ?_ ?_ _ | with_reducible refine below_to_put ?_ | with_reducible refine Below.alloc ?_ ?_ _ | with_reducible refine Below.fut ?_ ?_ _ | with_reducible refine Below.drew ?_ | with_reducible refine Below.setCell ?_ ?_ _ | with_reducible refine Below.atPut ?_ ?_ _ | (simp [go_sem]; done) | (simp [go_sem]; omega)))
set_option maxRecDepth 100000 in
set_option maxHeartbeats 4000000 in
theorem start_no (s : Sc) (w0 : Base) (g n : Nat) (xs : List Value) (W : World) (v : Value) (h : ScanAt s w0 g n xs W v) (from_ to1 : ByteArray) (many at1 : Int)
    (k : s.on = true ∨ 16 < from_.size ∨ 16 < to1.size ∨ many < 1 ∨ 40 < many ∨ at1 < 0 ∨ s.nodes ≤ at1) :
    Calls Try.prog 29 #[.pointer (some ⟨g, 0, none⟩), .string from_, .string to1, .int .i64 many, .int .i64 at1] W fun en W' => en = .returned (.tuple #[.slice none 0 0, .bool false]) ∧ ScanAt s w0 g n xs W' v := by
  cases s
  simp only at k
  have hg := h.lt
  have hb := h.size
  have hobj := fun o' => h.upd (o' := o') (Below.refl _ _)
  rw [← put_self h.heap]
  clear h
  simp only [Sc.obj] at hobj ⊢
  rename_i me nodes id tried op key val to am most at_ old waits on over more e
  cases on
  case true =>
    clear k
    go_enter Try.func29, Try.ntmps29
    go_wp2_with (first | (go_at_call 50; go_in) | (((with_reducible refine wp_region_fut_lit (by kernel_rfl) (by kernel_rfl) ?_)); (repeat (go_big_quiet_step ((first | fail)))); ((with_reducible refine wpQuiet_nil ?_)); rintro _ ⟨u, rfl⟩; (try (rw [Fut.put_self u (by first | assumption | (simp [go_sem]; done) | (simp [go_sem]; omega))]))))
    go_ret2
    exact ⟨rfl, (by repeat' (first | exact hobj _ | with_reducible refine ObjAt.fut_put ?_ _ | with_reducible refine ObjAt.drew_put ?_))⟩
  case false =>
    replace k : 16 < from_.size ∨ 16 < to1.size ∨ many < 1 ∨ 40 < many ∨ at1 < 0 ∨ nodes ≤ at1 := by simpa using k
    rcases Nat.lt_or_ge 16 from_.size with c1 | c1
    · clear k
      go_enter Try.func29, Try.ntmps29
      go_wp2_with (first | (go_at_call 50; go_in) | (((with_reducible refine wp_region_fut_lit (by kernel_rfl) (by kernel_rfl) ?_)); (repeat (go_big_quiet_step ((first | fail)))); ((with_reducible refine wpQuiet_nil ?_)); rintro _ ⟨u, rfl⟩; (try (rw [Fut.put_self u (by first | assumption | (simp [go_sem]; done) | (simp [go_sem]; omega))]))))
      go_ret2
      exact ⟨rfl, (by repeat' (first | exact hobj _ | with_reducible refine ObjAt.fut_put ?_ _ | with_reducible refine ObjAt.drew_put ?_))⟩
    rcases Nat.lt_or_ge 16 to1.size with c2 | c2
    · clear k
      go_enter Try.func29, Try.ntmps29
      go_wp2_with (first | (go_at_call 50; go_in) | (((with_reducible refine wp_region_fut_lit (by kernel_rfl) (by kernel_rfl) ?_)); (repeat (go_big_quiet_step ((first | fail)))); ((with_reducible refine wpQuiet_nil ?_)); rintro _ ⟨u, rfl⟩; (try (rw [Fut.put_self u (by first | assumption | (simp [go_sem]; done) | (simp [go_sem]; omega))]))))
      go_ret2
      exact ⟨rfl, (by repeat' (first | exact hobj _ | with_reducible refine ObjAt.fut_put ?_ _ | with_reducible refine ObjAt.drew_put ?_))⟩
    rcases Decidable.em (many < 1) with c3 | c3
    · clear k
      go_enter Try.func29, Try.ntmps29
      go_wp2_with (first | (go_at_call 50; go_in) | (((with_reducible refine wp_region_fut_lit (by kernel_rfl) (by kernel_rfl) ?_)); (repeat (go_big_quiet_step ((first | fail)))); ((with_reducible refine wpQuiet_nil ?_)); rintro _ ⟨u, rfl⟩; (try (rw [Fut.put_self u (by first | assumption | (simp [go_sem]; done) | (simp [go_sem]; omega))]))))
      go_ret2
      exact ⟨rfl, (by repeat' (first | exact hobj _ | with_reducible refine ObjAt.fut_put ?_ _ | with_reducible refine ObjAt.drew_put ?_))⟩
    replace c3 : 1 ≤ many := by omega
    rcases Decidable.em (40 < many) with c4 | c4
    · clear k
      go_enter Try.func29, Try.ntmps29
      go_wp2_with (first | (go_at_call 50; go_in) | (((with_reducible refine wp_region_fut_lit (by kernel_rfl) (by kernel_rfl) ?_)); (repeat (go_big_quiet_step ((first | fail)))); ((with_reducible refine wpQuiet_nil ?_)); rintro _ ⟨u, rfl⟩; (try (rw [Fut.put_self u (by first | assumption | (simp [go_sem]; done) | (simp [go_sem]; omega))]))))
      go_ret2
      exact ⟨rfl, (by repeat' (first | exact hobj _ | with_reducible refine ObjAt.fut_put ?_ _ | with_reducible refine ObjAt.drew_put ?_))⟩
    replace c4 : many ≤ 40 := by omega
    rcases Decidable.em (at1 < 0) with c5 | c5
    · clear k
      go_enter Try.func29, Try.ntmps29
      go_wp2_with (first | (go_at_call 50; go_in) | (((with_reducible refine wp_region_fut_lit (by kernel_rfl) (by kernel_rfl) ?_)); (repeat (go_big_quiet_step ((first | fail)))); ((with_reducible refine wpQuiet_nil ?_)); rintro _ ⟨u, rfl⟩; (try (rw [Fut.put_self u (by first | assumption | (simp [go_sem]; done) | (simp [go_sem]; omega))]))))
      go_ret2
      exact ⟨rfl, (by repeat' (first | exact hobj _ | with_reducible refine ObjAt.fut_put ?_ _ | with_reducible refine ObjAt.drew_put ?_))⟩
    replace c5 : 0 ≤ at1 := by omega
    have c6 : nodes ≤ at1 := by omega
    have c7 : decide (at1 < nodes) = false := by simpa using c6
    clear k
    go_enter Try.func29, Try.ntmps29
    go_wp2_with (first | (go_at_call 50; go_in) | (((with_reducible refine wp_region_fut_lit (by kernel_rfl) (by kernel_rfl) ?_)); (repeat (go_big_quiet_step ((first | fail)))); ((with_reducible refine wpQuiet_nil ?_)); rintro _ ⟨u, rfl⟩; (try (rw [Fut.put_self u (by first | assumption | (simp [go_sem]; done) | (simp [go_sem]; omega))]))))
    go_ret2
    exact ⟨rfl, (by repeat' (first | exact hobj _ | with_reducible refine ObjAt.fut_put ?_ _ | with_reducible refine ObjAt.drew_put ?_))⟩
set_option maxRecDepth 100000 in
set_option maxHeartbeats 4000000 in
theorem got_round (s : Sc) (w0 : Base) (g n : Nat) (xs : List Value) (W : World) (v : Value) (h : ScanAt s w0 g n xs W v) (hon : s.on = true) (hw : s.waits = 0) (x : Lt) (hxe : x.te = 8) (ht : s.tried < 8) (ht0 : 0 ≤ s.tried)
    (hn : x.tnode < 0 ∨ s.nodes ≤ x.tnode ∨ (0 ≤ x.tnode ∧ x.tnode < s.nodes ∧ x.tnode = s.at_)) (hnod : 1 ≤ s.nodes) (ha0 : 0 ≤ s.at_) (ha1 : s.at_ < 100) (h0 : 0 ≤ s.id) (h1 : s.id < 1000000) :
    Calls Try.prog 30 #[.pointer (some ⟨g, 0, none⟩), .agg (x.cells 2 s.at_ s.id)] W fun en W' => ∃ L, en = .returned (.tuple #[.slice (some ⟨L, 0, none⟩) 1 1, .bool false]) ∧ Letter { s with tried := s.tried + 1, at_ := (s.at_ + 1) % s.nodes, id := s.id + 1 } w0 L W' ∧ ScanAt { s with tried := s.tried + 1, at_ := (s.at_ + 1) % s.nodes, id := s.id + 1 } w0 g n xs W' v := by
  cases s
  simp only at hon hw ht ht0 hn h0 h1 hnod ha0 ha1
  subst hon hw
  rename_i me nodes id tried op key val to am most at_ old over more e
  rcases hn with hn | hn | ⟨hn, hn2, hn3⟩
  · have hg := h.lt
    have hb := h.size
    obtain ⟨T, hT⟩ : ∃ T : Obj, T = .cells (x.cells 2 at_ id) 36 := ⟨_, rfl⟩
    have h2 := h.on ((Below.refl _ W).alloc (Nat.le_refl _) T)
    have hobj := fun o' => h2.upd (o' := o') (Below.refl _ _)
    rw [hT] at hobj
    clear h2 hT
    have hne : ((⟨W.heap.size, 0, none⟩ : Addr) = ⟨g, 0, none⟩) = False := by simp only [Addr.mk.injEq, eq_iff_iff, iff_false]; omega
    rw [← put_self h.heap]
    clear h
    simp only [Sc.obj, Lt.cells, hxe] at hobj ⊢
    go_enter Try.func30, Try.ntmps30
    go_wp2_with (first | (go_at_call 50; go_in) | (((with_reducible refine wp_region_fut_lit (by kernel_rfl) (by kernel_rfl) ?_)); (repeat (go_big_quiet_step ((first | fail)))); ((with_reducible refine wpQuiet_nil ?_)); rintro _ ⟨u, rfl⟩; (try (rw [Fut.put_self u (by first | assumption | (simp [go_sem]; done) | (simp [go_sem]; omega))]))))
    go_region
    all_goals go_wp2_with (first | (go_at_call 51; ((with_reducible refine (ask_is ⟨me, nodes, id, tried + 1, op, key, val, to, am, most, (at_ + 1) % nodes, old, 0, true, over, more, e⟩ w0 g n xs _ v (by repeat' (first | exact hobj _ | with_reducible refine ObjAt.fut_put ?_ _ | with_reducible refine ObjAt.drew_put ?_)) h0 h1).mono ?_)); rintro _ _ ⟨L, rfl, hL, ho⟩) | (((with_reducible refine wp_region_fut_lit (by kernel_rfl) (by kernel_rfl) ?_)); (repeat (go_big_quiet_step ((first | fail)))); ((with_reducible refine wpQuiet_nil ?_)); rintro _ ⟨u, rfl⟩; (try (rw [Fut.put_self u (by first | assumption | (simp [go_sem]; done) | (simp [go_sem]; omega))]))))
    all_goals go_ret2; exact ⟨_, rfl, hL, ho⟩
  · have hn1 : 0 ≤ x.tnode := by omega
    have hg := h.lt
    have hb := h.size
    obtain ⟨T, hT⟩ : ∃ T : Obj, T = .cells (x.cells 2 at_ id) 36 := ⟨_, rfl⟩
    have h2 := h.on ((Below.refl _ W).alloc (Nat.le_refl _) T)
    have hobj := fun o' => h2.upd (o' := o') (Below.refl _ _)
    rw [hT] at hobj
    clear h2 hT
    have hne : ((⟨W.heap.size, 0, none⟩ : Addr) = ⟨g, 0, none⟩) = False := by simp only [Addr.mk.injEq, eq_iff_iff, iff_false]; omega
    rw [← put_self h.heap]
    clear h
    simp only [Sc.obj, Lt.cells, hxe] at hobj ⊢
    go_enter Try.func30, Try.ntmps30
    go_wp2_with (first | (go_at_call 50; go_in) | (((with_reducible refine wp_region_fut_lit (by kernel_rfl) (by kernel_rfl) ?_)); (repeat (go_big_quiet_step ((first | fail)))); ((with_reducible refine wpQuiet_nil ?_)); rintro _ ⟨u, rfl⟩; (try (rw [Fut.put_self u (by first | assumption | (simp [go_sem]; done) | (simp [go_sem]; omega))]))))
    go_region
    all_goals go_wp2_with (first | (go_at_call 51; ((with_reducible refine (ask_is ⟨me, nodes, id, tried + 1, op, key, val, to, am, most, (at_ + 1) % nodes, old, 0, true, over, more, e⟩ w0 g n xs _ v (by repeat' (first | exact hobj _ | with_reducible refine ObjAt.fut_put ?_ _ | with_reducible refine ObjAt.drew_put ?_)) h0 h1).mono ?_)); rintro _ _ ⟨L, rfl, hL, ho⟩) | (((with_reducible refine wp_region_fut_lit (by kernel_rfl) (by kernel_rfl) ?_)); (repeat (go_big_quiet_step ((first | fail)))); ((with_reducible refine wpQuiet_nil ?_)); rintro _ ⟨u, rfl⟩; (try (rw [Fut.put_self u (by first | assumption | (simp [go_sem]; done) | (simp [go_sem]; omega))]))))
    all_goals go_ret2; exact ⟨_, rfl, hL, ho⟩
  · subst hn3
    have e1 : (x.tnode == x.tnode) = true := by simp
    have e2 : (x.tnode != x.tnode) = false := by simp
    obtain ⟨x0, x1, x2, x3, x4, x5, x6, x7, x8, x9, x10, tnode, x12, x13, x14, x15, x16, x17⟩ := x
    simp only at hn hn2 e1 e2 ha0 ha1 hxe h
    generalize hx : (⟨x0, x1, x2, x3, x4, x5, x6, x7, x8, x9, x10, tnode, x12, x13, x14, x15, x16, x17⟩ : Lt) = x at h ⊢
    have hg := h.lt
    have hb := h.size
    obtain ⟨T, hT⟩ : ∃ T : Obj, T = .cells (x.cells 2 tnode id) 36 := ⟨_, rfl⟩
    have h2 := h.on ((Below.refl _ W).alloc (Nat.le_refl _) T)
    have hobj := fun o' => h2.upd (o' := o') (Below.refl _ _)
    rw [hT] at hobj
    clear h2 hT
    have hne : ((⟨W.heap.size, 0, none⟩ : Addr) = ⟨g, 0, none⟩) = False := by simp only [Addr.mk.injEq, eq_iff_iff, iff_false]; omega
    rw [← put_self h.heap]
    clear h
    subst hx
    simp only [Sc.obj, Lt.cells, hxe] at hobj ⊢
    go_enter Try.func30, Try.ntmps30
    go_wp2_with (first | (go_at_call 50; go_in) | (((with_reducible refine wp_region_fut_lit (by kernel_rfl) (by kernel_rfl) ?_)); (repeat (go_big_quiet_step ((first | fail)))); ((with_reducible refine wpQuiet_nil ?_)); rintro _ ⟨u, rfl⟩; (try (rw [Fut.put_self u (by first | assumption | (simp [go_sem]; done) | (simp [go_sem]; omega))]))))
    go_region
    all_goals go_wp2_with (first | (go_at_call 51; ((with_reducible refine (ask_is ⟨me, nodes, id, tried + 1, op, key, val, to, am, most, (tnode + 1) % nodes, old, 0, true, over, more, e⟩ w0 g n xs _ v (by repeat' (first | exact hobj _ | with_reducible refine ObjAt.fut_put ?_ _ | with_reducible refine ObjAt.drew_put ?_)) h0 h1).mono ?_)); rintro _ _ ⟨L, rfl, hL, ho⟩) | (((with_reducible refine wp_region_fut_lit (by kernel_rfl) (by kernel_rfl) ?_)); (repeat (go_big_quiet_step ((first | fail)))); ((with_reducible refine wpQuiet_nil ?_)); rintro _ ⟨u, rfl⟩; (try (rw [Fut.put_self u (by first | assumption | (simp [go_sem]; done) | (simp [go_sem]; omega))]))))
    all_goals go_ret2; exact ⟨_, rfl, hL, ho⟩
end Go.Proofs.Ythgajbfgolcpkaa
