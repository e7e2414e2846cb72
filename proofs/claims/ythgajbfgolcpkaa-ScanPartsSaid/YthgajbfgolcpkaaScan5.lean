import Derived.Test.YthgajbfgolcpkaaScan4
/- Contracts of package scan: the rest. -/
namespace Go.Proofs.Ythgajbfgolcpkaa
open Go.RowKit
set_option maxRecDepth 100000 in
set_option maxHeartbeats 4000000 in
theorem got_else (s : Sc) (w0 : Base) (g n : Nat) (xs : List Value) (W : World) (v : Value) (h : ScanAt s w0 g n xs W v) (hon : s.on = true) (hw : s.waits = 0) (x : Lt) (hxe : x.te = 8) (ht : s.tried < 8) (ht0 : 0 ≤ s.tried) (hn1 : 0 ≤ x.tnode) (hn2 : x.tnode < s.nodes) (hn3 : (x.tnode == s.at_) = false) (hn3' : (x.tnode != s.at_) = true) (h0 : 0 ≤ s.id) (h1 : s.id < 1000000) :
    Calls Try.prog 30 #[.pointer (some ⟨g, 0, none⟩), .agg (x.cells 2 s.at_ s.id)] W fun en W' => ∃ L, en = .returned (.tuple #[.slice (some ⟨L, 0, none⟩) 1 1, .bool false]) ∧ Letter { s with tried := s.tried + 1, at_ := x.tnode, id := s.id + 1 } w0 L W' ∧ ScanAt { s with tried := s.tried + 1, at_ := x.tnode, id := s.id + 1 } w0 g n xs W' v := by
  cases s
  simp only at hon hw ht ht0 hn2 hn3 hn3' h0 h1
  subst hon hw
  rename_i me nodes id tried op key val to am most at_ old over more e
  have hg := h.lt
  have hb := h.size
  obtain ⟨T, hT⟩ : ∃ T : Obj, T = .cells (x.cells 2 at_ id) 36 := ⟨_, rfl⟩
  have h2 := h.on ((Below.refl _ W).alloc (Nat.le_refl _) T)
  have hobj := fun o' => h2.upd (o' := o') (Below.refl _ _)
  rw [hT] at hobj
  clear h2 hT
  have hne : ((⟨W.heap.size, 0, none⟩ : Addr) = ⟨g, 0, none⟩) = False := by simp only [Addr.mk.injEq, eq_iff_iff, iff_false]; omega
  rw [← put_self h.heap]
  clear h
  simp only [Sc.obj, Lt.cells, hxe] at hobj ⊢
  go_enter Try.func30, Try.ntmps30
  go_wp2_with (first | (go_at_call 50; go_in) | (go_at_call 51; ((with_reducible refine (ask_is ⟨me, nodes, id, tried + 1, op, key, val, to, am, most, x.tnode, old, 0, true, over, more, e⟩ w0 g n xs _ v (by repeat' (first | exact hobj _ | with_reducible refine ObjAt.fut_put ?_ _ | with_reducible refine ObjAt.drew_put ?_)) h0 h1).mono ?_)); rintro _ _ ⟨L, rfl, hL, ho⟩) | (((with_reducible refine wp_region_fut_lit (by kernel_rfl) (by kernel_rfl) ?_)); (repeat (go_big_quiet_step ((first | fail)))); ((with_reducible refine wpQuiet_nil ?_)); rintro _ ⟨u, rfl⟩; (try (rw [Fut.put_self u (by first | assumption | (simp [go_sem]; done) | (simp [go_sem]; omega))]))))
  go_ret2
  exact ⟨_, rfl, hL, ho⟩
set_option maxRecDepth 100000 in
set_option maxHeartbeats 4000000 in
theorem tick_late (s : Sc) (w0 : Base) (g n : Nat) (xs : List Value) (W : World) (v : Value) (h : ScanAt s w0 g n xs W v) (hon : s.on = true) (ho : 29 ≤ s.old) (ho2 : s.old < 1000000) :
    Calls Try.prog 33 #[.pointer (some ⟨g, 0, none⟩)] W fun en W' => en = .returned (.tuple #[.slice none 0 0, .bool true]) ∧ ScanAt { s with on := false, over := true, waits := 0, old := s.old + 1, e := 9, more := false } w0 g 0 [] W' (.slice none 0 0) := by
  cases s
  simp only at hon ho ho2
  subst hon
  have hg := h.lt
  have hb := h.size
  have hobj := fun o' => h.upd (o' := o') (Below.refl _ _)
  rw [← put_self h.heap]
  clear h
  simp only [Sc.obj] at hobj ⊢
  rename_i me nodes id tried op key val to am most at_ old waits over more e
  go_enter Try.func33, Try.ntmps33
  go_wp2_with (first | (go_at_call 53; ((with_reducible refine (ends_bad ⟨me, nodes, id, tried, op, key, val, to, am, most, at_, old + 1, waits, true, over, more, e⟩ w0 g n xs _ v (by repeat' (first | exact hobj _ | with_reducible refine ObjAt.fut_put ?_ _ | with_reducible refine ObjAt.drew_put ?_)) 9 (by decide) (by decide)).mono ?_)); rintro _ _ ⟨rfl, ho⟩) | (((with_reducible refine wp_region_fut_lit (by kernel_rfl) (by kernel_rfl) ?_)); (repeat (go_big_quiet_step ((first | fail)))); ((with_reducible refine wpQuiet_nil ?_)); rintro _ ⟨u, rfl⟩; (try (rw [Fut.put_self u (by first | assumption | (simp [go_sem]; done) | (simp [go_sem]; omega))]))))
  go_ret2
  exact ⟨rfl, ho⟩
set_option maxRecDepth 100000 in
set_option maxHeartbeats 4000000 in
theorem tick_idle (s : Sc) (w0 : Base) (g n : Nat) (xs : List Value) (W : World) (v : Value) (h : ScanAt s w0 g n xs W v) (hon : s.on = true) (hw : s.waits = 0) (ho : s.old < 29) (ho2 : 0 ≤ s.old) :
    Calls Try.prog 33 #[.pointer (some ⟨g, 0, none⟩)] W fun en W' => en = .returned (.tuple #[.slice none 0 0, .bool false]) ∧ ScanAt { s with old := s.old + 1 } w0 g n xs W' v := by
  cases s
  simp only at hon ho ho2 hw
  subst hon hw
  have hg := h.lt
  have hb := h.size
  have hobj := fun o' => h.upd (o' := o') (Below.refl _ _)
  rw [← put_self h.heap]
  clear h
  simp only [Sc.obj] at hobj ⊢
  go_enter Try.func33, Try.ntmps33
  go_wp2_with (first | (((with_reducible refine wp_region_fut_lit (by kernel_rfl) (by kernel_rfl) ?_)); (repeat (go_big_quiet_step ((first | fail)))); ((with_reducible refine wpQuiet_nil ?_)); rintro _ ⟨u, rfl⟩; (try (rw [Fut.put_self u (by first | assumption | (simp [go_sem]; done) | (simp [go_sem]; omega))]))))
  go_ret2
  exact ⟨rfl, (by repeat' (first | exact hobj _ | with_reducible refine ObjAt.fut_put ?_ _ | with_reducible refine ObjAt.drew_put ?_))⟩
set_option maxRecDepth 100000 in
set_option maxHeartbeats 4000000 in
theorem tick_waits (s : Sc) (w0 : Base) (g n : Nat) (xs : List Value) (W : World) (v : Value) (h : ScanAt s w0 g n xs W v) (hon : s.on = true) (hw : s.waits = 2) (ho : s.old < 29) (ho2 : 0 ≤ s.old) :
    Calls Try.prog 33 #[.pointer (some ⟨g, 0, none⟩)] W fun en W' => en = .returned (.tuple #[.slice none 0 0, .bool false]) ∧ ScanAt { s with old := s.old + 1, waits := 1 } w0 g n xs W' v := by
  cases s
  simp only at hon ho ho2 hw
  subst hon hw
  have hg := h.lt
  have hb := h.size
  have hobj := fun o' => h.upd (o' := o') (Below.refl _ _)
  rw [← put_self h.heap]
  clear h
  simp only [Sc.obj] at hobj ⊢
  go_enter Try.func33, Try.ntmps33
  go_wp2_with (first | (((with_reducible refine wp_region_fut_lit (by kernel_rfl) (by kernel_rfl) ?_)); (repeat (go_big_quiet_step ((first | fail)))); ((with_reducible refine wpQuiet_nil ?_)); rintro _ ⟨u, rfl⟩; (try (rw [Fut.put_self u (by first | assumption | (simp [go_sem]; done) | (simp [go_sem]; omega))]))))
  go_ret2
  exact ⟨rfl, (by repeat' (first | exact hobj _ | with_reducible refine ObjAt.fut_put ?_ _ | with_reducible refine ObjAt.drew_put ?_))⟩
set_option maxRecDepth 100000 in
set_option maxHeartbeats 4000000 in
theorem tick_asks (s : Sc) (w0 : Base) (g n : Nat) (xs : List Value) (W : World) (v : Value) (h : ScanAt s w0 g n xs W v) (hon : s.on = true) (hw : s.waits = 1) (ho : s.old < 29) (ho2 : 0 ≤ s.old) (h0 : 0 ≤ s.id) (h1 : s.id < 1000000) :
    Calls Try.prog 33 #[.pointer (some ⟨g, 0, none⟩)] W fun en W' => ∃ L, en = .returned (.tuple #[.slice (some ⟨L, 0, none⟩) 1 1, .bool false]) ∧ Letter { s with old := s.old + 1, waits := 0, id := s.id + 1 } w0 L W' ∧ ScanAt { s with old := s.old + 1, waits := 0, id := s.id + 1 } w0 g n xs W' v := by
  cases s
  simp only at hon ho ho2 hw h0 h1
  subst hon hw
  have hg := h.lt
  have hb := h.size
  have hobj := fun o' => h.upd (o' := o') (Below.refl _ _)
  rw [← put_self h.heap]
  clear h
  simp only [Sc.obj] at hobj ⊢
  rename_i me nodes id tried op key val to am most at_ old over more e
  go_enter Try.func33, Try.ntmps33
  go_wp2_with (first | (go_at_call 51; ((with_reducible refine (ask_is ⟨me, nodes, id, tried, op, key, val, to, am, most, at_, old + 1, 0, true, over, more, e⟩ w0 g n xs _ v (by repeat' (first | exact hobj _ | with_reducible refine ObjAt.fut_put ?_ _ | with_reducible refine ObjAt.drew_put ?_)) h0 h1).mono ?_)); rintro _ _ ⟨L, rfl, hL, ho⟩) | (((with_reducible refine wp_region_fut_lit (by kernel_rfl) (by kernel_rfl) ?_)); (repeat (go_big_quiet_step ((first | fail)))); ((with_reducible refine wpQuiet_nil ?_)); rintro _ ⟨u, rfl⟩; (try (rw [Fut.put_self u (by first | assumption | (simp [go_sem]; done) | (simp [go_sem]; omega))]))))
  go_ret2
  exact ⟨_, rfl, hL, ho⟩
set_option maxRecDepth 100000 in
set_option maxHeartbeats 4000000 in
theorem start_is (s : Sc) (w0 : Base) (g n : Nat) (xs : List Value) (W : World) (v : Value) (h : ScanAt s w0 g n xs W v) (hon : s.on = false) (from_ to1 : ByteArray) (many at1 : Int) (k1 : from_.size ≤ 16) (k2 : to1.size ≤ 16) (k3 : 1 ≤ many) (k4 : many ≤ 40) (k5 : 0 ≤ at1) (k6 : at1 < s.nodes) (h0 : 0 ≤ s.id) (h1 : s.id < 1000000) :
    Calls Try.prog 29 #[.pointer (some ⟨g, 0, none⟩), .string from_, .string to1, .int .i64 many, .int .i64 at1] W fun en W' => ∃ L, en = .returned (.tuple #[.slice (some ⟨L, 0, none⟩) 1 1, .bool true]) ∧ Letter ⟨s.me, s.nodes, s.id + 1, 1, 4, from_, ⟨#[]⟩, to1, many, many, at1, 0, 0, true, false, false, 0⟩ w0 L W' ∧ ScanAt ⟨s.me, s.nodes, s.id + 1, 1, 4, from_, ⟨#[]⟩, to1, many, many, at1, 0, 0, true, false, false, 0⟩ w0 g 0 [] W' (.slice none 0 0) := by
  cases s
  simp only at hon h0 h1 k6
  subst hon
  have hg := h.lt
  have hb := h.size
  have hobj := fun o' => h.nil (o' := o') (Below.refl _ _)
  rw [← put_self h.heap]
  clear h
  simp only [Sc.obj] at hobj ⊢
  rename_i me nodes id tried op key val to am most at_ old waits over more e
  go_enter Try.func29, Try.ntmps29
  go_wp2_with (first | (go_at_call 50; go_in) | (go_at_call 51; ((with_reducible refine (ask_is ⟨me, nodes, id, 1, 4, from_, ⟨#[]⟩, to1, many, many, at1, 0, 0, true, false, false, 0⟩ w0 g 0 [] _ (.slice none 0 0) (by repeat' (first | exact hobj _ | with_reducible refine ObjAt.fut_put ?_ _ | with_reducible refine ObjAt.drew_put ?_)) h0 h1).mono ?_)); rintro _ _ ⟨L, rfl, hL, ho⟩) | (((with_reducible refine wp_region_fut_lit (by kernel_rfl) (by kernel_rfl) ?_)); (repeat (go_big_quiet_step ((first | fail)))); ((with_reducible refine wpQuiet_nil ?_)); rintro _ ⟨u, rfl⟩; (try (rw [Fut.put_self u (by first | assumption | (simp [go_sem]; done) | (simp [go_sem]; omega))]))))
  go_ret2
  exact ⟨_, rfl, hL, ho⟩
set_option maxRecDepth 100000 in
theorem new_is (me nodes : Int) (k1 : 1 ≤ nodes) (k2 : nodes ≤ 16) (w0 : Base) (hk : Hid (∀ k, w0.keep k = none)) (W : World) (hb : Below w0.heap.size w0.toWorld W) :
    Calls Try.prog 28 #[.int .i64 me, .int .i64 nodes] W fun en W' => ∃ g, en = .returned (.pointer (some ⟨g, 0, none⟩)) ∧ ScanAt ⟨me, nodes, 30000, 0, 0, ⟨#[]⟩, ⟨#[]⟩, ⟨#[]⟩, 0, 0, 0, 0, 0, false, false, false, 0⟩ w0 g 0 [] W' (.slice none 0 0) := by
  have hs := hb.size
  go_enter Try.func28, Try.ntmps28
  go_wp2_with (first | (((with_reducible refine wp_region_fut_lit (by kernel_rfl) (by kernel_rfl) ?_)); (repeat (go_big_quiet_step ((first | fail)))); ((with_reducible refine wpQuiet_nil ?_)); rintro _ ⟨u, rfl⟩; (try (rw [Fut.put_self u (by first | assumption | (simp [go_sem]; done) | (simp [go_sem]; omega))]))))
  go_ret

  exact ⟨_, rfl, (by repeat' (first | exact Below.refl _ _ | with_reducible assumption | omega | with_reducible refine below_put_fut ?_ ?_ _ | with_reducible refine below_to_put ?_ | with_reducible refine Below.alloc ?_ ?_ _ | with_reducible refine Below.fut ?_ ?_ _ | with_reducible refine Below.drew ?_ | with_reducible refine Below.setCell ?_ ?_ _ | with_reducible refine Below.atPut ?_ ?_ _ | (simp [go_sem]; done) | (simp [go_sem]; omega))), (by repeat' (first | rfl | assumption | (with_reducible refine (heap_drew_eq _ _).trans ?_) | (refine (Fut.heap _ _ ?_).trans ?_ ; focus (first | assumption | omega | (simp [go_sem]; done) | (simp [go_sem]; omega))) | (refine (heap_put_at _ _ _ ?_).trans ?_ ; focus (first | assumption | omega | (simp [go_sem]; done) | (simp [go_sem]; omega))) | (refine (heap_put_other _ _ _ _ ?_).trans ?_ ; focus (first | assumption | omega | (simp [go_sem]; done) | (simp [go_sem]; omega))) | (refine (heap_alloc_other _ _ _ ?_).trans ?_ ; focus (first | assumption | omega | (simp [go_sem]; done) | (simp [go_sem]; omega))) | (refine (heap_alloc_at _ _ _ ?_).trans ?_ ; focus (first | assumption | omega | (simp [go_sem]; done) | (simp [go_sem]; omega))) | (simp [go_sem]; done) | (simp [go_sem]; omega))), World.ownsRow_nil _ _ _ _, by first | assumption | (simp [go_sem]; omega), by simp [Value.ownBlock], fun k q e => by rw [hk.out k] at e; cases e⟩
set_option maxRecDepth 100000 in
theorem clone_nil (W : World) : Calls Try.prog 54 #[.slice none 0 0] W (Makes (.slice none 0 0) W) := by
  have q := fun (w : World) (a : Option Addr) (n c n' c' : Nat) => Lib.run_eql_slice_nil (P := Try.prog) w 29 _ a n c n' c' Try.underlying29
  go_enter Try.func54, Try.ntmps54
  go_wp2_with (first | (((with_reducible refine wp_region_fut_lit (by kernel_rfl) (by kernel_rfl) ?_)); (repeat (go_big_quiet_step ((first | fail)))); ((with_reducible refine wpQuiet_nil ?_)); rintro _ ⟨u, rfl⟩; (try (rw [Fut.put_self u (by first | assumption | (simp [go_sem]; done) | (simp [go_sem]; omega))]))))
  go_ret; exact .mk (by first | rfl | (simp; done) | (simp; omega)) (by repeat' (first | exact Below.refl _ _ | with_reducible assumption | omega | with_reducible refine below_put_fut ?_ ?_ _ | with_reducible refine below_to_put ?_ | with_reducible refine Below.alloc ?_ ?_ _ | with_reducible refine Below.fut ?_ ?_ _ | with_reducible refine Below.drew ?_ | with_reducible refine Below.setCell ?_ ?_ _ | with_reducible refine Below.atPut ?_ ?_ _ | (simp [go_sem]; done) | (simp [go_sem]; omega)))
set_option maxRecDepth 100000 in
set_option maxHeartbeats 4000000 in
theorem clone_is (base : Nat) (v : Value) (n : Nat) (xs : List Value) (W : World) (ho : W.ownsRow base 53 2 v n xs) (hn : n ≤ 1000) (h1 : ∀ u ∈ xs, u.oneCell' = true) (B : Nat) (hB0 : B ≤ W.heap.size) :
    Calls Try.prog 54 #[v] W fun en W' => ∃ cv, en = .returned cv ∧ Below W.heap.size W W' ∧ W'.ownsRow B 53 2 cv n xs := by
  rcases ho.2 with ⟨rfl, rfl⟩ | ⟨r, cap, cur, rfl, hr⟩
  · obtain rfl : xs = [] := List.eq_nil_of_length_eq_zero (by rw [ho.1])
    refine (clone_nil W).mono ?_
    rintro _ _ ⟨rfl, u, rfl⟩
    exact ⟨_, rfl, u.below, World.ownsRow_nil _ _ _ _⟩
  · obtain ⟨i0, hi0, hz0, hz1, hz2⟩ := info_parts item_info
    have hm := World.ownsRow_made W #[] 0 (base := B) (e := 53) (size := 2) hB0 (by unfold maxLen; omega) (by simp)
    have hl : r < W.heap.size := (Array.getElem?_eq_some_iff.1 hr.2.1).1
    have hc : ∀ j u, xs[j]? = some u → (W.alloc (.cells #[] 53)).cell? ((⟨r, 0, none⟩ : Addr).add j) = some u := by
      intro j u hu
      have := ho.cells (g := r) rfl j u hu
      rw [((Below.refl _ W).alloc (Nat.le_refl _) _).cell (World.block_lt_of_cell? _ _ this)]; exact this
    obtain ⟨v', w', hrun, hown, hgrow, _, _⟩ := run_append_own_at (P := Try.prog) _ B 29 29 53 i0 _ 2 32 Try.underlying29 hi0 hz0 hz1 hz2 rfl (by omega) _ 0 [] hm ⟨r, 0, none⟩ n cap xs ho.1 hc h1 (by unfold maxLen; omega) (by omega) (by simp; omega)
    have hB : Below W.heap.size W w' := ((Below.refl _ W).alloc (Nat.le_refl _) _).grown hgrow (by simp) (by intro k hk; simp [Value.ownBlock] at hk; omega)
    obtain ⟨ao, cc, rfl⟩ := owns_slice hown
    have q := fun (w : World) (a : Option Addr) (n c n' c' : Nat) => Lib.run_eql_slice_nil (P := Try.prog) w 29 _ a n c n' c' Try.underlying29
    go_enter Try.func54, Try.ntmps54
    go_wp2_with (first | (at_builtin; refine wpList_append_run (by rfl) _ _ _ (by rfl) _ _ (by rfl) (by rfl) _ _ hrun ?_))
    go_ret
    exact ⟨_, rfl, hB, by simpa using hown⟩
end Go.Proofs.Ythgajbfgolcpkaa
