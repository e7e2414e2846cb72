import Derived.Test.YthgajbfgolcpkaaScan3
/- Contracts of package scan: Got. -/
namespace Go.Proofs.Ythgajbfgolcpkaa
open Go.RowKit
/-- A letter that tells. -/
structure Lt where
  to : Int
  op : Int
  akey : ByteArray
  aval : ByteArray
  ato : ByteArray
  amost : Int
  te : Int
  tv : ByteArray
  sv : Value
  tmore : Bool
  tnext : ByteArray
  tnode : Int
  a1 : Int
  a2 : Int
  ep : Int
  items : Value
  n : Int
  node : Int
@[reducible] def Lt.cells (x : Lt) (kind fr id : Int) : Array Value := #[.int .i64 kind, .int .i64 fr, .int .i64 x.to, .int .i64 id, .int .i64 x.op, .string x.akey, .string x.aval, .string x.ato, .int .i64 x.amost, .int .i64 x.te, .string x.tv, x.sv, .bool x.tmore, .string x.tnext, .int .i64 x.tnode, .int .u64 x.a1, .int .u64 x.a2, .int .i64 x.ep, x.items, .int .i64 x.n, .int .i64 x.node]
@[reducible] def Lt.told (x : Lt) : Value := .agg #[.int .i64 x.te, .string x.tv, x.sv, .bool x.tmore, .string x.tnext, .int .i64 x.tnode]
set_option maxRecDepth 100000 in
set_option maxHeartbeats 4000000 in
theorem got_told (s : Sc) (w0 : Base) (g n : Nat) (xs : List Value) (W : World) (v : Value) (h : ScanAt s w0 g n xs W v) (hon : s.on = true) (hw : s.waits = 0) (x : Lt) (he : x.te = 0)
    (Q : Ending → World → Prop) (hQ : ∀ e w, Q e w → ∃ a b, e = .returned (.tuple #[a, b])) (hp : ∀ W', Below W.heap.size W W' → Calls Try.prog 52 #[.pointer (some ⟨g, 0, none⟩), x.told] W' Q) :
    Calls Try.prog 30 #[.pointer (some ⟨g, 0, none⟩), .agg (x.cells 2 s.at_ s.id)] W Q := by
  have hg := h.lt
  have hb := h.size
  have hp2 : ∀ W', Below W.heap.size (put W g (s.obj v)) W' → Calls Try.prog 52 #[.pointer (some ⟨g, 0, none⟩), x.told] W' Q := fun W' hb => hp W' (by rw [put_self h.heap] at hb; exact hb)
  have hne : ((⟨W.heap.size, 0, none⟩ : Addr) = ⟨g, 0, none⟩) = False := by simp only [Addr.mk.injEq, eq_iff_iff, iff_false]; omega
  rw [← put_self h.heap]
  clear hp h
  simp only [Sc.obj, Lt.cells, Lt.told, hon, hw, he] at hp2 ⊢
  clear hon hw he
  go_enter Try.func30, Try.ntmps30
  go_wp2_with (first | (go_at_call 52; ((with_reducible refine (hp2 _ (by repeat' (first | exact Below.refl _ _ | with_reducible assumption | omega | with_reducible refine below_put_fut ?_ ?_ _ | with_reducible refine below_to_put ?_ | with_reducible refine Below.alloc ?_ ?_ _ | with_reducible refine Below.fut ?_ ?_ _ | with_reducible refine Below.drew ?_ | with_reducible refine Below.setCell ?_ ?_ _ | with_reducible refine Below.atPut ?_ ?_ _ | (simp [go_sem]; done) | (simp [go_sem]; omega)))).mono ?_)); rintro _ _ hq; obtain ⟨a, b, rfl⟩ := hQ _ _ hq) | (((with_reducible refine wp_region_fut_lit (by kernel_rfl) (by kernel_rfl) ?_)); (repeat (go_big_quiet_step ((first | fail)))); ((with_reducible refine wpQuiet_nil ?_)); rintro _ ⟨u, rfl⟩; (try (rw [Fut.put_self u (by first | assumption | (simp [go_sem]; done) | (simp [go_sem]; omega))]))))
  exact hq
set_option maxRecDepth 100000 in
set_option maxHeartbeats 4000000 in
theorem got_bad (s : Sc) (w0 : Base) (g n : Nat) (xs : List Value) (W : World) (v : Value) (h : ScanAt s w0 g n xs W v) (hon : s.on = true) (hw : s.waits = 0) (x : Lt) (e : Int) (hxe : x.te = e) (he : (e == 0) = false) (he' : (e != 0) = true) (he7 : (e == 7) = false) (he7' : (e != 7) = true) (he8 : (e == 8) = false) (he8' : (e != 8) = true) :
    Calls Try.prog 30 #[.pointer (some ⟨g, 0, none⟩), .agg (x.cells 2 s.at_ s.id)] W fun en W' => en = .returned (.tuple #[.slice none 0 0, .bool true]) ∧ ScanAt { s with on := false, over := true, waits := 0, e := e, more := false } w0 g 0 [] W' (.slice none 0 0) := by
  have hg := h.lt
  have hb := h.size
  obtain ⟨T, hT⟩ : ∃ T : Obj, T = .cells (x.cells 2 s.at_ s.id) 36 := ⟨_, rfl⟩
  have h2 := h.on ((Below.refl _ W).alloc (Nat.le_refl _) T)
  have hobj := fun o' => h2.upd (o' := o') (Below.refl _ _)
  rw [hT] at hobj
  clear h2 hT
  have hne : ((⟨W.heap.size, 0, none⟩ : Addr) = ⟨g, 0, none⟩) = False := by simp only [Addr.mk.injEq, eq_iff_iff, iff_false]; omega
  rw [← put_self h.heap]
  clear h
  simp only [Sc.obj, Lt.cells, hon, hw, hxe] at hobj ⊢
  go_enter Try.func30, Try.ntmps30
  go_wp2_with (first | (go_at_call 53; ((with_reducible refine (ends_bad { s with on := true, waits := 0 } w0 g n xs _ v (by repeat' (first | exact hobj _ | with_reducible refine ObjAt.fut_put ?_ _ | with_reducible refine ObjAt.drew_put ?_)) e he he').mono ?_)); rintro _ _ ⟨rfl, ho⟩) | (((with_reducible refine wp_region_fut_lit (by kernel_rfl) (by kernel_rfl) ?_)); (repeat (go_big_quiet_step ((first | fail)))); ((with_reducible refine wpQuiet_nil ?_)); rintro _ ⟨u, rfl⟩; (try (rw [Fut.put_self u (by first | assumption | (simp [go_sem]; done) | (simp [go_sem]; omega))]))))
  go_ret2
  exact ⟨rfl, ho⟩
set_option maxRecDepth 100000 in
set_option maxHeartbeats 4000000 in
theorem got_late (s : Sc) (w0 : Base) (g n : Nat) (xs : List Value) (W : World) (v : Value) (h : ScanAt s w0 g n xs W v) (hon : s.on = true) (hw : s.waits = 0) (x : Lt) (e : Int) (hxe : x.te = e) (he : e = 7 ∨ e = 8) (ht : 8 ≤ s.tried) :
    Calls Try.prog 30 #[.pointer (some ⟨g, 0, none⟩), .agg (x.cells 2 s.at_ s.id)] W fun en W' => en = .returned (.tuple #[.slice none 0 0, .bool true]) ∧ ScanAt { s with on := false, over := true, waits := 0, e := 9, more := false } w0 g 0 [] W' (.slice none 0 0) := by
  rcases he with rfl | rfl
  all_goals
    have hg := h.lt
    have hb := h.size
    obtain ⟨T, hT⟩ : ∃ T : Obj, T = .cells (x.cells 2 s.at_ s.id) 36 := ⟨_, rfl⟩
    have h2 := h.on ((Below.refl _ W).alloc (Nat.le_refl _) T)
    have hobj := fun o' => h2.upd (o' := o') (Below.refl _ _)
    rw [hT] at hobj
    clear h2 hT
    have hne : ((⟨W.heap.size, 0, none⟩ : Addr) = ⟨g, 0, none⟩) = False := by simp only [Addr.mk.injEq, eq_iff_iff, iff_false]; omega
    rw [← put_self h.heap]
    clear h
    simp only [Sc.obj, Lt.cells, hon, hw, hxe] at hobj ⊢
    go_enter Try.func30, Try.ntmps30
    go_wp2_with (first | (go_at_call 53; ((with_reducible refine (ends_bad { s with on := true, waits := 0 } w0 g n xs _ v (by repeat' (first | exact hobj _ | with_reducible refine ObjAt.fut_put ?_ _ | with_reducible refine ObjAt.drew_put ?_)) 9 (by decide) (by decide)).mono ?_)); rintro _ _ ⟨rfl, ho⟩) | (((with_reducible refine wp_region_fut_lit (by kernel_rfl) (by kernel_rfl) ?_)); (repeat (go_big_quiet_step ((first | fail)))); ((with_reducible refine wpQuiet_nil ?_)); rintro _ ⟨u, rfl⟩; (try (rw [Fut.put_self u (by first | assumption | (simp [go_sem]; done) | (simp [go_sem]; omega))]))))
    go_ret2
    exact ⟨rfl, ho⟩
set_option maxRecDepth 100000 in
set_option maxHeartbeats 4000000 in
theorem got_busy (s : Sc) (w0 : Base) (g n : Nat) (xs : List Value) (W : World) (v : Value) (h : ScanAt s w0 g n xs W v) (hon : s.on = true) (hw : s.waits = 0) (x : Lt) (hxe : x.te = 7) (ht : s.tried < 8) (ht0 : 0 ≤ s.tried) :
    Calls Try.prog 30 #[.pointer (some ⟨g, 0, none⟩), .agg (x.cells 2 s.at_ s.id)] W fun en W' => en = .returned (.tuple #[.slice none 0 0, .bool false]) ∧ ScanAt { s with tried := s.tried + 1, waits := 2 } w0 g n xs W' v := by
  have hg := h.lt
  have hb := h.size
  obtain ⟨T, hT⟩ : ∃ T : Obj, T = .cells (x.cells 2 s.at_ s.id) 36 := ⟨_, rfl⟩
  have h2 := h.on ((Below.refl _ W).alloc (Nat.le_refl _) T)
  have hobj := fun o' => h2.upd (o' := o') (Below.refl _ _)
  rw [hT] at hobj
  clear h2 hT
  have hne : ((⟨W.heap.size, 0, none⟩ : Addr) = ⟨g, 0, none⟩) = False := by simp only [Addr.mk.injEq, eq_iff_iff, iff_false]; omega
  rw [← put_self h.heap]
  clear h
  simp only [Sc.obj, Lt.cells, hon, hw, hxe] at hobj ⊢
  go_enter Try.func30, Try.ntmps30
  go_wp2_with (first | (((with_reducible refine wp_region_fut_lit (by kernel_rfl) (by kernel_rfl) ?_)); (repeat (go_big_quiet_step ((first | fail)))); ((with_reducible refine wpQuiet_nil ?_)); rintro _ ⟨u, rfl⟩; (try (rw [Fut.put_self u (by first | assumption | (simp [go_sem]; done) | (simp [go_sem]; omega))]))))
  go_ret2
  exact ⟨rfl, (by repeat' (first | exact hobj _ | with_reducible refine ObjAt.fut_put ?_ _ | with_reducible refine ObjAt.drew_put ?_))⟩
set_option maxRecDepth 100000 in
set_option maxHeartbeats 4000000 in
theorem got_waits (s : Sc) (w0 : Base) (g n : Nat) (xs : List Value) (W : World) (v : Value) (h : ScanAt s w0 g n xs W v) (hon : s.on = true) (hw : 0 < s.waits) (x : Lt) (k f i : Int) :
    Calls Try.prog 30 #[.pointer (some ⟨g, 0, none⟩), .agg (x.cells k f i)] W fun en W' => en = .returned (.tuple #[.slice none 0 0, .bool false]) ∧ ScanAt s w0 g n xs W' v := by
  cases s
  simp only at hon hw
  subst hon
  have hg := h.lt
  have hb := h.size
  obtain ⟨T, hT⟩ : ∃ T : Obj, T = .cells (x.cells k f i) 36 := ⟨_, rfl⟩
  have h2 := h.on ((Below.refl _ W).alloc (Nat.le_refl _) T)
  have hobj := fun o' => h2.upd (o' := o') (Below.refl _ _)
  rw [hT] at hobj
  clear h2 hT
  have hne : ((⟨W.heap.size, 0, none⟩ : Addr) = ⟨g, 0, none⟩) = False := by simp only [Addr.mk.injEq, eq_iff_iff, iff_false]; omega
  rw [← put_self h.heap]
  clear h
  simp only [Sc.obj, Lt.cells] at hobj ⊢
  go_enter Try.func30, Try.ntmps30
  go_wp2_with (first | (((with_reducible refine wp_region_fut_lit (by kernel_rfl) (by kernel_rfl) ?_)); (repeat (go_big_quiet_step ((first | fail)))); ((with_reducible refine wpQuiet_nil ?_)); rintro _ ⟨u, rfl⟩; (try (rw [Fut.put_self u (by first | assumption | (simp [go_sem]; done) | (simp [go_sem]; omega))]))))
  go_ret2
  exact ⟨rfl, (by repeat' (first | exact hobj _ | with_reducible refine ObjAt.fut_put ?_ _ | with_reducible refine ObjAt.drew_put ?_))⟩
end Go.Proofs.Ythgajbfgolcpkaa
