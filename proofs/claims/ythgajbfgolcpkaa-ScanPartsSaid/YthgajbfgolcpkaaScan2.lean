import Derived.Test.YthgajbfgolcpkaaSt
/- Contracts of package scan. -/
namespace Go.Proofs.Ythgajbfgolcpkaa
open Go.RowKit
theorem item_info : (Try.prog.info? 53).map (fun i => (i.zero, i.size, i.bytes)) = some (some (.agg #[.string ⟨#[]⟩, .string ⟨#[]⟩]), 2, 32) := by kernel_rfl
/-- A scan, but its items. -/
structure Sc where
  me : Int
  nodes : Int
  id : Int
  tried : Int
  op : Int
  key : ByteArray
  val : ByteArray
  to : ByteArray
  am : Int
  most : Int
  at_ : Int
  old : Int
  waits : Int
  on : Bool
  over : Bool
  more : Bool
  e : Int
@[reducible] def Sc.obj (s : Sc) (v : Value) : Obj := .cells #[.int .i64 s.me, .int .i64 s.nodes, .int .i64 s.id, .int .i64 s.tried, .int .i64 s.op, .string s.key, .string s.val, .string s.to, .int .i64 s.am, .int .i64 s.most, .int .i64 s.at_, .int .i64 s.old, .int .i64 s.waits, .bool s.on, .bool s.over, v, .bool s.more, .int .i64 s.e] 95
/-- The letter that asks. -/
@[reducible] def Sc.letter (s : Sc) : Obj := .cells #[.int .i64 1, .int .i64 s.me, .int .i64 s.at_, .int .i64 s.id, .int .i64 s.op, .string s.key, .string s.val, .string s.to, .int .i64 s.am, .int .i64 0, .string ⟨#[]⟩, .slice none 0 0, .bool false, .string ⟨#[]⟩, .int .i64 0, .int .u64 0, .int .u64 0, .int .i64 0, .slice none 0 0, .int .i64 0, .int .i64 0] 36
/-- Block g, made behind w0, is the scan s with n items xs. -/
abbrev ScanAt (s : Sc) (w0 : Base) (g n : Nat) (xs : List Value) (W : World) (v : Value) : Prop := ObjAt (s.obj v) 53 2 w0 g n xs W v
structure Letter (s : Sc) (w0 : Base) (L : Nat) (W : World) : Prop where
  heap : W.heap[L]? = some s.letter
  base : w0.heap.size ≤ L
theorem ends_ok (s : Sc) (w0 : Base) (g n : Nat) (xs : List Value) (W : World) (v : Value) (h : ScanAt s w0 g n xs W v) :
    Calls Try.prog 53 #[.pointer (some ⟨g, 0, none⟩), .int .i64 0] W fun en W' => en = .returned (.tuple #[.slice none 0 0, .bool true]) ∧ ScanAt { s with on := false, over := true, waits := 0, e := 0 } w0 g n xs W' v := by
  have hg := h.lt
  rw [← put_self h.heap]
  simp only [Sc.obj]
  go_enter Try.func53, Try.ntmps53
  go_wp2_with (first | (((with_reducible refine wp_region_fut_lit (by kernel_rfl) (by kernel_rfl) ?_)); (repeat (go_big_quiet_step ((first | fail)))); ((with_reducible refine wpQuiet_nil ?_)); rintro _ ⟨u, rfl⟩; (try (rw [Fut.put_self u (by first | assumption | (simp [go_sem]; done) | (simp [go_sem]; omega))]))))
  go_ret2
  exact ⟨rfl, h.upd (by repeat' (first | exact Below.refl _ _ | with_reducible assumption | omega | with_reducible refine below_put_fut ?_ ?_ _ | with_reducible refine below_to_put ?_ | with_reducible refine Below.alloc ?_ ?_ _ | with_reducible refine Below.fut ?_ ?_ _ | with_reducible refine Below.drew ?_ | with_reducible refine Below.setCell ?_ ?_ _ | with_reducible refine Below.atPut ?_ ?_ _ | (simp [go_sem]; done) | (simp [go_sem]; omega)))⟩
theorem ends_bad (s : Sc) (w0 : Base) (g n : Nat) (xs : List Value) (W : World) (v : Value) (h : ScanAt s w0 g n xs W v) (e : Int) (he : (e == 0) = false) (he' : (e != 0) = true) :
    Calls Try.prog 53 #[.pointer (some ⟨g, 0, none⟩), .int .i64 e] W fun en W' => en = .returned (.tuple #[.slice none 0 0, .bool true]) ∧ ScanAt { s with on := false, over := true, waits := 0, e := e, more := false } w0 g 0 [] W' (.slice none 0 0) := by
  have hg := h.lt
  rw [← put_self h.heap]
  simp only [Sc.obj]
  go_enter Try.func53, Try.ntmps53
  go_wp2_with (first | (((with_reducible refine wp_region_fut_lit (by kernel_rfl) (by kernel_rfl) ?_)); (repeat (go_big_quiet_step ((first | fail)))); ((with_reducible refine wpQuiet_nil ?_)); rintro _ ⟨u, rfl⟩; (try (rw [Fut.put_self u (by first | assumption | (simp [go_sem]; done) | (simp [go_sem]; omega))]))))
  go_ret2
  exact ⟨rfl, h.nil (by repeat' (first | exact Below.refl _ _ | with_reducible assumption | omega | with_reducible refine below_put_fut ?_ ?_ _ | with_reducible refine below_to_put ?_ | with_reducible refine Below.alloc ?_ ?_ _ | with_reducible refine Below.fut ?_ ?_ _ | with_reducible refine Below.drew ?_ | with_reducible refine Below.setCell ?_ ?_ _ | with_reducible refine Below.atPut ?_ ?_ _ | (simp [go_sem]; done) | (simp [go_sem]; omega)))⟩
set_option maxRecDepth 100000 in
set_option maxHeartbeats 4000000 in
theorem ask_is (s : Sc) (w0 : Base) (g n : Nat) (xs : List Value) (W : World) (v : Value) (h : ScanAt s w0 g n xs W v) (h0 : 0 ≤ s.id) (h1 : s.id < 1000000) :
    Calls Try.prog 51 #[.pointer (some ⟨g, 0, none⟩)] W fun en W' => ∃ L, en = .returned (.slice (some ⟨L, 0, none⟩) 1 1) ∧ Letter { s with id := s.id + 1 } w0 L W' ∧ ScanAt { s with id := s.id + 1 } w0 g n xs W' v := by
  have hg := h.lt
  have hb := h.size
  rw [← put_self h.heap]
  simp only [Sc.obj]
  go_enter Try.func51, Try.ntmps51
  go_wp2
  go_still_tail 17, (by kernel_rfl)
  go_wp2
  go_ret
  exact ⟨_, rfl, ⟨(by repeat' (first | rfl | assumption | (with_reducible refine (heap_drew_eq _ _).trans ?_) | (refine (Fut.heap _ _ ?_).trans ?_ ; focus (first | assumption | omega | (simp [go_sem]; done) | (simp [go_sem]; omega))) | (refine (heap_put_at _ _ _ ?_).trans ?_ ; focus (first | assumption | omega | (simp [go_sem]; done) | (simp [go_sem]; omega))) | (refine (heap_put_other _ _ _ _ ?_).trans ?_ ; focus (first | assumption | omega | (simp [go_sem]; done) | (simp [go_sem]; omega))) | (refine (heap_alloc_other _ _ _ ?_).trans ?_ ; focus (first | assumption | omega | (simp [go_sem]; done) | (simp [go_sem]; omega))) | (refine (heap_alloc_at _ _ _ ?_).trans ?_ ; focus (first | assumption | omega | (simp [go_sem]; done) | (simp [go_sem]; omega))) | (simp [go_sem]; done) | (simp [go_sem]; omega))), by first | assumption | (simp [go_sem]; omega)⟩, h.upd (by repeat' (first | exact Below.refl _ _ | with_reducible assumption | omega | with_reducible refine below_put_fut ?_ ?_ _ | with_reducible refine below_to_put ?_ | with_reducible refine Below.alloc ?_ ?_ _ | with_reducible refine Below.fut ?_ ?_ _ | with_reducible refine Below.drew ?_ | with_reducible refine Below.setCell ?_ ?_ _ | with_reducible refine Below.atPut ?_ ?_ _ | (simp [go_sem]; done) | (simp [go_sem]; omega)))⟩
end Go.Proofs.Ythgajbfgolcpkaa
