import Derived.Test.YthgajbfgolcpkaaScan6
/- What all statements of chapter scan ask first. -/
namespace Go.Proofs.Ythgajbfgolcpkaa
open Go.RowKit
theorem Letter.cell {s : Sc} {w0 : Base} {L : Nat} {W : World} (h : Letter s w0 L W) (i : Nat) : W.cell? ⟨L, i, none⟩ = (#[.int .i64 1, .int .i64 s.me, .int .i64 s.at_, .int .i64 s.id, .int .i64 s.op, .string s.key, .string s.val, .string s.to, .int .i64 s.am, .int .i64 0, .string ⟨#[]⟩, .slice none 0 0, .bool false, .string ⟨#[]⟩, .int .i64 0, .int .u64 0, .int .u64 0, .int .i64 0, .slice none 0 0, .int .i64 0, .int .i64 0] : Array Value)[i]? :=
  cell_of_row _ _ i _ _ (0, 0) h.heap
theorem ObjAt.keepLetter {o : Obj} {e : TypeId} {size : Nat} {w0 : Base} {g n : Nat} {xs : List Value} {W : World} {v : Value} (h : ObjAt o e size w0 g n xs W v) {s : Sc} {L : Nat} (hk : w0.keep L = some s.letter) (hb : w0.heap.size ≤ L) : Letter s w0 L W := ⟨(h.kept _ _ hk).1, hb⟩
theorem ScanAt.learn {s s' : Sc} {w0 : Base} {g n : Nat} {xs : List Value} {W : World} {v : Value} (h : ScanAt s w0 g n xs W v) {L : Nat} (hL : Letter s' w0 L W) : ScanAt s (w0.with L s'.letter) g n xs W v := by
  refine ObjAt.learn h hL.heap (fun e => ?_) (fun e => ?_)
  · have h1 := h.heap
    rw [← e, hL.heap] at h1
    simp [Sc.letter, Sc.obj] at h1
  · rcases h.owns.2 with ⟨rfl, _⟩ | ⟨r, cap, cur, rfl, _, hr, _⟩
    · simp [Value.ownBlock] at e
    · have : r = L := by simpa [Value.ownBlock] using e
      rw [this, hL.heap] at hr
      simp [Sc.letter] at hr
theorem src_one {W : World} {a b : Value} {e : TypeId} {r : Nat} (h : W.heap[r]? = some (.cells #[a, b] e)) (ha : a.oneCell' = true) (hb : b.oneCell' = true) : Src W 2 (.slice (some ⟨r, 0, none⟩) 1 1) 1 [a, b] := by
  refine ⟨by simp, ?_, .inr ⟨⟨r, 0, none⟩, 1, rfl, ?_⟩⟩
  · intro u hu
    rcases List.mem_cons.1 hu with rfl | hu
    · exact ha
    · rcases List.mem_cons.1 hu with rfl | hu
      · exact hb
      · cases hu
  · have := World.news_of_block h
    simpa using this
theorem got_more (s : Sc) (w0 : Base) (g n : Nat) (xs : List Value) (W : World) (v : Value) (h : ScanAt s w0 g n xs W v) (hon : s.on = true) (hw : s.waits = 0) (x : Lt) (he : x.te = 0) (hx : x.tmore = true) (m : Nat) (news : List Value) (hs : Src W 2 x.sv m news) (hn : n ≤ 100) (hm : m ≤ 100) (hful : n + m < s.most) (hful2 : s.most ≤ 100) (hless : Op.bytesLess s.key.data.toList x.tnext.data.toList = true) (hk1 : s.key.size ≤ maxLen) (hk2 : x.tnext.size ≤ maxLen) (h0 : 0 ≤ s.id) (h1 : s.id < 1000000) :
    Calls Try.prog 30 #[.pointer (some ⟨g, 0, none⟩), .agg (x.cells 2 s.at_ s.id)] W fun en W' => ∃ v' L, en = .returned (.tuple #[.slice (some ⟨L, 0, none⟩) 1 1, .bool false]) ∧ Letter { s with key := x.tnext, am := s.most - (n + m), tried := 1, old := 0, id := s.id + 1 } w0 L W' ∧ ScanAt { s with key := x.tnext, am := s.most - (n + m), tried := 1, old := 0, id := s.id + 1 } w0 g (n + m) (xs ++ news) W' v' := by
  refine got_told s w0 g n xs W v h hon hw x he _ ?_ fun W' hb => ?_
  · rintro e w ⟨v', L, he, _⟩; exact ⟨_, _, he⟩
  · have := part_more s w0 g n xs W' v (h.on hb) x.te x.tv x.sv x.tnext x.tnode m news (hs.heap hb) hn hm hful hful2 hless hk1 hk2 h0 h1
    simp only [Lt.told, hx]; exact this
theorem got_last (s : Sc) (w0 : Base) (g n : Nat) (xs : List Value) (W : World) (v : Value) (h : ScanAt s w0 g n xs W v) (hon : s.on = true) (hw : s.waits = 0) (x : Lt) (he : x.te = 0) (hx : x.tmore = false) (m : Nat) (news : List Value) (hs : Src W 2 x.sv m news) (hn : n ≤ 100) (hm : m ≤ 100) (hful : n + m < s.most) :
    Calls Try.prog 30 #[.pointer (some ⟨g, 0, none⟩), .agg (x.cells 2 s.at_ s.id)] W fun en W' => ∃ v', en = .returned (.tuple #[.slice none 0 0, .bool true]) ∧ ScanAt { s with on := false, over := true, waits := 0, e := 0 } w0 g (n + m) (xs ++ news) W' v' := by
  refine got_told s w0 g n xs W v h hon hw x he _ ?_ fun W' hb => ?_
  · rintro e w ⟨v', he, _⟩; exact ⟨_, _, he⟩
  · have := part_last s w0 g n xs W' v (h.on hb) x.te x.tv x.sv x.tnext x.tnode m news (hs.heap hb) hn hm hful
    simp only [Lt.told, hx]; exact this
theorem got_full (s : Sc) (w0 : Base) (g n : Nat) (xs : List Value) (W : World) (v : Value) (h : ScanAt s w0 g n xs W v) (hon : s.on = true) (hw : s.waits = 0) (x : Lt) (he : x.te = 0) (m : Nat) (news : List Value) (hs : Src W 2 x.sv m news) (hn : n ≤ 100) (hm : m ≤ 100) (hful : s.most ≤ n + m) :
    Calls Try.prog 30 #[.pointer (some ⟨g, 0, none⟩), .agg (x.cells 2 s.at_ s.id)] W fun en W' => ∃ v', en = .returned (.tuple #[.slice none 0 0, .bool true]) ∧ ScanAt { s with on := false, over := true, waits := 0, e := 0, more := x.tmore } w0 g (n + m) (xs ++ news) W' v' := by
  refine got_told s w0 g n xs W v h hon hw x he _ ?_ fun W' hb => ?_
  · rintro e w ⟨v', he, _⟩; exact ⟨_, _, he⟩
  · exact part_full s w0 g n xs W' v (h.on hb) x.te x.tv x.sv x.tmore x.tnext x.tnode m news (hs.heap hb) hn hm hful
set_option maxRecDepth 100000 in
set_option maxHeartbeats 4000000 in
theorem scanAlive_any (w : World) : Calls Try.prog 27 #[] w (Makes (.bool true) w) := by
  go_enter Try.func27, Try.ntmps27
  go_wp2_with (first | (go_at_call 28; ((with_reducible refine (new_is 100 3 (by omega) (by omega) ⟨w, fun _ => none⟩ (hid fun _ => rfl) _ (by repeat' (first | exact Below.refl _ _ | with_reducible assumption | omega | with_reducible refine below_put_fut ?_ ?_ _ | with_reducible refine below_to_put ?_ | with_reducible refine Below.alloc ?_ ?_ _ | with_reducible refine Below.fut ?_ ?_ _ | with_reducible refine Below.drew ?_ | with_reducible refine Below.setCell ?_ ?_ _ | with_reducible refine Below.atPut ?_ ?_ _ | (simp [go_sem]; done) | (simp [go_sem]; omega)))).mono ?_)); rintro _ W1 ⟨g, rfl, h1⟩) | (((with_reducible refine wp_region_fut_lit (by kernel_rfl) (by kernel_rfl) ?_)); (repeat (go_big_quiet_step ((first | fail)))); ((with_reducible refine wpQuiet_nil ?_)); rintro _ ⟨u, rfl⟩; (try (rw [Fut.put_self u (by first | assumption | (simp [go_sem]; done) | (simp [go_sem]; omega))]))))
  go_wp2_with (first | (go_at_call 29; ((with_reducible refine (start_is _ _ _ _ _ _ _ h1 rfl _ _ 5 0 (by decide) (by decide) (by omega) (by omega) (by omega) (by decide) (by decide) (by decide)).mono ?_)); rintro _ W2 ⟨L, rfl, hL, h2⟩; simp only [show (30000 : Int) + 1 = 30001 from rfl] at hL h2; have c2 := hL.cell) | (((with_reducible refine wp_region_fut_lit (by kernel_rfl) (by kernel_rfl) ?_)); (repeat (go_big_quiet_step ((first | fail)))); ((with_reducible refine wpQuiet_nil ?_)); rintro _ ⟨u, rfl⟩; (try (rw [Fut.put_self u (by first | assumption | (simp [go_sem]; done) | (simp [go_sem]; omega))]))))
  have h3 := h2.learn hL
  have hs3 := W2.heap.size
  (((with_reducible refine (got_more _ _ _ _ _ _ _ (h3.on (by repeat' (first | exact Below.refl _ _ | with_reducible assumption | omega | with_reducible refine below_put_fut ?_ ?_ _ | with_reducible refine below_to_put ?_ | with_reducible refine Below.alloc ?_ ?_ _ | with_reducible refine Below.fut ?_ ?_ _ | with_reducible refine Below.drew ?_ | with_reducible refine Below.setCell ?_ ?_ _ | with_reducible refine Below.atPut ?_ ?_ _ | (simp [go_sem]; done) | (simp [go_sem]; omega)))) rfl rfl ⟨100, 0, ⟨#[]⟩, ⟨#[]⟩, ⟨#[]⟩, 0, 0, ⟨#[]⟩, .slice (some ⟨W2.heap.size, 0, none⟩) 1 1, true, ⟨#[109]⟩, 0, 0, 0, 0, .slice none 0 0, 0, 0⟩ rfl rfl 1 [.string ⟨#[97]⟩, .string ⟨#[]⟩] (src_one (heap_alloc_at _ _ _ rfl) rfl rfl) (by omega) (by omega) (by decide) (by decide) (show Op.bytesLess [] [109] = true by decide) (by decide) (show (⟨#[109]⟩ : ByteArray).size ≤ maxLen by decide) (by decide) (by decide)).mono ?_)); rintro _ W3 ⟨v3, L3, rfl, hL3, h4⟩)
  simp only [show (30001 : Int) + 1 = 30002 from rfl, show (5 : Int) - ((0 : Nat) + (1 : Nat)) = 4 from rfl, Nat.zero_add, List.nil_append] at hL3 h4
  have h5 := h4.learn hL3
  clear c2 h1 h2 h3 h4 hL
  go_wp2_with fail
  (((with_reducible refine (got_last _ _ _ _ _ _ _ (h5.on (by repeat' (first | exact Below.refl _ _ | with_reducible assumption | omega | with_reducible refine below_put_fut ?_ ?_ _ | with_reducible refine below_to_put ?_ | with_reducible refine Below.alloc ?_ ?_ _ | with_reducible refine Below.fut ?_ ?_ _ | with_reducible refine Below.drew ?_ | with_reducible refine Below.setCell ?_ ?_ _ | with_reducible refine Below.atPut ?_ ?_ _ | (simp [go_sem]; done) | (simp [go_sem]; omega)))) rfl rfl ⟨100, 0, ⟨#[]⟩, ⟨#[]⟩, ⟨#[]⟩, 0, 0, ⟨#[]⟩, .slice (some ⟨W3.heap.size, 0, none⟩) 1 1, false, ⟨#[]⟩, 0, 0, 0, 0, .slice none 0 0, 0, 0⟩ rfl rfl 1 [.string ⟨#[110]⟩, .string ⟨#[]⟩] (src_one (heap_alloc_at _ _ _ rfl) rfl rfl) (by omega) (by omega) (by decide)).mono ?_)); rintro _ W4 ⟨v4, rfl, h6⟩)
  go_wp2_with fail
  (((with_reducible refine (result_is _ _ _ _ _ _ _ h6 rfl (by omega) (by decide)).mono ?_)); rintro _ W5 ⟨ao, cc, rfl, hO, h7⟩)
  have c3 := (h7.keepLetter (Base.with_self _ _ _) hL3.base).cell
  have hB := h7.below
  clear h7 h6 h5 hL3
  go_wp2_with fail
  go_ret
  exact .mk rfl hB
end Go.Proofs.Ythgajbfgolcpkaa
