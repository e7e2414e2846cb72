/- The book of lists: marks. -/
import Derived.Test.YthknenhcnpgkcaaGreatBk1
import Derived.IntWalk
import Derived.Laws.BytesArg
namespace Go.Proofs.YthknenhcnpgkcaaGreat
open Go.RowKit
set_option linter.unusedVariables false
set_option linter.unusedSimpArgs false
theorem conv_name (w : World) (a b c d e f : Int) : (convert 142 9 (.slice (some ⟨w.heap.size, 0, none⟩) 6 6)).run Tryz.prog (w.alloc (.cells #[.int .u8 a, .int .u8 b, .int .u8 c, .int .u8 d, .int .u8 e, .int .u8 f] 5)) = .ok (.string (strOfNums [a, b, c, d, e, f])) (w.alloc (.cells #[.int .u8 a, .int .u8 b, .int .u8 c, .int .u8 d, .int .u8 e, .int .u8 f] 5)) := by
  refine run_convert_bytes_arg (P := Tryz.prog) _ 142 5 Tryz.underlying142 Tryz.underlying5 w.heap.size 0 _ _ [a, b, c, d, e, f] rfl (fun i hi => ?_) _ Tryz.underlying9
  rw [World.cell?_alloc_new]
  have hi : i < 6 := hi
  rcases (show i = 0 ∨ i = 1 ∨ i = 2 ∨ i = 3 ∨ i = 4 ∨ i = 5 by omega) with rfl | rfl | rfl | rfl | rfl | rfl <;> rfl
def nmOf (i k : Nat) : ByteArray := strOfNums [109, 65 + (i : Int) % 26, 65 + (i : Int) / 26 % 26, 48 + (k : Int) % 10, 48 + (k : Int) / 10 % 10, 48 + (k : Int) / 100 % 10]
set_option maxRecDepth 100000 in
theorem name_is (w : World) (i k : Nat) (hi : i ≤ 300) (hk : k ≤ 2000) : Calls Tryz.prog 96 #[.int .i64 i, .int .i64 k] w (Makes (.string (nmOf i k)) w) := by
  have hc := conv_name w 109 (65 + (i : Int) % 26) (65 + (i : Int) / 26 % 26) (48 + (k : Int) % 10) (48 + (k : Int) / 10 % 10) (48 + (k : Int) / 100 % 10)
  go_enter Tryz.func96, Tryz.ntmps96
  go_wp2_with (first | (((with_reducible refine wp_region_fut_lit (by kernel_rfl) (by kernel_rfl) ?_)); (repeat (go_big_quiet_step ((first | fail)))); ((with_reducible refine wpQuiet_nil ?_)); rintro _ ⟨u, rfl⟩; (try (rw [Fut.put_self u (by first | assumption | (simp [go_sem]; done) | (simp [go_sem]; omega))]))))
  go_ret; exact .mk (by first | rfl | (simp; done) | (simp; omega)) (by repeat' (first | exact Below.refl _ _ | with_reducible assumption | omega | with_reducible refine below_put_fut ?_ ?_ _ | with_reducible refine below_to_put ?_ | with_reducible refine Below.alloc ?_ ?_ _ | with_reducible refine Below.fut ?_ ?_ _ | with_reducible refine Below.drew ?_ | with_reducible refine Below.setCell ?_ ?_ _ | with_reducible refine Below.atPut ?_ ?_ _ | (simp [go_sem]; done) | (simp [go_sem]; omega)))
/-- Marks. -/
def marks (i fr n : Nat) : List It := (List.range n).map fun j => (nmOf i (fr + j), ⟨#[]⟩)
theorem marks_len (i fr n : Nat) : (marks i fr n).length = n := by simp [marks]
theorem marks_succ (i fr n : Nat) : marks i fr (n + 1) = marks i fr n ++ [(nmOf i (fr + n), ⟨#[]⟩)] := by simp [marks, List.range_succ]
theorem marks_more (i n : Nat) : ∀ m, marks i 0 n ++ marks i n m = marks i 0 (n + m)
  | 0 => by simp [marks]
  | m + 1 => by
    rw [marks_succ, ← List.append_assoc, marks_more i n m, ← Nat.add_assoc, marks_succ]
    simp
theorem marks_take (i fr : Nat) {n m : Nat} (h : m ≤ n) : (marks i fr n).take m = marks i fr m := by
  unfold marks
  rw [← List.map_take, List.take_range, Nat.min_eq_left h]
theorem marks_at (i fr : Nat) {n j : Nat} (h : j < n) : (marks i fr n)[j]? = some (nmOf i (fr + j), ⟨#[]⟩) := by simp [marks, h]
set_option maxRecDepth 100000 in
set_option maxHeartbeats 4000000 in
theorem markItems_is (w : World) (i fr n : Nat) (hi : i ≤ 300) (hf : fr + n ≤ 1000) : Calls Tryz.prog 85 #[.int .i64 i, .int .i64 fr, .int .i64 n] w fun e W' =>
    ∃ ao c, e = .returned (.slice ao n c) ∧ Row W' 59 2 (.slice ao n c) n (flat (marks i fr n)) ∧ Below w.heap.size w W' ∧ ∀ k, k < w.heap.size → blk (.slice ao n c) k = 0 := by
  obtain ⟨t, ht⟩ : ∃ t, fr + n = t := ⟨_, rfl⟩
  have htI : (fr : Int) + (n : Int) = (t : Int) := by omega
  have HT := hid ht
  clear ht
  go_enter Tryz.func85, Tryz.ntmps85
  go_wp2_with fail
  go_loopw [7, 8] (fun o x wr => ∃ (s j : Nat) (ao : Option Addr) (c : Nat), s = fr + j ∧ j ≤ n ∧ x = .int .i64 s ∧ o = .slice ao j c ∧ Hid (Row wr 59 2 (.slice ao j c) j (flat (marks i fr j))) ∧ Hid (Below w.heap.size w wr ∧ ∀ k, k < w.heap.size → blk (.slice ao j c) k = 0)) (fun _ x _ => t - (intOf x).toNat)
  case atStart => exact ⟨fr, 0, none, 0, rfl, Nat.zero_le _, rfl, rfl, hid (World.ownsRow_nil _ _ _ _), hid ⟨Below.refl _ _, fun k _ => blk_nil _ _ _⟩⟩
  case round =>
    obtain ⟨s, j, ao, c, hs, hj, rfl, rfl, hr, hb⟩ := hrel
    have ht := HT.out
    by_cases hlt : s < t
    · have HS := hid hs
      have hsb : s ≤ 2000 := by omega
      have hjb : j ≤ 1000 := by omega
      clear hs
      go_wp2_with (first | (go_at_call 96; refine (name_is _ i s hi hsb).mono ?_; rintro _ _ ⟨rfl, u, rfl⟩) | (at_builtin; refine wpList_append_ex (by rfl) _ _ _ (by rfl) _ _ (by rfl) (by rfl) (append_one (x := (nmOf i s, ⟨#[]⟩)) hr.out (by repeat' (first | exact Below.refl _ _ | with_reducible assumption | omega | with_reducible refine below_put_fut ?_ ?_ _ | with_reducible refine below_to_put ?_ | with_reducible refine Below.alloc ?_ ?_ _ | with_reducible refine Below.fut ?_ ?_ _ | with_reducible refine Below.drew ?_ | with_reducible refine Below.setCell ?_ ?_ _ | with_reducible refine Below.atPut ?_ ?_ _ | (simp [go_sem]; done) | (simp [go_sem]; omega))) hjb (by repeat' (first | rfl | assumption | (with_reducible refine (heap_drew_eq _ _).trans ?_) | (refine (Fut.heap _ _ ?_).trans ?_ ; focus (first | assumption | omega | (simp [go_sem]; done) | (simp [go_sem]; omega))) | (refine (heap_put_at _ _ _ ?_).trans ?_ ; focus (first | assumption | omega | (simp [go_sem]; done) | (simp [go_sem]; omega))) | (refine (heap_put_other _ _ _ _ ?_).trans ?_ ; focus (first | assumption | omega | (simp [go_sem]; done) | (simp [go_sem]; omega))) | (refine (heap_alloc_other _ _ _ ?_).trans ?_ ; focus (first | assumption | omega | (simp [go_sem]; done) | (simp [go_sem]; omega))) | (refine (heap_alloc_at _ _ _ ?_).trans ?_ ; focus (first | assumption | omega | (simp [go_sem]; done) | (simp [go_sem]; omega))) | (simp [go_sem]; done) | (simp [go_sem]; omega)))) ?_; rintro v4 w4 ⟨⟨ao4, c4, rfl⟩, hr4, hc4, hb4⟩))
      refine ⟨⟨s + 1, j + 1, ao4, c4, by rw [HS.out]; omega, by have := HS.out; omega, by go_num, rfl, hid (by rw [marks_succ, ← HS.out]; exact hr4), hid ⟨?_, ?_⟩⟩, by simp [intOf]; omega⟩
      · exact ((Chg.of_below (S := fun _ => False) hb.out.1).trans hc4 (fun k hk h => h (hb.out.2 k hk))).below (Nat.le_refl _) (fun _ h => h.elim)
      · exact fun k hk => by have := hb4 k (Nat.lt_of_lt_of_le hk hb.out.1.size); have := hb.out.2 k hk; omega
    · obtain rfl : s = t := by omega
      obtain rfl : j = n := by omega
      clear hs
      go_wp2_with fail
      go_ret
      exact ⟨ao, c, rfl, hr.out, hb.out.1, hb.out.2⟩
end Go.Proofs.YthknenhcnpgkcaaGreat
