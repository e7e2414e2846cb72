/- BagRoom answers true for every two numbers, and leaves its arguments as they were. No condition. -/
import Derived.Test.YthgajbfgolcpkaaBag7
import Derived.Test.YthgajbfgolcpkaaFrame
namespace Go.Proofs.Ythgajbfgolcpkaa
open Go.ChangeShapes Go.WideShapes Go.ChangeAt Go.RowKit Go.Joins
set_option linter.unusedVariables false
set_option linter.unusedSimpArgs false
def ones (n : Nat) : List Pk := (List.range n).map fun j => ((0, 0, 0, ((j : Nat) : Int) + 1) : Pk)
theorem ones_length (n : Nat) : (ones n).length = n := by simp [ones]
theorem ones_succ (n : Nat) : ones n ++ [(0, 0, 0, (n : Int) + 1)] = ones (n + 1) := by simp [ones, List.range_succ]
theorem ones_0 {n : Nat} (h : 0 < n) : (ones n)[0]? = some (0, 0, 0, 1) := by
  obtain ⟨k, rfl⟩ : ∃ k, n = k + 1 := ⟨n - 1, by omega⟩
  simp [ones]
set_option maxRecDepth 100000 in
set_option maxHeartbeats 4000000 in
theorem bagRoom_good (M n : Nat) (h1 : M ≤ 50) (h2 : n ≤ 80) (w : World) :
    Calls Try.prog 6 #[.int .i64 M, .int .i64 n] w (Makes (.bool true) w) := by
  have d1 : decide ((M : Int) < 0) = false := by simp
  have d2 : decide ((50 : Int) < M) = false := by simp; omega
  have d3 : decide ((n : Int) < 0) = false := by simp
  have d4 : decide ((80 : Int) < n) = false := by simp; omega
  go_enter Try.func6, Try.ntmps6
  go_wp2_with (first | (go_at_call 17; ((with_reducible refine (bagAlive_any _).mono ?_)); rintro _ _ ⟨rfl, u, rfl⟩; (try (rw [Fut.put_self u (by first | assumption | (simp [go_sem]; done) | (simp [go_sem]; omega))]))) | (((with_reducible refine wp_region_fut_lit (by kernel_rfl) (by kernel_rfl) ?_)); (repeat (go_big_quiet_step ((first | (go_at_call 17; with_reducible exact Calls.fut_of (bagAlive_any _)))))); ((with_reducible refine wpQuiet_nil ?_)); rintro _ ⟨u, rfl⟩; (try (rw [Fut.put_self u (by first | assumption | (simp [go_sem]; done) | (simp [go_sem]; omega))]))))
  obtain ⟨B, hB⟩ : ∃ B : Base, B = ⟨w, fun _ => none⟩ := ⟨_, rfl⟩
  (((with_reducible refine (bag_new M M (by omega) B (hid (by rw [hB]; exact fun _ => rfl)) _ (by rw [hB]; exact (by repeat' (first | exact Below.refl _ _ | with_reducible assumption | omega | with_reducible refine below_put_fut ?_ ?_ _ | with_reducible refine below_to_put ?_ | with_reducible refine Below.alloc ?_ ?_ _ | with_reducible refine Below.fut ?_ ?_ _ | with_reducible refine Below.drew ?_ | with_reducible refine Below.setCell ?_ ?_ _ | with_reducible refine Below.atPut ?_ ?_ _ | (simp [go_sem]; done) | (simp [go_sem]; omega))))).mono ?_)); rintro _ W1 ⟨g, rfl, hb1⟩)
  have HB := hid hB
  have HB1 := hid hb1
  clear hB hb1 d1 d2 d3 d4
  go_wp2_with fail
  go_loopw [6] (fun i wr => ∃ m : Nat, m ≤ n ∧ i = .int .i64 ((m : Int) + 1) ∧ Hid (Bag M B g (ones (min m M)) wr)) (fun i _ => n + 1 - (intOf i).toNat)
  case atStart => exact ⟨0, Nat.zero_le _, by go_num, hid (by rw [Nat.zero_min]; exact HB1.out)⟩
  case round =>
    obtain ⟨m, hm, rfl, hb⟩ := hrel
    by_cases hlt : m < n
    · rcases Nat.lt_or_ge m M with c | c
      · have hb' := hid (show Bag M B g (ones m) wr by have := hb.out; rwa [Nat.min_eq_left (by omega)] at this)
        clear hb
        have c1 : decide ((m : Int) + 1 ≤ M) = true := by simp; omega
        go_wp2_with fail
        (((with_reducible refine (bag_put hb'.out (by rw [ones_length]; omega) (by omega) 0 0 0 ((m : Int) + 1)).mono ?_)); rintro _ W2 ⟨rfl, hb2⟩)
        rw [ones_succ] at hb2
        have HB2 := hid (show Bag M B g (ones (min (m + 1) M)) W2 by rwa [Nat.min_eq_left (by omega)])
        clear hb2
        go_wp2_with fail
        go_roundw
        case rel => exact ⟨m + 1, by omega, by go_num, HB2⟩
        case measure => simp [intOf]; omega
      · have c1 : decide ((m : Int) + 1 ≤ M) = false := by simp; omega
        go_wp2_with fail
        (((with_reducible refine (bag_full hb.out (by rw [ones_length]; omega) 0 0 0 ((m : Int) + 1)).mono ?_)); rintro _ W2 ⟨rfl, hb2⟩)
        rw [Nat.min_eq_right c] at hb2
        have HB2 := hid (show Bag M B g (ones (min (m + 1) M)) W2 by rwa [Nat.min_eq_right (by omega)])
        clear hb2
        go_wp2_with fail
        go_roundw
        case rel => exact ⟨m + 1, by omega, by go_num, HB2⟩
        case measure => simp [intOf]; omega
    · obtain rfl : m = n := by omega
      clear HB1 hm
      go_wp2_with fail
      (((with_reducible refine (bag_len hb.out (min (m : Int) M) (by rw [ones_length]; omega)).mono ?_)); rintro _ W2 ⟨rfl, hb2⟩)
      clear hb
      have HB2 := hid hb2
      clear hb2
      go_wp2_with fail
      rcases Nat.eq_zero_or_pos M with cM | cM
      · have dM : decide (0 < M) = false := by simp; omega
        have d6 : decide (m < M) = false := by simp; omega
        have HM := hid cM
        rcases Nat.eq_zero_or_pos m with cm | cm
        · have d5 : decide (0 < m) = false := by simp; omega
          clear cM cm
          (((with_reducible refine (bag_twiceno HB2.out 0 (.inr (by rw [ones_length, HM.out]; simp))).mono ?_)); rintro _ W3 ⟨rfl, hb3⟩)
          obtain ⟨ls, hb3, hll⟩ : ∃ ls, Bag M B g ls W3 ∧ ls.length ≤ 90 := ⟨_, hb3, by simp only [List.length_append, ones_length, List.length_cons, List.length_nil]; omega⟩
          obtain ⟨L, hL⟩ : ∃ L, ls.length = L := ⟨_, rfl⟩
          rw [hL] at hll
          have HL := hid hL
          have HB3 := hid hb3
          clear hb3 hL
          go_wp2_with fail
          (((with_reducible refine (bag_len HB3.out (L : Int) (by rw [HL.out])).mono ?_)); rintro _ W4 ⟨rfl, hb4⟩)
          have HB4 := hid hb4
          clear hb4
          go_wp2_with fail
          go_loopw [7] (fun i wr => ∃ q : Nat, q ≤ 90 ∧ i = .int .i64 q ∧ ∃ l : List Pk, Hid (l.length = q) ∧ Hid (Bag M B g l wr)) (fun i _ => (intOf i).toNat)
          case atStart => exact ⟨L, hll, rfl, ls, HL, HB4⟩
          case round =>
            obtain ⟨q, hq, rfl, l, hl, hbl⟩ := hrel
            clear HB4 HB3
            rename_i wr3
            rcases q with _ | q
            · obtain rfl : l = [] := List.eq_nil_of_length_eq_zero hl.out
              go_wp2_with fail
              (((with_reducible refine (bag_dropno hbl.out 0 (.inr (by simp))).mono ?_)); rintro _ W5 ⟨rfl, hb5⟩)
              have HB5 := hid hb5
              clear hb5
              go_wp2_with fail
              (((with_reducible refine (bag_full HB5.out (by rw [HM.out]; simp) 0 0 0 0).mono ?_)); rintro _ W6 ⟨rfl, hb6⟩)
              have hbel : Below w.heap.size w W6 := by have := hb6.below; rw [HB.out] at this; exact this
              clear hb6
              go_wp2_with fail
              go_ret
              exact .mk rfl hbel
            · obtain ⟨p, l, rfl⟩ := List.exists_cons_of_length_eq_add_one hl.out
              have hl2 := hid (show l.length = q by have := hl.out; simpa using this)
              go_wp2_with fail
              (((with_reducible refine (bag_take hbl.out (by rw [hl.out]; omega) 0 0 rfl p rfl).mono ?_)); rintro _ W5 ⟨rfl, hb5⟩)
              have HB5 := hid (show Bag M B g l W5 from hb5)
              clear hb5
              go_simp
              rename_i K hK
              refine hK _ _ ?_
              clear hK K
              refine Go.Great.wpList_runTo rfl (some 70) rfl (.tuple #[.agg (pk p.1 p.2.1 p.2.2.1 p.2.2.2), .bool true]) W5 (by simp [execOp, Act.eval, Act.put, go_sem]) ?_
              refine Go.Great.wpList_runTo rfl (some 73) rfl (.agg (pk p.1 p.2.1 p.2.2.1 p.2.2.2)) W5 (by simp [execOp, Act.eval, Act.put, go_sem]) ?_
              refine Go.Great.wpList_runTo rfl (some 74) rfl (.bool true) W5 (by simp [execOp, Act.eval, Act.put, go_sem]) ?_
              refine Go.Great.wpList_runTo rfl (some 8) rfl (.pointer (some ⟨(W5).heap.size, 0, none⟩)) (World.alloc W5 (.cells (pk 0 0 0 0) 38)) (by kernel_rfl) ?_
              refine wpList_store_row rfl 38 (.tmp 8) (.tmp 73) rfl ((W5).heap.size) (pk p.1 p.2.1 p.2.2.1 p.2.2.2) (pk 0 0 0 0) (by simp [Act.eval, Act.put]) (by simp [Act.eval, Act.put]) (heap_alloc_at _ _ _ rfl) (by kernel_rfl) rfl (by simp [Value.oneCell']) ?_
              rw [put_alloc]
              simp [Act.put]
              go_wp2_with fail
              (((with_reducible refine (bag_len (HB5.out.on (by repeat' (first | exact Below.refl _ _ | with_reducible assumption | omega | with_reducible refine below_put_fut ?_ ?_ _ | with_reducible refine below_to_put ?_ | with_reducible refine Below.alloc ?_ ?_ _ | with_reducible refine Below.fut ?_ ?_ _ | with_reducible refine Below.drew ?_ | with_reducible refine Below.setCell ?_ ?_ _ | with_reducible refine Below.atPut ?_ ?_ _ | (simp [go_sem]; done) | (simp [go_sem]; omega)))) (q : Int) (by rw [hl2.out])).mono ?_)); rintro _ W6 ⟨rfl, hb6⟩)
              have HB6 := hid hb6
              clear hb6
              go_wp2_with fail
              go_roundw
              case rel => exact ⟨q, by omega, by go_num, l, hl2, HB6⟩
              case measure => simp [intOf]
        · have d5 : decide (0 < m) = true := by simp; omega
          clear cM
          (((with_reducible refine (bag_twiceno HB2.out 0 (.inr (by rw [ones_length, HM.out]; simp))).mono ?_)); rintro _ W3 ⟨rfl, hb3⟩)
          obtain ⟨ls, hb3, hll⟩ : ∃ ls, Bag M B g ls W3 ∧ ls.length ≤ 90 := ⟨_, hb3, by simp only [List.length_append, ones_length, List.length_cons, List.length_nil]; omega⟩
          obtain ⟨L, hL⟩ : ∃ L, ls.length = L := ⟨_, rfl⟩
          rw [hL] at hll
          have HL := hid hL
          have HB3 := hid hb3
          clear hb3 hL
          go_wp2_with fail
          (((with_reducible refine (bag_len HB3.out (L : Int) (by rw [HL.out])).mono ?_)); rintro _ W4 ⟨rfl, hb4⟩)
          have HB4 := hid hb4
          clear hb4
          go_wp2_with fail
          go_loopw [7] (fun i wr => ∃ q : Nat, q ≤ 90 ∧ i = .int .i64 q ∧ ∃ l : List Pk, Hid (l.length = q) ∧ Hid (Bag M B g l wr)) (fun i _ => (intOf i).toNat)
          case atStart => exact ⟨L, hll, rfl, ls, HL, HB4⟩
          case round =>
            obtain ⟨q, hq, rfl, l, hl, hbl⟩ := hrel
            clear HB4 HB3
            rename_i wr3
            rcases q with _ | q
            · obtain rfl : l = [] := List.eq_nil_of_length_eq_zero hl.out
              go_wp2_with fail
              (((with_reducible refine (bag_dropno hbl.out 0 (.inr (by simp))).mono ?_)); rintro _ W5 ⟨rfl, hb5⟩)
              have HB5 := hid hb5
              clear hb5
              go_wp2_with fail
              (((with_reducible refine (bag_full HB5.out (by rw [HM.out]; simp) 0 0 0 0).mono ?_)); rintro _ W6 ⟨rfl, hb6⟩)
              have hbel : Below w.heap.size w W6 := by have := hb6.below; rw [HB.out] at this; exact this
              clear hb6
              go_wp2_with fail
              go_ret
              exact .mk rfl hbel
            · obtain ⟨p, l, rfl⟩ := List.exists_cons_of_length_eq_add_one hl.out
              have hl2 := hid (show l.length = q by have := hl.out; simpa using this)
              go_wp2_with fail
              (((with_reducible refine (bag_take hbl.out (by rw [hl.out]; omega) 0 0 rfl p rfl).mono ?_)); rintro _ W5 ⟨rfl, hb5⟩)
              have HB5 := hid (show Bag M B g l W5 from hb5)
              clear hb5
              go_simp
              rename_i K hK
              refine hK _ _ ?_
              clear hK K
              refine Go.Great.wpList_runTo rfl (some 70) rfl (.tuple #[.agg (pk p.1 p.2.1 p.2.2.1 p.2.2.2), .bool true]) W5 (by simp [execOp, Act.eval, Act.put, go_sem]) ?_
              refine Go.Great.wpList_runTo rfl (some 73) rfl (.agg (pk p.1 p.2.1 p.2.2.1 p.2.2.2)) W5 (by simp [execOp, Act.eval, Act.put, go_sem]) ?_
              refine Go.Great.wpList_runTo rfl (some 74) rfl (.bool true) W5 (by simp [execOp, Act.eval, Act.put, go_sem]) ?_
              refine Go.Great.wpList_runTo rfl (some 8) rfl (.pointer (some ⟨(W5).heap.size, 0, none⟩)) (World.alloc W5 (.cells (pk 0 0 0 0) 38)) (by kernel_rfl) ?_
              refine wpList_store_row rfl 38 (.tmp 8) (.tmp 73) rfl ((W5).heap.size) (pk p.1 p.2.1 p.2.2.1 p.2.2.2) (pk 0 0 0 0) (by simp [Act.eval, Act.put]) (by simp [Act.eval, Act.put]) (heap_alloc_at _ _ _ rfl) (by kernel_rfl) rfl (by simp [Value.oneCell']) ?_
              rw [put_alloc]
              simp [Act.put]
              go_wp2_with fail
              (((with_reducible refine (bag_len (HB5.out.on (by repeat' (first | exact Below.refl _ _ | with_reducible assumption | omega | with_reducible refine below_put_fut ?_ ?_ _ | with_reducible refine below_to_put ?_ | with_reducible refine Below.alloc ?_ ?_ _ | with_reducible refine Below.fut ?_ ?_ _ | with_reducible refine Below.drew ?_ | with_reducible refine Below.setCell ?_ ?_ _ | with_reducible refine Below.atPut ?_ ?_ _ | (simp [go_sem]; done) | (simp [go_sem]; omega)))) (q : Int) (by rw [hl2.out])).mono ?_)); rintro _ W6 ⟨rfl, hb6⟩)
              have HB6 := hid hb6
              clear hb6
              go_wp2_with fail
              go_roundw
              case rel => exact ⟨q, by omega, by go_num, l, hl2, HB6⟩
              case measure => simp [intOf]
      · have dM : decide (0 < M) = true := by simp; omega
        rcases Nat.eq_zero_or_pos m with cm | cm
        · have d5 : decide (0 < m) = false := by simp; omega
          have HM := hid cm
          clear cm
          (((with_reducible refine (bag_twiceno HB2.out 0 (.inr (by rw [ones_length, HM.out]; simp))).mono ?_)); rintro _ W3 ⟨rfl, hb3⟩)
          obtain ⟨ls, hb3, hll⟩ : ∃ ls, Bag M B g ls W3 ∧ ls.length ≤ 90 := ⟨_, hb3, by simp only [List.length_append, ones_length, List.length_cons, List.length_nil]; omega⟩
          obtain ⟨L, hL⟩ : ∃ L, ls.length = L := ⟨_, rfl⟩
          rw [hL] at hll
          have HL := hid hL
          have HB3 := hid hb3
          clear hb3 hL
          go_wp2_with fail
          (((with_reducible refine (bag_len HB3.out (L : Int) (by rw [HL.out])).mono ?_)); rintro _ W4 ⟨rfl, hb4⟩)
          have HB4 := hid hb4
          clear hb4
          go_wp2_with fail
          go_loopw [7] (fun i wr => ∃ q : Nat, q ≤ 90 ∧ i = .int .i64 q ∧ ∃ l : List Pk, Hid (l.length = q) ∧ Hid (Bag M B g l wr)) (fun i _ => (intOf i).toNat)
          case atStart => exact ⟨L, hll, rfl, ls, HL, HB4⟩
          case round =>
            obtain ⟨q, hq, rfl, l, hl, hbl⟩ := hrel
            clear HB4 HB3
            rename_i wr3
            rcases q with _ | q
            · obtain rfl : l = [] := List.eq_nil_of_length_eq_zero hl.out
              go_wp2_with fail
              (((with_reducible refine (bag_dropno hbl.out 0 (.inr (by simp))).mono ?_)); rintro _ W5 ⟨rfl, hb5⟩)
              have HB5 := hid hb5
              clear hb5
              go_wp2_with fail
              (((with_reducible refine (bag_put HB5.out (by simp; omega) (by omega) 0 0 0 0).mono ?_)); rintro _ W6 ⟨rfl, hb6⟩)
              have hbel : Below w.heap.size w W6 := by have := hb6.below; rw [HB.out] at this; exact this
              clear hb6
              go_wp2_with fail
              go_ret
              exact .mk rfl hbel
            · obtain ⟨p, l, rfl⟩ := List.exists_cons_of_length_eq_add_one hl.out
              have hl2 := hid (show l.length = q by have := hl.out; simpa using this)
              go_wp2_with fail
              (((with_reducible refine (bag_take hbl.out (by rw [hl.out]; omega) 0 0 rfl p rfl).mono ?_)); rintro _ W5 ⟨rfl, hb5⟩)
              have HB5 := hid (show Bag M B g l W5 from hb5)
              clear hb5
              go_simp
              rename_i K hK
              refine hK _ _ ?_
              clear hK K
              refine Go.Great.wpList_runTo rfl (some 70) rfl (.tuple #[.agg (pk p.1 p.2.1 p.2.2.1 p.2.2.2), .bool true]) W5 (by simp [execOp, Act.eval, Act.put, go_sem]) ?_
              refine Go.Great.wpList_runTo rfl (some 73) rfl (.agg (pk p.1 p.2.1 p.2.2.1 p.2.2.2)) W5 (by simp [execOp, Act.eval, Act.put, go_sem]) ?_
              refine Go.Great.wpList_runTo rfl (some 74) rfl (.bool true) W5 (by simp [execOp, Act.eval, Act.put, go_sem]) ?_
              refine Go.Great.wpList_runTo rfl (some 8) rfl (.pointer (some ⟨(W5).heap.size, 0, none⟩)) (World.alloc W5 (.cells (pk 0 0 0 0) 38)) (by kernel_rfl) ?_
              refine wpList_store_row rfl 38 (.tmp 8) (.tmp 73) rfl ((W5).heap.size) (pk p.1 p.2.1 p.2.2.1 p.2.2.2) (pk 0 0 0 0) (by simp [Act.eval, Act.put]) (by simp [Act.eval, Act.put]) (heap_alloc_at _ _ _ rfl) (by kernel_rfl) rfl (by simp [Value.oneCell']) ?_
              rw [put_alloc]
              simp [Act.put]
              go_wp2_with fail
              (((with_reducible refine (bag_len (HB5.out.on (by repeat' (first | exact Below.refl _ _ | with_reducible assumption | omega | with_reducible refine below_put_fut ?_ ?_ _ | with_reducible refine below_to_put ?_ | with_reducible refine Below.alloc ?_ ?_ _ | with_reducible refine Below.fut ?_ ?_ _ | with_reducible refine Below.drew ?_ | with_reducible refine Below.setCell ?_ ?_ _ | with_reducible refine Below.atPut ?_ ?_ _ | (simp [go_sem]; done) | (simp [go_sem]; omega)))) (q : Int) (by rw [hl2.out])).mono ?_)); rintro _ W6 ⟨rfl, hb6⟩)
              have HB6 := hid hb6
              clear hb6
              go_wp2_with fail
              go_roundw
              case rel => exact ⟨q, by omega, by go_num, l, hl2, HB6⟩
              case measure => simp [intOf]
        · have d5 : decide (0 < m) = true := by simp; omega
          rcases Nat.lt_or_ge m M with c | c
          · have d6 : decide (m < M) = true := by simpa using c
            (((with_reducible refine (bag_twice HB2.out (by rw [ones_length]; omega) (by omega) 0 0 rfl (0, 0, 0, 1) (ones_0 (by omega))).mono ?_)); rintro _ W3 ⟨rfl, hb3⟩)
            obtain ⟨ls, hb3, hll⟩ : ∃ ls, Bag M B g ls W3 ∧ ls.length ≤ 90 := ⟨_, hb3, by simp only [List.length_append, ones_length, List.length_cons, List.length_nil]; omega⟩
            obtain ⟨L, hL⟩ : ∃ L, ls.length = L := ⟨_, rfl⟩
            rw [hL] at hll
            have HL := hid hL
            have HB3 := hid hb3
            clear hb3 hL
            go_wp2_with fail
            (((with_reducible refine (bag_len HB3.out (L : Int) (by rw [HL.out])).mono ?_)); rintro _ W4 ⟨rfl, hb4⟩)
            have HB4 := hid hb4
            clear hb4
            go_wp2_with fail
            go_loopw [7] (fun i wr => ∃ q : Nat, q ≤ 90 ∧ i = .int .i64 q ∧ ∃ l : List Pk, Hid (l.length = q) ∧ Hid (Bag M B g l wr)) (fun i _ => (intOf i).toNat)
            case atStart => exact ⟨L, hll, rfl, ls, HL, HB4⟩
            case round =>
              obtain ⟨q, hq, rfl, l, hl, hbl⟩ := hrel
              clear HB4 HB3
              rename_i wr3
              rcases q with _ | q
              · obtain rfl : l = [] := List.eq_nil_of_length_eq_zero hl.out
                go_wp2_with fail
                (((with_reducible refine (bag_dropno hbl.out 0 (.inr (by simp))).mono ?_)); rintro _ W5 ⟨rfl, hb5⟩)
                have HB5 := hid hb5
                clear hb5
                go_wp2_with fail
                (((with_reducible refine (bag_put HB5.out (by simp; omega) (by omega) 0 0 0 0).mono ?_)); rintro _ W6 ⟨rfl, hb6⟩)
                have hbel : Below w.heap.size w W6 := by have := hb6.below; rw [HB.out] at this; exact this
                clear hb6
                go_wp2_with fail
                go_ret
                exact .mk rfl hbel
              · obtain ⟨p, l, rfl⟩ := List.exists_cons_of_length_eq_add_one hl.out
                have hl2 := hid (show l.length = q by have := hl.out; simpa using this)
                go_wp2_with fail
                (((with_reducible refine (bag_take hbl.out (by rw [hl.out]; omega) 0 0 rfl p rfl).mono ?_)); rintro _ W5 ⟨rfl, hb5⟩)
                have HB5 := hid (show Bag M B g l W5 from hb5)
                clear hb5
                go_simp
                rename_i K hK
                refine hK _ _ ?_
                clear hK K
                refine Go.Great.wpList_runTo rfl (some 70) rfl (.tuple #[.agg (pk p.1 p.2.1 p.2.2.1 p.2.2.2), .bool true]) W5 (by simp [execOp, Act.eval, Act.put, go_sem]) ?_
                refine Go.Great.wpList_runTo rfl (some 73) rfl (.agg (pk p.1 p.2.1 p.2.2.1 p.2.2.2)) W5 (by simp [execOp, Act.eval, Act.put, go_sem]) ?_
                refine Go.Great.wpList_runTo rfl (some 74) rfl (.bool true) W5 (by simp [execOp, Act.eval, Act.put, go_sem]) ?_
                refine Go.Great.wpList_runTo rfl (some 8) rfl (.pointer (some ⟨(W5).heap.size, 0, none⟩)) (World.alloc W5 (.cells (pk 0 0 0 0) 38)) (by kernel_rfl) ?_
                refine wpList_store_row rfl 38 (.tmp 8) (.tmp 73) rfl ((W5).heap.size) (pk p.1 p.2.1 p.2.2.1 p.2.2.2) (pk 0 0 0 0) (by simp [Act.eval, Act.put]) (by simp [Act.eval, Act.put]) (heap_alloc_at _ _ _ rfl) (by kernel_rfl) rfl (by simp [Value.oneCell']) ?_
                rw [put_alloc]
                simp [Act.put]
                go_wp2_with fail
                (((with_reducible refine (bag_len (HB5.out.on (by repeat' (first | exact Below.refl _ _ | with_reducible assumption | omega | with_reducible refine below_put_fut ?_ ?_ _ | with_reducible refine below_to_put ?_ | with_reducible refine Below.alloc ?_ ?_ _ | with_reducible refine Below.fut ?_ ?_ _ | with_reducible refine Below.drew ?_ | with_reducible refine Below.setCell ?_ ?_ _ | with_reducible refine Below.atPut ?_ ?_ _ | (simp [go_sem]; done) | (simp [go_sem]; omega)))) (q : Int) (by rw [hl2.out])).mono ?_)); rintro _ W6 ⟨rfl, hb6⟩)
                have HB6 := hid hb6
                clear hb6
                go_wp2_with fail
                go_roundw
                case rel => exact ⟨q, by omega, by go_num, l, hl2, HB6⟩
                case measure => simp [intOf]
          · have d6 : decide (m < M) = false := by simpa using c
            (((with_reducible refine (bag_twicefull HB2.out (by rw [ones_length]; omega) 0 0 rfl (0, 0, 0, 1) (ones_0 (by omega))).mono ?_)); rintro _ W3 ⟨rfl, hb3⟩)
            obtain ⟨ls, hb3, hll⟩ : ∃ ls, Bag M B g ls W3 ∧ ls.length ≤ 90 := ⟨_, hb3, by simp only [List.length_append, ones_length, List.length_cons, List.length_nil]; omega⟩
            obtain ⟨L, hL⟩ : ∃ L, ls.length = L := ⟨_, rfl⟩
            rw [hL] at hll
            have HL := hid hL
            have HB3 := hid hb3
            clear hb3 hL
            go_wp2_with fail
            (((with_reducible refine (bag_len HB3.out (L : Int) (by rw [HL.out])).mono ?_)); rintro _ W4 ⟨rfl, hb4⟩)
            have HB4 := hid hb4
            clear hb4
            go_wp2_with fail
            go_loopw [7] (fun i wr => ∃ q : Nat, q ≤ 90 ∧ i = .int .i64 q ∧ ∃ l : List Pk, Hid (l.length = q) ∧ Hid (Bag M B g l wr)) (fun i _ => (intOf i).toNat)
            case atStart => exact ⟨L, hll, rfl, ls, HL, HB4⟩
            case round =>
              obtain ⟨q, hq, rfl, l, hl, hbl⟩ := hrel
              clear HB4 HB3
              rename_i wr3
              rcases q with _ | q
              · obtain rfl : l = [] := List.eq_nil_of_length_eq_zero hl.out
                go_wp2_with fail
                (((with_reducible refine (bag_dropno hbl.out 0 (.inr (by simp))).mono ?_)); rintro _ W5 ⟨rfl, hb5⟩)
                have HB5 := hid hb5
                clear hb5
                go_wp2_with fail
                (((with_reducible refine (bag_put HB5.out (by simp; omega) (by omega) 0 0 0 0).mono ?_)); rintro _ W6 ⟨rfl, hb6⟩)
                have hbel : Below w.heap.size w W6 := by have := hb6.below; rw [HB.out] at this; exact this
                clear hb6
                go_wp2_with fail
                go_ret
                exact .mk rfl hbel
              · obtain ⟨p, l, rfl⟩ := List.exists_cons_of_length_eq_add_one hl.out
                have hl2 := hid (show l.length = q by have := hl.out; simpa using this)
                go_wp2_with fail
                (((with_reducible refine (bag_take hbl.out (by rw [hl.out]; omega) 0 0 rfl p rfl).mono ?_)); rintro _ W5 ⟨rfl, hb5⟩)
                have HB5 := hid (show Bag M B g l W5 from hb5)
                clear hb5
                go_simp
                rename_i K hK
                refine hK _ _ ?_
                clear hK K
                refine Go.Great.wpList_runTo rfl (some 70) rfl (.tuple #[.agg (pk p.1 p.2.1 p.2.2.1 p.2.2.2), .bool true]) W5 (by simp [execOp, Act.eval, Act.put, go_sem]) ?_
                refine Go.Great.wpList_runTo rfl (some 73) rfl (.agg (pk p.1 p.2.1 p.2.2.1 p.2.2.2)) W5 (by simp [execOp, Act.eval, Act.put, go_sem]) ?_
                refine Go.Great.wpList_runTo rfl (some 74) rfl (.bool true) W5 (by simp [execOp, Act.eval, Act.put, go_sem]) ?_
                refine Go.Great.wpList_runTo rfl (some 8) rfl (.pointer (some ⟨(W5).heap.size, 0, none⟩)) (World.alloc W5 (.cells (pk 0 0 0 0) 38)) (by kernel_rfl) ?_
                refine wpList_store_row rfl 38 (.tmp 8) (.tmp 73) rfl ((W5).heap.size) (pk p.1 p.2.1 p.2.2.1 p.2.2.2) (pk 0 0 0 0) (by simp [Act.eval, Act.put]) (by simp [Act.eval, Act.put]) (heap_alloc_at _ _ _ rfl) (by kernel_rfl) rfl (by simp [Value.oneCell']) ?_
                rw [put_alloc]
                simp [Act.put]
                go_wp2_with fail
                (((with_reducible refine (bag_len (HB5.out.on (by repeat' (first | exact Below.refl _ _ | with_reducible assumption | omega | with_reducible refine below_put_fut ?_ ?_ _ | with_reducible refine below_to_put ?_ | with_reducible refine Below.alloc ?_ ?_ _ | with_reducible refine Below.fut ?_ ?_ _ | with_reducible refine Below.drew ?_ | with_reducible refine Below.setCell ?_ ?_ _ | with_reducible refine Below.atPut ?_ ?_ _ | (simp [go_sem]; done) | (simp [go_sem]; omega)))) (q : Int) (by rw [hl2.out])).mono ?_)); rintro _ W6 ⟨rfl, hb6⟩)
                have HB6 := hid hb6
                clear hb6
                go_wp2_with fail
                go_roundw
                case rel => exact ⟨q, by omega, by go_num, l, hl2, HB6⟩
                case measure => simp [intOf]
theorem bagRoom_walk (M : Int) (wM : (Lit.int .i64 M).wf = true) (n : Int) (wn : (Lit.int .i64 n).wf = true) (w : World) :
    Calls Try.prog 6 #[.int .i64 M, .int .i64 n] w (Makes (.bool true) w) := by
  clear wM wn
  rcases Int.lt_or_le M 0 with c | c
  · have d1 : decide (M < 0) = true := by simpa using c
    go_enter Try.func6, Try.ntmps6
    go_wp2_with (first | (go_at_call 17; ((with_reducible refine (bagAlive_any _).mono ?_)); rintro _ _ ⟨rfl, u, rfl⟩; (try (rw [Fut.put_self u (by first | assumption | (simp [go_sem]; done) | (simp [go_sem]; omega))]))) | (((with_reducible refine wp_region_fut_lit (by kernel_rfl) (by kernel_rfl) ?_)); (repeat (go_big_quiet_step ((first | (go_at_call 17; with_reducible exact Calls.fut_of (bagAlive_any _)))))); ((with_reducible refine wpQuiet_nil ?_)); rintro _ ⟨u, rfl⟩; (try (rw [Fut.put_self u (by first | assumption | (simp [go_sem]; done) | (simp [go_sem]; omega))]))))
    go_ret; exact .mk (by first | rfl | (simp; done) | (simp; omega)) (by repeat' (first | exact Below.refl _ _ | with_reducible assumption | omega | with_reducible refine below_put_fut ?_ ?_ _ | with_reducible refine below_to_put ?_ | with_reducible refine Below.alloc ?_ ?_ _ | with_reducible refine Below.fut ?_ ?_ _ | with_reducible refine Below.drew ?_ | with_reducible refine Below.setCell ?_ ?_ _ | with_reducible refine Below.atPut ?_ ?_ _ | (simp [go_sem]; done) | (simp [go_sem]; omega)))
  have d1 : decide (M < 0) = false := by simp; omega
  rcases Int.lt_or_le 50 M with c2 | c2
  · have d2 : decide (50 < M) = true := by simpa using c2
    go_enter Try.func6, Try.ntmps6
    go_wp2_with (first | (go_at_call 17; ((with_reducible refine (bagAlive_any _).mono ?_)); rintro _ _ ⟨rfl, u, rfl⟩; (try (rw [Fut.put_self u (by first | assumption | (simp [go_sem]; done) | (simp [go_sem]; omega))]))) | (((with_reducible refine wp_region_fut_lit (by kernel_rfl) (by kernel_rfl) ?_)); (repeat (go_big_quiet_step ((first | (go_at_call 17; with_reducible exact Calls.fut_of (bagAlive_any _)))))); ((with_reducible refine wpQuiet_nil ?_)); rintro _ ⟨u, rfl⟩; (try (rw [Fut.put_self u (by first | assumption | (simp [go_sem]; done) | (simp [go_sem]; omega))]))))
    go_ret; exact .mk (by first | rfl | (simp; done) | (simp; omega)) (by repeat' (first | exact Below.refl _ _ | with_reducible assumption | omega | with_reducible refine below_put_fut ?_ ?_ _ | with_reducible refine below_to_put ?_ | with_reducible refine Below.alloc ?_ ?_ _ | with_reducible refine Below.fut ?_ ?_ _ | with_reducible refine Below.drew ?_ | with_reducible refine Below.setCell ?_ ?_ _ | with_reducible refine Below.atPut ?_ ?_ _ | (simp [go_sem]; done) | (simp [go_sem]; omega)))
  have d2 : decide (50 < M) = false := by simp; omega
  rcases Int.lt_or_le n 0 with c3 | c3
  · have d3 : decide (n < 0) = true := by simpa using c3
    go_enter Try.func6, Try.ntmps6
    go_wp2_with (first | (go_at_call 17; ((with_reducible refine (bagAlive_any _).mono ?_)); rintro _ _ ⟨rfl, u, rfl⟩; (try (rw [Fut.put_self u (by first | assumption | (simp [go_sem]; done) | (simp [go_sem]; omega))]))) | (((with_reducible refine wp_region_fut_lit (by kernel_rfl) (by kernel_rfl) ?_)); (repeat (go_big_quiet_step ((first | (go_at_call 17; with_reducible exact Calls.fut_of (bagAlive_any _)))))); ((with_reducible refine wpQuiet_nil ?_)); rintro _ ⟨u, rfl⟩; (try (rw [Fut.put_self u (by first | assumption | (simp [go_sem]; done) | (simp [go_sem]; omega))]))))
    go_ret; exact .mk (by first | rfl | (simp; done) | (simp; omega)) (by repeat' (first | exact Below.refl _ _ | with_reducible assumption | omega | with_reducible refine below_put_fut ?_ ?_ _ | with_reducible refine below_to_put ?_ | with_reducible refine Below.alloc ?_ ?_ _ | with_reducible refine Below.fut ?_ ?_ _ | with_reducible refine Below.drew ?_ | with_reducible refine Below.setCell ?_ ?_ _ | with_reducible refine Below.atPut ?_ ?_ _ | (simp [go_sem]; done) | (simp [go_sem]; omega)))
  have d3 : decide (n < 0) = false := by simp; omega
  rcases Int.lt_or_le 80 n with c4 | c4
  · have d4 : decide (80 < n) = true := by simpa using c4
    go_enter Try.func6, Try.ntmps6
    go_wp2_with (first | (go_at_call 17; ((with_reducible refine (bagAlive_any _).mono ?_)); rintro _ _ ⟨rfl, u, rfl⟩; (try (rw [Fut.put_self u (by first | assumption | (simp [go_sem]; done) | (simp [go_sem]; omega))]))) | (((with_reducible refine wp_region_fut_lit (by kernel_rfl) (by kernel_rfl) ?_)); (repeat (go_big_quiet_step ((first | (go_at_call 17; with_reducible exact Calls.fut_of (bagAlive_any _)))))); ((with_reducible refine wpQuiet_nil ?_)); rintro _ ⟨u, rfl⟩; (try (rw [Fut.put_self u (by first | assumption | (simp [go_sem]; done) | (simp [go_sem]; omega))]))))
    go_ret; exact .mk (by first | rfl | (simp; done) | (simp; omega)) (by repeat' (first | exact Below.refl _ _ | with_reducible assumption | omega | with_reducible refine below_put_fut ?_ ?_ _ | with_reducible refine below_to_put ?_ | with_reducible refine Below.alloc ?_ ?_ _ | with_reducible refine Below.fut ?_ ?_ _ | with_reducible refine Below.drew ?_ | with_reducible refine Below.setCell ?_ ?_ _ | with_reducible refine Below.atPut ?_ ?_ _ | (simp [go_sem]; done) | (simp [go_sem]; omega)))
  · obtain ⟨n, rfl⟩ := Int.eq_ofNat_of_zero_le c3
    obtain ⟨M, rfl⟩ := Int.eq_ofNat_of_zero_le c
    exact bagRoom_good M n (by omega) (by omega) w
set_option maxRecDepth 100000 in
theorem bagRoom_lifted (os : Os) (started : os.Started) (H : Type) (enc : TypeId × Value → H) :
    ReturnsInHanded {} Try.checked os 6 .any (Rows.bagRoomSpec.pre6 enc Try.prog Try.f6 Rows.bagRoomRow.domain false) (Rows.bagRoomSpec.post enc Try.prog Try.f6 false true false false) := by
  refine returnsInHanded_of_change (C := Try.checked) own started (by kernel_rfl) Try.func6
    (ChangeSpec.witness6 (enc := enc) (C := Try.checked) false ⟨#[], #[.int .i64 0, .int .i64 0], []⟩ 8 (by kernel_rfl) (by kernel_rfl) (by kernel_rfl) (by kernel_rfl)) ?_
  intro W base args ds gs before hval0 hW hcnd _
  have hval : ∀ (j : Nat) t v, Try.f6.params[j]? = some t → args[j]? = some v → Value.okWide Try.prog W .any base t v := hval0
  have hW' := hW
  obtain ⟨p, q, hA0, hV, rfl, hfz, hnd⟩ := hW
  have hA : DataW.TrodAll enc Try.prog W 0 (fun _ => true) true Try.f6.params.toList args.toList ds p := hA0
  rw [Try.params6] at hA hval
  obtain ⟨v0, vs0, d0, ds0, p0, q0, hargs, rfl, rfl, h0, r0⟩ := trodAll_cons hA
  obtain ⟨v1, vs1, d1, ds1, p1, q1, rfl, rfl, rfl, h1, r1⟩ := trodAll_cons r0
  obtain ⟨rfl, rfl, rfl⟩ := trodAll_nil r1
  obtain rfl : args = #[v0, v1] := by cases args; simp_all
  obtain ⟨rfl, rfl⟩ := trodVars_none hV
  have k0 := h0
  have lt0 : ∀ x ∈ p0, x.block < W.heap.size := by obtain ⟨m, hm⟩ := k0; exact DataW.trod_lt m _ _ _ hm
  obtain ⟨a0, rfl, -, -, w0⟩ := open_int Try.underlying3 (hval 0 3 v0 rfl rfl) h0
  have k1 := h1
  have lt1 : ∀ x ∈ p1, x.block < W.heap.size := by obtain ⟨m, hm⟩ := k1; exact DataW.trod_lt m _ _ _ hm
  obtain ⟨a1, rfl, -, -, w1⟩ := open_int Try.underlying3 (hval 1 3 v1 rfl rfl) h1
  clear hA0 hval0
  refine (bagRoom_walk a0 w0 a1 w1 W).mono fun e W' ⟨he, u, hu⟩ => ?_
  subst he; subst hu
  have bel := u.below
  exact ⟨_, rfl, _, _, _, [], _, [], hW', trodAll_mk1 (shut_bool Try.underlying4 _), (trodAll_cons_mk (Below.trod laidOut (by kernel_rfl) (of_decide_eq_true (by kernel_rfl)) k0 bel lt0) (trodAll_cons_mk (Below.trod laidOut (by kernel_rfl) (of_decide_eq_true (by kernel_rfl)) k1 bel lt1) trodAll_mk0)), rfl, bel.frame _, fun h => by cases h⟩
/-- The statement. -/
theorem bagRoom_holds : Rows.BagRoomSaid :=
  OpenClaim.holds_of_wide 6 Try.f6 rfl rfl rfl rfl rfl rfl rfl ⟨rfl, rfl, rfl, rfl, rfl⟩ rfl rfl rfl rfl rfl (by kernel_rfl) Try.func6 (by kernel_rfl)
    (of_decide_eq_true (by kernel_rfl)) (by unfold Func.isWrapper; first | (rw [if_pos (by decide +kernel)]; kernel_rfl) | (rw [if_neg (by decide +kernel)]; exact ⟨rfl, rfl⟩))
    (fun os started H enc _ => bagRoom_lifted os started H enc)
#print axioms bagRoom_holds
end Go.Proofs.Ythgajbfgolcpkaa
