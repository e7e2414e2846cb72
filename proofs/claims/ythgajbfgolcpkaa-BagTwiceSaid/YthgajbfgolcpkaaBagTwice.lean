/- BagTwice answers true for every two numbers, and leaves its arguments as they were. No condition. -/
import Derived.Test.YthgajbfgolcpkaaBag7
import Derived.Test.YthgajbfgolcpkaaFrame
namespace Go.Proofs.Ythgajbfgolcpkaa
open Go.ChangeShapes Go.WideShapes Go.ChangeAt Go.RowKit Go.Joins
set_option linter.unusedVariables false
set_option linter.unusedSimpArgs false
/-- Packets with the news 0, 1, .. -/
@[reducible] def ack (j : Nat) : Pk := (0, 0, 0, (j : Int))
def acks (n : Nat) : List Pk := (List.range n).map ack
theorem acks_length (n : Nat) : (acks n).length = n := by simp [acks]
theorem acks_at {n k : Nat} (h : k < n) : (acks n)[k]? = some (ack k) := by simp [acks, h]
theorem acks_succ (n : Nat) : acks n ++ [(0, 0, 0, (n : Int))] = acks (n + 1) := by rw [show ((0, 0, 0, (n : Int)) : Pk) = ack n from rfl]; simp [acks, List.range_succ]
set_option maxRecDepth 100000 in
set_option maxHeartbeats 4000000 in
theorem bagTwice_good (n k : Nat) (h1 : 1 ≤ n) (h2 : n ≤ 40) (h3 : k < n) (w : World) :
    Calls Try.prog 4 #[.int .i64 n, .int .i64 k] w (Makes (.bool true) w) := by
  have d1 : decide ((n : Int) < 1) = false := by simp; omega
  have d2 : decide ((40 : Int) < n) = false := by simp; omega
  have d3 : decide ((k : Int) < 0) = false := by simp
  have d4 : decide (n ≤ k) = false := by simp; omega
  go_enter Try.func4, Try.ntmps4
  go_wp2_with (first | (go_at_call 17; ((with_reducible refine (bagAlive_any _).mono ?_)); rintro _ _ ⟨rfl, u, rfl⟩; (try (rw [Fut.put_self u (by first | assumption | (simp [go_sem]; done) | (simp [go_sem]; omega))]))) | (((with_reducible refine wp_region_fut_lit (by kernel_rfl) (by kernel_rfl) ?_)); (repeat (go_big_quiet_step ((first | (go_at_call 17; with_reducible exact Calls.fut_of (bagAlive_any _)))))); ((with_reducible refine wpQuiet_nil ?_)); rintro _ ⟨u, rfl⟩; (try (rw [Fut.put_self u (by first | assumption | (simp [go_sem]; done) | (simp [go_sem]; omega))]))))
  obtain ⟨B, hB⟩ : ∃ B : Base, B = ⟨w, fun _ => none⟩ := ⟨_, rfl⟩
  (((with_reducible refine (bag_new 100 100 rfl B (hid (by rw [hB]; exact fun _ => rfl)) _ (by rw [hB]; exact (by repeat' (first | exact Below.refl _ _ | with_reducible assumption | omega | with_reducible refine below_put_fut ?_ ?_ _ | with_reducible refine below_to_put ?_ | with_reducible refine Below.alloc ?_ ?_ _ | with_reducible refine Below.fut ?_ ?_ _ | with_reducible refine Below.drew ?_ | with_reducible refine Below.setCell ?_ ?_ _ | with_reducible refine Below.atPut ?_ ?_ _ | (simp [go_sem]; done) | (simp [go_sem]; omega))))).mono ?_)); rintro _ W1 ⟨g, rfl, hb1⟩)
  have HB := hid hB
  have HB1 := hid hb1
  clear hB hb1 d1 d2 d3 d4
  go_wp2_with fail
  go_loopw [6] (fun i wr => ∃ m : Nat, m ≤ n ∧ i = .int .i64 m ∧ Hid (Bag 100 B g (acks m) wr)) (fun i _ => n - (intOf i).toNat)
  case atStart => exact ⟨0, Nat.zero_le _, rfl, HB1⟩
  case round =>
    obtain ⟨m, hm, rfl, hb⟩ := hrel
    by_cases hlt : m < n
    · go_wp2_with fail
      (((with_reducible refine (bag_put hb.out (by rw [acks_length]; omega) (by decide) 0 0 0 m).mono ?_)); rintro _ W2 ⟨rfl, hb2⟩)
      rw [acks_succ] at hb2
      have HB2 := hid hb2
      clear hb2
      go_wp2_with fail
      go_roundw
      case rel => exact ⟨m + 1, by omega, by go_num, HB2⟩
      case measure => simp [intOf]; omega
    · obtain rfl : m = n := by omega
      clear HB1 hm
      go_wp2_with fail
      (((with_reducible refine (bag_twice hb.out (by rw [acks_length]; omega) (by decide) _ k rfl _ (acks_at h3)).mono ?_)); rintro _ W2 ⟨rfl, hb2⟩)
      have HB2 := hid hb2
      clear hb2
      go_wp2_with fail
      (((with_reducible refine (bag_len HB2.out ((m : Int) + 1) (by simp [acks_length])).mono ?_)); rintro _ W3 ⟨rfl, hb3⟩)
      have HB3 := hid hb3
      clear hb3
      have e1 : ((m : Int) + 1 != (m : Int) + 1) = false := by simp
      go_wp2_with fail
      (((with_reducible refine (bag_take HB3.out (by simp [acks_length]; omega) _ k rfl (0, 0, 0, (k : Int)) (by rw [List.getElem?_append_left (by rw [acks_length]; exact h3)]; exact acks_at h3)).mono ?_)); rintro _ W4 ⟨rfl, hb4⟩)
      rw [List.eraseIdx_append_of_lt_length (by rw [acks_length]; exact h3)] at hb4
      have HB4 := hid hb4
      clear hb4
      go_simp
      rename_i K hK
      refine hK _ _ ?_
      clear hK K
      refine Go.Great.wpList_runTo rfl (some 54) rfl (.tuple #[.agg (pk 0 0 0 k), .bool true]) W4 (by simp [execOp, Act.eval, Act.put, go_sem]) ?_
      refine Go.Great.wpList_runTo rfl (some 58) rfl (.agg (pk 0 0 0 k)) W4 (by simp [execOp, Act.eval, Act.put, go_sem]) ?_
      refine Go.Great.wpList_runTo rfl (some 59) rfl (.bool true) W4 (by simp [execOp, Act.eval, Act.put, go_sem]) ?_
      refine Go.Great.wpList_runTo rfl (some 7) rfl (.pointer (some ⟨(W4).heap.size, 0, none⟩)) (World.alloc W4 (.cells (pk 0 0 0 0) 38)) (by kernel_rfl) ?_
      refine wpList_store_row rfl 38 (.tmp 7) (.tmp 58) rfl ((W4).heap.size) (pk 0 0 0 k) (pk 0 0 0 0) (by simp [Act.eval, Act.put]) (by simp [Act.eval, Act.put]) (heap_alloc_at _ _ _ rfl) (by kernel_rfl) rfl (by simp [Value.oneCell']) ?_
      rw [put_alloc]
      simp [Act.put]
      have HB5 := hid (HB4.out.box (.cells (pk 0 0 0 k) 38))
      have hlen : ((acks m).eraseIdx k).length = m - 1 := by rw [List.length_eraseIdx, acks_length, if_pos h3]
      have HLE := hid hlen
      clear hlen
      go_wp2_with fail
      (((with_reducible refine (bag_take HB5.out (by rw [List.length_append, HLE.out]; simp; omega) ((m : Int) - 1) (m - 1) (by omega) (0, 0, 0, (k : Int)) (by rw [List.getElem?_append_right (by rw [HLE.out]; omega), HLE.out]; simp)).mono ?_)); rintro _ W5 ⟨rfl, hb5⟩)
      have HB6 := hid hb5
      clear hb5
      go_simp
      rename_i K hK
      refine hK _ _ ?_
      clear hK K
      refine Go.Great.wpList_runTo rfl (some 60) rfl (.tuple #[.agg (pk 0 0 0 k), .bool true]) W5 (by simp [execOp, Act.eval, Act.put, go_sem]) ?_
      refine Go.Great.wpList_runTo rfl (some 65) rfl (.agg (pk 0 0 0 k)) W5 (by simp [execOp, Act.eval, Act.put, go_sem]) ?_
      refine Go.Great.wpList_runTo rfl (some 66) rfl (.bool true) W5 (by simp [execOp, Act.eval, Act.put, go_sem]) ?_
      refine Go.Great.wpList_runTo rfl (some 9) rfl (.pointer (some ⟨(W5).heap.size, 0, none⟩)) (World.alloc W5 (.cells (pk 0 0 0 0) 38)) (by kernel_rfl) ?_
      refine wpList_store_row rfl 38 (.tmp 9) (.tmp 65) rfl ((W5).heap.size) (pk 0 0 0 k) (pk 0 0 0 0) (by simp [Act.eval, Act.put]) (by simp [Act.eval, Act.put]) (heap_alloc_at _ _ _ rfl) (by kernel_rfl) rfl (by simp [Value.oneCell']) ?_
      rw [put_alloc]
      simp [Act.put]
      have hk5 := HB6.out.kept (Base.with_self _ _ _)
      have hl5 := lt_of_heap hk5
      have c5 := fun i => cell_of_row W5 W4.heap.size i _ _ (0, 0) hk5
      clear hk5
      have e2 : ((k : Int) == (k : Int)) = true := by simp
      go_wp2_with fail
      (((with_reducible refine (bag_len (HB6.out.on (by repeat' (first | exact Below.refl _ _ | with_reducible assumption | omega | with_reducible refine below_put_fut ?_ ?_ _ | with_reducible refine below_to_put ?_ | with_reducible refine Below.alloc ?_ ?_ _ | with_reducible refine Below.fut ?_ ?_ _ | with_reducible refine Below.drew ?_ | with_reducible refine Below.setCell ?_ ?_ _ | with_reducible refine Below.atPut ?_ ?_ _ | (simp [go_sem]; done) | (simp [go_sem]; omega)))) ((m : Int) - 1) (by rw [List.length_eraseIdx, List.length_append, HLE.out]; simp; omega)).mono ?_)); rintro _ W6 ⟨rfl, hb7⟩)
      have hbel : Below w.heap.size w W6 := by have := hb7.below; rw [HB.out] at this; exact this
      clear hb7
      have e3 : ((m : Int) - 1 == (m : Int) - 1) = true := by simp
      go_wp2_with fail
      go_ret
      exact .mk rfl hbel
theorem bagTwice_walk (n : Int) (wn : (Lit.int .i64 n).wf = true) (k : Int) (wk : (Lit.int .i64 k).wf = true) (w : World) :
    Calls Try.prog 4 #[.int .i64 n, .int .i64 k] w (Makes (.bool true) w) := by
  clear wn wk
  rcases Int.lt_or_le n 1 with c | c
  · have d1 : decide (n < 1) = true := by simpa using c
    go_enter Try.func4, Try.ntmps4
    go_wp2_with (first | (go_at_call 17; ((with_reducible refine (bagAlive_any _).mono ?_)); rintro _ _ ⟨rfl, u, rfl⟩; (try (rw [Fut.put_self u (by first | assumption | (simp [go_sem]; done) | (simp [go_sem]; omega))]))) | (((with_reducible refine wp_region_fut_lit (by kernel_rfl) (by kernel_rfl) ?_)); (repeat (go_big_quiet_step ((first | (go_at_call 17; with_reducible exact Calls.fut_of (bagAlive_any _)))))); ((with_reducible refine wpQuiet_nil ?_)); rintro _ ⟨u, rfl⟩; (try (rw [Fut.put_self u (by first | assumption | (simp [go_sem]; done) | (simp [go_sem]; omega))]))))
    go_ret; exact .mk (by first | rfl | (simp; done) | (simp; omega)) (by repeat' (first | exact Below.refl _ _ | with_reducible assumption | omega | with_reducible refine below_put_fut ?_ ?_ _ | with_reducible refine below_to_put ?_ | with_reducible refine Below.alloc ?_ ?_ _ | with_reducible refine Below.fut ?_ ?_ _ | with_reducible refine Below.drew ?_ | with_reducible refine Below.setCell ?_ ?_ _ | with_reducible refine Below.atPut ?_ ?_ _ | (simp [go_sem]; done) | (simp [go_sem]; omega)))
  have d1 : decide (n < 1) = false := by simp; omega
  rcases Int.lt_or_le 40 n with c2 | c2
  · have d2 : decide (40 < n) = true := by simpa using c2
    go_enter Try.func4, Try.ntmps4
    go_wp2_with (first | (go_at_call 17; ((with_reducible refine (bagAlive_any _).mono ?_)); rintro _ _ ⟨rfl, u, rfl⟩; (try (rw [Fut.put_self u (by first | assumption | (simp [go_sem]; done) | (simp [go_sem]; omega))]))) | (((with_reducible refine wp_region_fut_lit (by kernel_rfl) (by kernel_rfl) ?_)); (repeat (go_big_quiet_step ((first | (go_at_call 17; with_reducible exact Calls.fut_of (bagAlive_any _)))))); ((with_reducible refine wpQuiet_nil ?_)); rintro _ ⟨u, rfl⟩; (try (rw [Fut.put_self u (by first | assumption | (simp [go_sem]; done) | (simp [go_sem]; omega))]))))
    go_ret; exact .mk (by first | rfl | (simp; done) | (simp; omega)) (by repeat' (first | exact Below.refl _ _ | with_reducible assumption | omega | with_reducible refine below_put_fut ?_ ?_ _ | with_reducible refine below_to_put ?_ | with_reducible refine Below.alloc ?_ ?_ _ | with_reducible refine Below.fut ?_ ?_ _ | with_reducible refine Below.drew ?_ | with_reducible refine Below.setCell ?_ ?_ _ | with_reducible refine Below.atPut ?_ ?_ _ | (simp [go_sem]; done) | (simp [go_sem]; omega)))
  have d2 : decide (40 < n) = false := by simp; omega
  rcases Int.lt_or_le k 0 with c3 | c3
  · have d3 : decide (k < 0) = true := by simpa using c3
    go_enter Try.func4, Try.ntmps4
    go_wp2_with (first | (go_at_call 17; ((with_reducible refine (bagAlive_any _).mono ?_)); rintro _ _ ⟨rfl, u, rfl⟩; (try (rw [Fut.put_self u (by first | assumption | (simp [go_sem]; done) | (simp [go_sem]; omega))]))) | (((with_reducible refine wp_region_fut_lit (by kernel_rfl) (by kernel_rfl) ?_)); (repeat (go_big_quiet_step ((first | (go_at_call 17; with_reducible exact Calls.fut_of (bagAlive_any _)))))); ((with_reducible refine wpQuiet_nil ?_)); rintro _ ⟨u, rfl⟩; (try (rw [Fut.put_self u (by first | assumption | (simp [go_sem]; done) | (simp [go_sem]; omega))]))))
    go_ret; exact .mk (by first | rfl | (simp; done) | (simp; omega)) (by repeat' (first | exact Below.refl _ _ | with_reducible assumption | omega | with_reducible refine below_put_fut ?_ ?_ _ | with_reducible refine below_to_put ?_ | with_reducible refine Below.alloc ?_ ?_ _ | with_reducible refine Below.fut ?_ ?_ _ | with_reducible refine Below.drew ?_ | with_reducible refine Below.setCell ?_ ?_ _ | with_reducible refine Below.atPut ?_ ?_ _ | (simp [go_sem]; done) | (simp [go_sem]; omega)))
  have d3 : decide (k < 0) = false := by simp; omega
  rcases Int.lt_or_le k n with c4 | c4
  · obtain ⟨n, rfl⟩ := Int.eq_ofNat_of_zero_le (show 0 ≤ n by omega)
    obtain ⟨k, rfl⟩ := Int.eq_ofNat_of_zero_le c3
    exact bagTwice_good n k (by omega) (by omega) (by omega) w
  · have d4 : decide (n ≤ k) = true := by simpa using c4
    go_enter Try.func4, Try.ntmps4
    go_wp2_with (first | (go_at_call 17; ((with_reducible refine (bagAlive_any _).mono ?_)); rintro _ _ ⟨rfl, u, rfl⟩; (try (rw [Fut.put_self u (by first | assumption | (simp [go_sem]; done) | (simp [go_sem]; omega))]))) | (((with_reducible refine wp_region_fut_lit (by kernel_rfl) (by kernel_rfl) ?_)); (repeat (go_big_quiet_step ((first | (go_at_call 17; with_reducible exact Calls.fut_of (bagAlive_any _)))))); ((with_reducible refine wpQuiet_nil ?_)); rintro _ ⟨u, rfl⟩; (try (rw [Fut.put_self u (by first | assumption | (simp [go_sem]; done) | (simp [go_sem]; omega))]))))
    go_ret; exact .mk (by first | rfl | (simp; done) | (simp; omega)) (by repeat' (first | exact Below.refl _ _ | with_reducible assumption | omega | with_reducible refine below_put_fut ?_ ?_ _ | with_reducible refine below_to_put ?_ | with_reducible refine Below.alloc ?_ ?_ _ | with_reducible refine Below.fut ?_ ?_ _ | with_reducible refine Below.drew ?_ | with_reducible refine Below.setCell ?_ ?_ _ | with_reducible refine Below.atPut ?_ ?_ _ | (simp [go_sem]; done) | (simp [go_sem]; omega)))
set_option maxRecDepth 100000 in
theorem bagTwice_lifted (os : Os) (started : os.Started) (H : Type) (enc : TypeId × Value → H) :
    ReturnsInHanded {} Try.checked os 4 .any (Rows.bagTwiceSpec.pre6 enc Try.prog Try.f4 Rows.bagTwiceRow.domain false) (Rows.bagTwiceSpec.post enc Try.prog Try.f4 false true false false) := by
  refine returnsInHanded_of_change (C := Try.checked) own started (by kernel_rfl) Try.func4
    (ChangeSpec.witness6 (enc := enc) (C := Try.checked) false ⟨#[], #[.int .i64 0, .int .i64 0], []⟩ 8 (by kernel_rfl) (by kernel_rfl) (by kernel_rfl) (by kernel_rfl)) ?_
  intro W base args ds gs before hval0 hW hcnd _
  have hval : ∀ (j : Nat) t v, Try.f4.params[j]? = some t → args[j]? = some v → Value.okWide Try.prog W .any base t v := hval0
  have hW' := hW
  obtain ⟨p, q, hA0, hV, rfl, hfz, hnd⟩ := hW
  have hA : DataW.TrodAll enc Try.prog W 0 (fun _ => true) true Try.f4.params.toList args.toList ds p := hA0
  rw [Try.params4] at hA hval
  obtain ⟨v0, vs0, d0, ds0, p0, q0, hargs, rfl, rfl, h0, r0⟩ := trodAll_cons hA
  obtain ⟨v1, vs1, d1, ds1, p1, q1, rfl, rfl, rfl, h1, r1⟩ := trodAll_cons r0
  obtain ⟨rfl, rfl, rfl⟩ := trodAll_nil r1
  obtain rfl : args = #[v0, v1] := by cases args; simp_all
  obtain ⟨rfl, rfl⟩ := trodVars_none hV
  have k0 := h0
  have lt0 : ∀ x ∈ p0, x.block < W.heap.size := by obtain ⟨m, hm⟩ := k0; exact DataW.trod_lt m _ _ _ hm
  obtain ⟨a0, rfl, -, -, w0⟩ := open_int Try.underlying3 (hval 0 3 v0 rfl rfl) h0
  have k1 := h1
  have lt1 : ∀ x ∈ p1, x.block < W.heap.size := by obtain ⟨m, hm⟩ := k1; exact DataW.trod_lt m _ _ _ hm
  obtain ⟨a1, rfl, -, -, w1⟩ := open_int Try.underlying3 (hval 1 3 v1 rfl rfl) h1
  clear hA0 hval0
  refine (bagTwice_walk a0 w0 a1 w1 W).mono fun e W' ⟨he, u, hu⟩ => ?_
  subst he; subst hu
  have bel := u.below
  exact ⟨_, rfl, _, _, _, [], _, [], hW', trodAll_mk1 (shut_bool Try.underlying4 _), (trodAll_cons_mk (Below.trod laidOut (by kernel_rfl) (of_decide_eq_true (by kernel_rfl)) k0 bel lt0) (trodAll_cons_mk (Below.trod laidOut (by kernel_rfl) (of_decide_eq_true (by kernel_rfl)) k1 bel lt1) trodAll_mk0)), rfl, bel.frame _, fun h => by cases h⟩
/-- The statement. -/
theorem bagTwice_holds : Rows.BagTwiceSaid :=
  OpenClaim.holds_of_wide 4 Try.f4 rfl rfl rfl rfl rfl rfl rfl ⟨rfl, rfl, rfl, rfl, rfl⟩ rfl rfl rfl rfl rfl (by kernel_rfl) Try.func4 (by kernel_rfl)
    (of_decide_eq_true (by kernel_rfl)) (by unfold Func.isWrapper; first | (rw [if_pos (by decide +kernel)]; kernel_rfl) | (rw [if_neg (by decide +kernel)]; exact ⟨rfl, rfl⟩))
    (fun os started H enc _ => bagTwice_lifted os started H enc)
#print axioms bagTwice_holds
end Go.Proofs.Ythgajbfgolcpkaa
