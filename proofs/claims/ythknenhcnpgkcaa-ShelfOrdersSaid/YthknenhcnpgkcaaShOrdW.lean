/- ShelfOrders answers true for every two ints: the walk. -/
import Derived.Test.YthknenhcnpgkcaaShO1
import Derived.Test.YthknenhcnpgkcaaShO3
import Derived.Test.YthknenhcnpgkcaaSame
import Derived.Test.YthknenhcnpgkcaaSl2
import Derived.IntWalk
namespace Go.Proofs.Ythknenhcnpgkcaa
open Go.RowKit
set_option linter.unusedVariables false
set_option linter.unusedSimpArgs false
set_option maxRecDepth 100000 in
set_option maxHeartbeats 4000000 in
theorem shelfOrders_good (n step : Nat) (n1 : 1 ≤ n) (n2 : n ≤ 150) (s1 : 1 ≤ step) (s2 : step ≤ 996) (w : World) :
    Calls Try.prog 3 #[.int .i64 n, .int .i64 step] w (Makes (.bool true) w) := by
  have d1 : decide ((n : Int) < 1) = false := by simp; omega
  have d2 : decide ((150 : Int) < n) = false := by simp; omega
  have d3 : decide ((step : Int) < 1) = false := by simp; omega
  have d4 : decide ((996 : Int) < step) = false := by simp; omega
  go_enter Try.func3, Try.ntmps3
  go_wp2_with (first | (go_at_call 24; ((with_reducible refine (shAlive_any _).mono ?_)); rintro _ _ ⟨rfl, u, rfl⟩; (try (rw [Fut.put_self u (by first | assumption | (simp [go_sem]; done) | (simp [go_sem]; omega))]))) | (((with_reducible refine wp_region_fut_lit (by kernel_rfl) (by kernel_rfl) ?_)); (repeat (go_big_quiet_step ((first | (go_at_call 24; with_reducible exact Calls.fut_of (shAlive_any _)))))); ((with_reducible refine wpQuiet_nil ?_)); rintro _ ⟨u, rfl⟩; (try (rw [Fut.put_self u (by first | assumption | (simp [go_sem]; done) | (simp [go_sem]; omega))]))))
  clear d1 d2 d3 d4
  have hbX := u.below
  have hzX := hbX.size
  generalize u.val = X at hbX hzX ⊢
  (((with_reducible refine (sh_new w.heap.size w 200 200 (by decide) _ hbX hzX).mono ?_)); rintro _ W1 ⟨rfl, h1⟩)
  generalize X.heap.size = ga at h1 ⊢
  go_wp2_with fail
  (((with_reducible refine (two_new h1 200 (by decide)).mono ?_)); rintro _ W2 ⟨rfl, h2⟩)
  generalize W1.heap.size = gb at h2 ⊢
  have H2 := hid h2
  clear h1 h2 hbX hzX
  go_wp2_with fail
  go_loopw [7] (fun i wr => ∃ q : Nat, q ≤ n ∧ i = .int .i64 q ∧ ∃ xs, Hid (Has step 0 q xs) ∧ Hid (Two w.heap.size w 200 xs [] ga gb wr)) (fun i _ => n - (intOf i).toNat)
  case atStart => exact ⟨0, Nat.zero_le _, rfl, [], hid (Has.none _ _), H2⟩
  case round =>
    obtain ⟨q, hq, rfl, xs, HX, HT⟩ := hrel
    by_cases hlt : q < n
    · have hm : q * step ≤ 149 * 996 := Nat.mul_le_mul (by omega) s2
      obtain ⟨p, hp⟩ : ∃ p, p = q * step := ⟨_, rfl⟩
      obtain ⟨kq, hkq⟩ : ∃ kq, kq = p % 997 := ⟨_, rfl⟩
      have e1 : IntKind.i64.wrap ((q : Int) * (step : Int)) = (p : Int) := by rw [← Int.natCast_mul, ← hp]; exact IntWalk.i64_in _ (by omega)
      have e2 : (p : Int).tmod 997 = (kq : Int) := by rw [Int.tmod_eq_emod_of_nonneg (by omega)]; omega
      have hk : kq ≤ 996 := by omega
      obtain ⟨xs', hP, hX'⟩ := HX.out.up s1 s2 (by omega) (by omega)
      have HP := hid (show putL 200 (keyOf kq) ⟨#[118]⟩ xs = (0, xs') by rw [hkq, hp]; exact hP)
      have HX' := hid hX'
      clear hm hP hX' hkq hp
      go_wp2_with fail
      (((with_reducible refine (key_is _ kq hk).mono ?_)); rintro _ _ ⟨rfl, u, rfl⟩)
      have HT' := hid (HT.out.on u.below)
      go_wp2_with fail
      (((with_reducible refine (two_put HT'.out (by have := HX.out.len; omega) (keyOf kq) ⟨#[118]⟩ 0 xs' HP.out).mono ?_)); rintro _ W3 ⟨rfl, h3⟩)
      have H3 := hid h3
      clear h3
      go_wp2
      go_roundw
      case rel => exact ⟨q + 1, by omega, by go_num, xs', HX', H3⟩
      case measure => simp [intOf]; omega
    · obtain rfl : n = q := by omega
      have HS := hid HT.out.swap
      have HX1 := HX
      have e3 : IntKind.i64.wrap ((n : Int) - 1) = (n : Int) - 1 := IntWalk.i64_in _ (by omega)
      clear HT HX hlt
      go_wp2_with fail
      go_loopw [8] (fun i wr => ∃ p : Nat, p ≤ n ∧ i = .int .i64 ((p : Int) - 1) ∧ ∃ ys, Hid (Has step p n ys) ∧ Hid (Two w.heap.size w 200 ys xs gb ga wr)) (fun i _ => (intOf i + 1).toNat)
      case atStart => exact ⟨n, Nat.le_refl _, rfl, [], hid (Has.none _ _), HS⟩
      case round =>
        clear HS
        obtain ⟨p, hp0, rfl, ys, HY, HT⟩ := hrel
        rcases p with _ | q
        · obtain rfl : ys = xs := HY.out.eq HX1.out
          have hl : ys.length = n := by have := HX1.out.len; omega
          have HL := hid hl
          have HA := hid HT.out.swap
          have hDn := hid (show deepN ys.length = deepN n by rw [hl])
          clear HT HY hp0 e3
          go_wp2_with fail
          refine (sh_items HA.out.left (by omega)).mono ?_
          rintro _ W5 ⟨a1, c1, rfl, hr1, hb1, -⟩
          rw [hl] at hr1 ⊢
          have H5 := hid (HA.out.on hb1)
          have S1 := hid (hr1.src (flat_one _))
          clear hr1 hb1 HA
          go_wp2_with fail
          refine (sh_items H5.out.swap.left (by omega)).mono ?_
          rintro _ W6 ⟨a2, c2, rfl, hr2, hb2, -⟩
          rw [hl] at hr2 ⊢
          have H6 := hid (H5.out.on hb2)
          have S2 := hid (S1.out.heap hb2)
          have S3 := hid (hr2.src (flat_one _))
          clear hr2 hb2 H5 S1 hl
          go_wp2_with fail
          (((with_reducible refine (same_is _ _ _ ys n HL.out (by omega) S2.out S3.out).mono ?_)); rintro _ _ ⟨rfl, u, rfl⟩)
          have H7 := hid (H6.out.on u.below)
          have S7 := hid (S2.out.heap u.below)
          clear H6 S2 S3
          generalize u.val = W7 at H7 S7 ⊢
          go_wp2_with fail
          refine (sh_depth H7.out.left (by have := HL.out; omega)).mono ?_
          rintro _ _ ⟨⟨D, rfl, hD, -, hD2, -⟩, u8, rfl⟩
          rw [hDn.out] at hD
          have H8 := hid (H7.out.on u8.below)
          have S8 := hid (S7.out.heap u8.below)
          have d5 : decide (deepN n < D) = false := by simp; omega
          have d5i : decide (((deepN n : Nat) : Int) < (D : Int)) = false := by simp; omega
          clear H7 S7 hD hD2
          generalize u8.val = W8 at H8 S8 ⊢
          go_wp2_with fail
          (((with_reducible refine (sh_len H8.out.left n HL.out).mono ?_)); rintro _ _ ⟨rfl, u9, rfl⟩)
          have H9 := hid (H8.out.on u9.below)
          have S9 := hid (S8.out.heap u9.below)
          clear H8 S8
          generalize u9.val = W9 at H9 S9 ⊢
          go_wp2_with fail
          (((with_reducible refine (deep_is _ n (by omega)).mono ?_)); rintro _ _ ⟨rfl, u10, rfl⟩)
          have H10 := hid (H9.out.on u10.below)
          have S10 := hid (S9.out.heap u10.below)
          clear H9 S9
          generalize u10.val = W10 at H10 S10 ⊢
          go_wp2_with fail
          refine (sh_depth H10.out.swap.left (by have := HL.out; omega)).mono ?_
          rintro _ _ ⟨⟨D2, rfl, hD, -, hD2, -⟩, u8, rfl⟩
          rw [hDn.out] at hD
          have H11 := hid (H10.out.on u8.below)
          have S11 := hid (S10.out.heap u8.below)
          have d6 : decide (deepN n < D2) = false := by simp; omega
          have d6i : decide (((deepN n : Nat) : Int) < (D2 : Int)) = false := by simp; omega
          clear H10 S10 hD hD2
          generalize u8.val = W11 at H11 S11 ⊢
          go_wp2_with fail
          (((with_reducible refine (sh_len H11.out.swap.left n HL.out).mono ?_)); rintro _ _ ⟨rfl, u9, rfl⟩)
          have H12 := hid (H11.out.on u9.below)
          have S12 := hid (S11.out.heap u9.below)
          clear H11 S11
          generalize u9.val = W12 at H12 S12 ⊢
          go_wp2_with fail
          (((with_reducible refine (deep_is _ n (by omega)).mono ?_)); rintro _ _ ⟨rfl, u10, rfl⟩)
          have hbw := H12.out.1.trans (u10.below.mono H12.out.left.ge)
          have SZ := hid (S12.out.heap u10.below)
          clear H12 S12
          generalize u10.val = Z at hbw SZ ⊢
          have hzw := hbw.size
          go_wp2_with fail
          go_loopw [11] (fun x wr => ∃ i : Nat, 1 ≤ i ∧ i ≤ n ∧ x = .int .i64 i ∧ ∃ u : Fut Z, wr = u.val) (fun x _ => n - (intOf x).toNat)
          case atStart => exact ⟨1, Nat.le_refl _, n1, rfl, ⟨⟨_, (by repeat' (first | exact Below.refl _ _ | with_reducible assumption | omega | with_reducible refine below_put_fut ?_ ?_ _ | with_reducible refine below_to_put ?_ | with_reducible refine Below.alloc ?_ ?_ _ | with_reducible refine Below.fut ?_ ?_ _ | with_reducible refine Below.drew ?_ | with_reducible refine Below.setCell ?_ ?_ _ | with_reducible refine Below.atPut ?_ ?_ _ | (simp [go_sem]; done) | (simp [go_sem]; omega)))⟩, rfl⟩⟩
          case round =>
            obtain ⟨i, hi1, hi, rfl, u, rfl⟩ := hrel
            by_cases hlt : i < n
            · obtain ⟨j, hj⟩ : ∃ j, i = j + 1 := ⟨i - 1, by omega⟩
              have e5 : IntKind.i64.wrap ((i : Int) - 1) = (j : Int) := by rw [show (i : Int) - 1 = (j : Int) by omega]; exact IntWalk.i64_in _ (by omega)
              obtain ⟨x, hx⟩ : ∃ x, ys[j]? = some x := ⟨ys[j]'(by rw [HL.out]; omega), List.getElem?_eq_getElem _⟩
              obtain ⟨y, hy⟩ : ∃ y, ys[i]? = some y := ⟨ys[i]'(by rw [HL.out]; omega), List.getElem?_eq_getElem _⟩
              obtain ⟨b1, o1, rfl, p1, p2, p3⟩ := (show Src Z 2 (.slice a1 ys.length c1) ys.length (flat ys) by rw [HL.out]; exact SZ.out).at_ j x hx
              obtain ⟨b2, o2, he, r1, r2, r3⟩ := (show Src Z 2 (.slice (some ⟨b1, o1, none⟩) ys.length c1) ys.length (flat ys) by rw [HL.out]; exact SZ.out).at_ i y hy
              obtain ⟨rfl, rfl⟩ : b2 = b1 ∧ o2 = o1 := by injection he with he; injection he with h1 h2; exact ⟨h1.symm, h2.symm⟩
              have hll : Op.bytesLess x.1.data.toList y.1.data.toList = true := HX1.out.next hx (by rw [← hj]; exact hy)
              clear hx hy he
              obtain ⟨s1', t1⟩ := x
              obtain ⟨s2', t2⟩ := y
              simp only at p1 p2 p3 r1 r2 r3 hll
              have l1 : b2 < Z.heap.size := World.block_lt_of_cell? _ _ p1
              have hjn : j < n := by omega
              clear hj
              have hl3 : Op.bytesLess s1'.toList s2'.toList = true := by rw [ByteArray.toList_eq, ByteArray.toList_eq]; exact hll
              go_wp2_with (first | (((with_reducible refine wp_region_fut_lit (by kernel_rfl) (by kernel_rfl) ?_)); (repeat (go_big_quiet_step ((first | fail)))); ((with_reducible refine wpQuiet_nil ?_)); rintro _ ⟨u, rfl⟩; (try (rw [Fut.put_self u (by first | assumption | (simp [go_sem]; done) | (simp [go_sem]; omega))]))))
              go_roundw
              case rel => exact ⟨i + 1, by omega, by omega, by go_num, ⟨⟨_, (by repeat' (first | exact Below.refl _ _ | with_reducible assumption | omega | with_reducible refine below_put_fut ?_ ?_ _ | with_reducible refine below_to_put ?_ | with_reducible refine Below.alloc ?_ ?_ _ | with_reducible refine Below.fut ?_ ?_ _ | with_reducible refine Below.drew ?_ | with_reducible refine Below.setCell ?_ ?_ _ | with_reducible refine Below.atPut ?_ ?_ _ | (simp [go_sem]; done) | (simp [go_sem]; omega)))⟩, rfl⟩⟩
              case measure => simp [intOf]; omega
            · obtain rfl : i = n := by omega
              go_wp2_with (first | (((with_reducible refine wp_region_fut_lit (by kernel_rfl) (by kernel_rfl) ?_)); (repeat (go_big_quiet_step ((first | fail)))); ((with_reducible refine wpQuiet_nil ?_)); rintro _ ⟨u, rfl⟩; (try (rw [Fut.put_self u (by first | assumption | (simp [go_sem]; done) | (simp [go_sem]; omega))]))))
              go_ret
              exact .mk (by first | rfl | (simp; done)) (hbw.trans (u.below.mono hzw))
        · obtain ⟨x, hx⟩ : ∃ x : Int, x = ((q + 1 : Nat) : Int) - 1 := ⟨_, rfl⟩
          rw [← hx]
          obtain rfl : x = (q : Int) := by omega
          clear hx
          have hm : q * step ≤ 149 * 996 := Nat.mul_le_mul (by omega) s2
          obtain ⟨p, hp⟩ : ∃ p, p = q * step := ⟨_, rfl⟩
          obtain ⟨kq, hkq⟩ : ∃ kq, kq = p % 997 := ⟨_, rfl⟩
          have e1 : IntKind.i64.wrap ((q : Int) * (step : Int)) = (p : Int) := by rw [← Int.natCast_mul, ← hp]; exact IntWalk.i64_in _ (by omega)
          have e2 : (p : Int).tmod 997 = (kq : Int) := by rw [Int.tmod_eq_emod_of_nonneg (by omega)]; omega
          have e4 : IntKind.i64.wrap ((q : Int) - 1) = (q : Int) - 1 := IntWalk.i64_in _ (by omega)
          have hk : kq ≤ 996 := by omega
          obtain ⟨ys', hP, hY'⟩ := HY.out.down s1 s2 (by omega) (by omega)
          have HP := hid (show putL 200 (keyOf kq) ⟨#[118]⟩ ys = (0, ys') by rw [hkq, hp]; exact hP)
          have HY' := hid hY'
          have hyl := HY.out.len
          clear hm hP hY' hkq hp
          go_wp2_with fail
          (((with_reducible refine (key_is _ kq hk).mono ?_)); rintro _ _ ⟨rfl, u, rfl⟩)
          have HT' := hid (HT.out.on u.below)
          go_wp2_with fail
          (((with_reducible refine (two_put HT'.out (by omega) (keyOf kq) ⟨#[118]⟩ 0 ys' HP.out).mono ?_)); rintro _ W3 ⟨rfl, h3⟩)
          have H3 := hid h3
          clear h3 hyl
          go_wp2
          go_roundw
          case rel => exact ⟨q, by omega, by go_num, ys', HY', H3⟩
          case measure => simp [intOf] <;> omega
theorem shelfOrders_walk (n : Int) (wn : (Lit.int .i64 n).wf = true) (step : Int) (ws : (Lit.int .i64 step).wf = true) (w : World) :
    Calls Try.prog 3 #[.int .i64 n, .int .i64 step] w (Makes (.bool true) w) := by
  clear wn ws
  by_cases c : n < 1
  · have d1 : decide (n < 1) = true := by simp; omega
    clear c
    go_enter Try.func3, Try.ntmps3
    go_wp2_with (first | (go_at_call 24; ((with_reducible refine (shAlive_any _).mono ?_)); rintro _ _ ⟨rfl, u, rfl⟩; (try (rw [Fut.put_self u (by first | assumption | (simp [go_sem]; done) | (simp [go_sem]; omega))]))) | (((with_reducible refine wp_region_fut_lit (by kernel_rfl) (by kernel_rfl) ?_)); (repeat (go_big_quiet_step ((first | (go_at_call 24; with_reducible exact Calls.fut_of (shAlive_any _)))))); ((with_reducible refine wpQuiet_nil ?_)); rintro _ ⟨u, rfl⟩; (try (rw [Fut.put_self u (by first | assumption | (simp [go_sem]; done) | (simp [go_sem]; omega))]))))
    go_ret; exact .mk (by first | rfl | (simp; done) | (simp; omega)) (by repeat' (first | exact Below.refl _ _ | with_reducible assumption | omega | with_reducible refine below_put_fut ?_ ?_ _ | with_reducible refine below_to_put ?_ | with_reducible refine Below.alloc ?_ ?_ _ | with_reducible refine Below.fut ?_ ?_ _ | with_reducible refine Below.drew ?_ | with_reducible refine Below.setCell ?_ ?_ _ | with_reducible refine Below.atPut ?_ ?_ _ | (simp [go_sem]; done) | (simp [go_sem]; omega)))
  have d1 : decide (n < 1) = false := by simp; omega
  by_cases c2 : 150 < n
  · have d2 : decide (150 < n) = true := by simp; omega
    clear c c2
    go_enter Try.func3, Try.ntmps3
    go_wp2_with (first | (go_at_call 24; ((with_reducible refine (shAlive_any _).mono ?_)); rintro _ _ ⟨rfl, u, rfl⟩; (try (rw [Fut.put_self u (by first | assumption | (simp [go_sem]; done) | (simp [go_sem]; omega))]))) | (((with_reducible refine wp_region_fut_lit (by kernel_rfl) (by kernel_rfl) ?_)); (repeat (go_big_quiet_step ((first | (go_at_call 24; with_reducible exact Calls.fut_of (shAlive_any _)))))); ((with_reducible refine wpQuiet_nil ?_)); rintro _ ⟨u, rfl⟩; (try (rw [Fut.put_self u (by first | assumption | (simp [go_sem]; done) | (simp [go_sem]; omega))]))))
    go_ret; exact .mk (by first | rfl | (simp; done) | (simp; omega)) (by repeat' (first | exact Below.refl _ _ | with_reducible assumption | omega | with_reducible refine below_put_fut ?_ ?_ _ | with_reducible refine below_to_put ?_ | with_reducible refine Below.alloc ?_ ?_ _ | with_reducible refine Below.fut ?_ ?_ _ | with_reducible refine Below.drew ?_ | with_reducible refine Below.setCell ?_ ?_ _ | with_reducible refine Below.atPut ?_ ?_ _ | (simp [go_sem]; done) | (simp [go_sem]; omega)))
  have d2 : decide (150 < n) = false := by simp; omega
  by_cases c3 : step < 1
  · have d3 : decide (step < 1) = true := by simp; omega
    clear c c2 c3
    go_enter Try.func3, Try.ntmps3
    go_wp2_with (first | (go_at_call 24; ((with_reducible refine (shAlive_any _).mono ?_)); rintro _ _ ⟨rfl, u, rfl⟩; (try (rw [Fut.put_self u (by first | assumption | (simp [go_sem]; done) | (simp [go_sem]; omega))]))) | (((with_reducible refine wp_region_fut_lit (by kernel_rfl) (by kernel_rfl) ?_)); (repeat (go_big_quiet_step ((first | (go_at_call 24; with_reducible exact Calls.fut_of (shAlive_any _)))))); ((with_reducible refine wpQuiet_nil ?_)); rintro _ ⟨u, rfl⟩; (try (rw [Fut.put_self u (by first | assumption | (simp [go_sem]; done) | (simp [go_sem]; omega))]))))
    go_ret; exact .mk (by first | rfl | (simp; done) | (simp; omega)) (by repeat' (first | exact Below.refl _ _ | with_reducible assumption | omega | with_reducible refine below_put_fut ?_ ?_ _ | with_reducible refine below_to_put ?_ | with_reducible refine Below.alloc ?_ ?_ _ | with_reducible refine Below.fut ?_ ?_ _ | with_reducible refine Below.drew ?_ | with_reducible refine Below.setCell ?_ ?_ _ | with_reducible refine Below.atPut ?_ ?_ _ | (simp [go_sem]; done) | (simp [go_sem]; omega)))
  have d3 : decide (step < 1) = false := by simp; omega
  by_cases c4 : 996 < step
  · have d4 : decide (996 < step) = true := by simp; omega
    clear c c2 c3 c4
    go_enter Try.func3, Try.ntmps3
    go_wp2_with (first | (go_at_call 24; ((with_reducible refine (shAlive_any _).mono ?_)); rintro _ _ ⟨rfl, u, rfl⟩; (try (rw [Fut.put_self u (by first | assumption | (simp [go_sem]; done) | (simp [go_sem]; omega))]))) | (((with_reducible refine wp_region_fut_lit (by kernel_rfl) (by kernel_rfl) ?_)); (repeat (go_big_quiet_step ((first | (go_at_call 24; with_reducible exact Calls.fut_of (shAlive_any _)))))); ((with_reducible refine wpQuiet_nil ?_)); rintro _ ⟨u, rfl⟩; (try (rw [Fut.put_self u (by first | assumption | (simp [go_sem]; done) | (simp [go_sem]; omega))]))))
    go_ret; exact .mk (by first | rfl | (simp; done) | (simp; omega)) (by repeat' (first | exact Below.refl _ _ | with_reducible assumption | omega | with_reducible refine below_put_fut ?_ ?_ _ | with_reducible refine below_to_put ?_ | with_reducible refine Below.alloc ?_ ?_ _ | with_reducible refine Below.fut ?_ ?_ _ | with_reducible refine Below.drew ?_ | with_reducible refine Below.setCell ?_ ?_ _ | with_reducible refine Below.atPut ?_ ?_ _ | (simp [go_sem]; done) | (simp [go_sem]; omega)))
  obtain ⟨n', rfl⟩ := Int.eq_ofNat_of_zero_le (show 0 ≤ n by omega)
  obtain ⟨s', rfl⟩ := Int.eq_ofNat_of_zero_le (show 0 ≤ step by omega)
  exact shelfOrders_good n' s' (by omega) (by omega) (by omega) (by omega) w
end Go.Proofs.Ythknenhcnpgkcaa
