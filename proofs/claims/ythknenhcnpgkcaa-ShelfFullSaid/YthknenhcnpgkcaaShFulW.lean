/- ShelfFull answers true for every int and text: the walk. -/
import Derived.Test.YthknenhcnpgkcaaShF1
import Derived.Test.YthknenhcnpgkcaaMf
import Derived.Test.YthknenhcnpgkcaaMq
import Derived.IntWalk
namespace Go.Proofs.Ythknenhcnpgkcaa
open Go.RowKit
set_option linter.unusedVariables false
set_option linter.unusedSimpArgs false
theorem key0_is (w : World) : Calls Try.prog 27 #[.int .i64 0] w (Makes (.string (keyOf 0)) w) := key_is w 0 (by omega)
set_option maxRecDepth 100000 in
set_option maxHeartbeats 4000000 in
theorem shelfFull_good (n : Nat) (n1 : 1 ≤ n) (n2 : n ≤ 60) (k : ByteArray) (k1 : 1 ≤ k.size) (k2 : k.size ≤ 16) (w : World) :
    Calls Try.prog 13 #[.int .i64 n, .string k] w (Makes (.bool true) w) := by
  have d1 : decide ((n : Int) < 1) = false := by simp; omega
  have d2 : decide ((60 : Int) < n) = false := by simp; omega
  have d3 : decide ((k.size : Int) < 1) = false := by simp; omega
  have d4 : decide ((16 : Int) < k.size) = false := by simp; omega
  have hmin : min (max (n : Int) 0) 200 = (n : Int) := by omega
  go_enter Try.func13, Try.ntmps13
  go_wp2_with (first | (go_at_call 24; ((with_reducible refine (shAlive_any _).mono ?_)); rintro _ _ ⟨rfl, u, rfl⟩; (try (rw [Fut.put_self u (by first | assumption | (simp [go_sem]; done) | (simp [go_sem]; omega))]))) | (((with_reducible refine wp_region_fut_lit (by kernel_rfl) (by kernel_rfl) ?_)); (repeat (go_big_quiet_step ((first | (go_at_call 24; with_reducible exact Calls.fut_of (shAlive_any _)))))); ((with_reducible refine wpQuiet_nil ?_)); rintro _ ⟨u, rfl⟩; (try (rw [Fut.put_self u (by first | assumption | (simp [go_sem]; done) | (simp [go_sem]; omega))]))))
  clear d1 d2 d3 d4
  have hbX := u.below
  have hzX := hbX.size
  generalize u.val = X at hbX hzX ⊢
  (((with_reducible refine (sh_new w.heap.size w n n hmin _ hbX hzX).mono ?_)); rintro _ W1 ⟨rfl, h1⟩)
  generalize X.heap.size = g at h1 ⊢
  have H1 := hid h1
  clear h1 hbX hzX hmin
  go_wp2_with fail
  have SK := hid (small_of (v := k) (by omega))
  go_loopw [6] (fun i wr => ∃ q : Nat, q ≤ n ∧ i = .int .i64 q ∧ ∃ xs, Hid (Has 1 0 q xs) ∧ Hid (Sh w.heap.size w n xs g wr)) (fun i _ => n - (intOf i).toNat)
  case atStart => exact ⟨0, Nat.zero_le _, rfl, [], hid (Has.none _ _), H1⟩
  case round =>
    obtain ⟨q, hq, rfl, xs, HX, HT⟩ := hrel
    by_cases hlt : q < n
    · obtain ⟨xs', hP, hX'⟩ := HX.out.upm (most := n) (by omega) (by omega)
      have HP := hid hP
      have HX' := hid hX'
      clear hP hX'
      go_wp2_with fail
      (((with_reducible refine (key_is _ q (by omega)).mono ?_)); rintro _ _ ⟨rfl, u, rfl⟩)
      have HT' := hid (HT.out.on u.below HT.out.ge)
      go_wp2_with fail
      (((with_reducible refine (sh_put HT'.out (by have := HX.out.len; omega) (keyOf q) ⟨#[118]⟩ 0 xs' HP.out).mono ?_)); rintro _ W3 ⟨rfl, h3⟩)
      have H3 := hid h3
      clear h3
      go_wp2
      go_roundw
      case rel => exact ⟨q + 1, by omega, by go_num, xs', HX', H3⟩
      case measure => simp [intOf]; omega
    · obtain rfl : n = q := by omega
      obtain ⟨ys, p1, f1⟩ := full_first HX.out k1 k2
      obtain ⟨zs, p2, f2, v2⟩ := full_second HX.out n1 (by omega) f1
      obtain ⟨b3, v3, l3, vs, p3, s3⟩ := full_third HX.out n1 (by omega) f2 v2 k1 k2
      obtain ⟨ds, hds⟩ : ∃ ds, ds = delL (keyOf (n - 1)) zs := ⟨_, rfl⟩
      rw [← hds] at v3 l3 p3 s3
      have hxl : xs.length = n := by have := HX.out.len; omega
      have hyl := f1.len
      have hzl := f2.len
      have P1 := hid p1
      have P2 := hid p2
      have P3 := hid p3
      have B3 := hid b3
      have HDS := hid hds
      have HXL := hid hxl
      have HYL := hid hyl
      have HZL := hid hzl
      have L3 := hid l3
      have V3 := hid v3
      have S3 := hid s3
      have en : IntKind.i64.wrap ((n : Int) - 1) = ((n - 1 : Nat) : Int) := by rw [show (n : Int) - 1 = ((n - 1 : Nat) : Int) by omega]; exact IntWalk.i64_in _ (by omega)
      have en2 : IntKind.i64.wrap (((n - 1 : Nat) : Int)) = ((n - 1 : Nat) : Int) := IntWalk.i64_in _ (by omega)
      clear hlt H1 p1 f1 p2 f2 v2 p3 s3 hds hxl hyl hzl l3 v3 b3
      obtain ⟨b, hb⟩ : ∃ b, (valueOf k xs).isSome = b := ⟨_, rfl⟩
      obtain ⟨rr, hrr⟩ : ∃ r : Int, (if b then 0 else 5) = r := ⟨_, rfl⟩
      have P1' := hid (show putL n k ⟨#[119]⟩ xs = (rr, ys) by have := P1.out; rw [hb, hrr] at this; exact this)
      have HBB := hid hb
      clear hb
      obtain ⟨v, hv⟩ : ∃ v, (valueOf k xs).getD ⟨#[]⟩ = v := ⟨_, rfl⟩
      have HVV := hid hv
      clear hv P1
      go_wp2_with fail
      (((with_reducible refine (sh_get HT.out k SK.out v b HVV.out HBB.out).mono ?_)); rintro _ _ ⟨rfl, u, rfl⟩)
      have H4 := hid (HT.out.on u.below HT.out.ge)
      generalize u.val = W4 at H4 ⊢
      go_wp2_with fail
      (((with_reducible refine (sh_put H4.out (by have := HXL.out; omega) k ⟨#[119]⟩ rr ys P1'.out).mono ?_)); rintro _ W5 ⟨rfl, h5⟩)
      have H5 := hid h5
      clear h5
      have hcase : (b = true ∧ rr = 0) ∨ (b = false ∧ rr = 5) := by cases b <;> simp at hrr <;> simp [hrr]
      have K0 := hid (show (keyOf 0).size ≤ maxLen from small_of (v := keyOf 0) (by decide))
      have K1 := hid (show (keyOf (n - 1)).size ≤ maxLen from small_of (v := keyOf (n - 1)) (by rw [keyOf_size]; omega))
      have hn1 : ((n : Int) == 1) = decide (n = 1) := by by_cases e : n = 1 <;> simp [e] <;> omega
      clear hrr
      have HCASE := hid hcase
      clear hcase HX HBB HVV P1' H4
      obtain ⟨still, vl, HST, HVL⟩ : ∃ (st : Bool) (vl : Nat), Hid ((valueOf k ds).isSome = st) ∧ Hid (vs.length = vl ∧ ((st = true ∧ vl = n - 1) ∨ (st = false ∧ vl = n))) := by
        rcases S3.out with ⟨s1, s2⟩ | ⟨s1, s2⟩
        · exact ⟨true, _, hid s1, hid ⟨rfl, .inl ⟨rfl, s2⟩⟩⟩
        · exact ⟨false, _, hid s1, hid ⟨rfl, .inr ⟨rfl, s2⟩⟩⟩
      obtain ⟨tv, HTV⟩ : ∃ tv : ByteArray, Hid ((valueOf (keyOf 0) ds).getD ⟨#[]⟩ = tv ∧ ((n = 1 ∧ tv = ⟨#[]⟩) ∨ (n ≠ 1 ∧ tv = ⟨#[110, 101, 119]⟩))) := by
        rcases V3.out with ⟨s1, s2⟩ | ⟨s1, s2⟩
        · exact ⟨_, hid ⟨rfl, .inl ⟨s1, s2⟩⟩⟩
        · exact ⟨_, hid ⟨rfl, .inr ⟨s1, s2⟩⟩⟩
      obtain ⟨b0, HB0⟩ : ∃ b0 : Bool, Hid ((valueOf (keyOf 0) ds).isSome = b0) := ⟨_, hid rfl⟩
      obtain ⟨tk, HTK⟩ : ∃ tk : ByteArray, Hid ((valueOf k ds).getD ⟨#[]⟩ = tk) := ⟨_, hid rfl⟩
      clear S3 V3
      rcases HCASE.out with ⟨rfl, rfl⟩ | ⟨rfl, rfl⟩
      all_goals
        clear HCASE
        go_wp2_with fail
        (((with_reducible refine (key0_is _).mono ?_)); rintro _ _ ⟨rfl, u, rfl⟩)
        have H6 := hid (H5.out.on u.below H5.out.ge)
        generalize u.val = W6 at H6 ⊢
        go_wp2_with fail
        (((with_reducible refine (sh_put H6.out (by have := HYL.out; omega) (keyOf 0) ⟨#[110, 101, 119]⟩ 0 zs P2.out).mono ?_)); rintro _ W7 ⟨rfl, h7⟩)
        have H7 := hid h7
        clear h7 H6 H5
        go_wp2_with fail
        (((with_reducible refine (sh_len H7.out n HZL.out).mono ?_)); rintro _ _ ⟨rfl, u, rfl⟩)
        have H8 := hid (H7.out.on u.below H7.out.ge)
        generalize u.val = W8 at H8 ⊢
        clear H7
        go_wp2_with fail
        (((with_reducible refine (key_is _ (n - 1) (by omega)).mono ?_)); rintro _ _ ⟨rfl, u, rfl⟩)
        have H9 := hid (H8.out.on u.below H8.out.ge)
        generalize u.val = W9 at H9 ⊢
        clear H8
        go_wp2_with fail
        (((with_reducible refine (sh_del H9.out (by have := HZL.out; omega) (keyOf (n - 1)) K1.out true B3.out).mono ?_)); rintro _ W10 ⟨rfl, h10⟩)
        rw [← HDS.out] at h10
        have H10 := hid h10
        clear h10 H9
        go_wp2_with fail
        (((with_reducible refine (key0_is _).mono ?_)); rintro _ _ ⟨rfl, u, rfl⟩)
        have H11 := hid (H10.out.on u.below H10.out.ge)
        generalize u.val = W11 at H11 ⊢
        clear H10
        go_wp2_with fail
        (((with_reducible refine (sh_get H11.out (keyOf 0) K0.out tv b0 HTV.out.1 HB0.out).mono ?_)); rintro _ _ ⟨rfl, u, rfl⟩)
        have H12 := hid (H11.out.on u.below H11.out.ge)
        generalize u.val = W12 at H12 ⊢
        clear H11
        go_wp2_with fail
        (((with_reducible refine (sh_get H12.out k SK.out tk still HTK.out HST.out).mono ?_)); rintro _ _ ⟨rfl, u, rfl⟩)
        have H13 := hid (H12.out.on u.below H12.out.ge)
        generalize u.val = W13 at H13 ⊢
        clear H12
        go_wp2_with fail
        (((with_reducible refine (sh_put H13.out (by have := L3.out; omega) k ⟨#[119]⟩ 0 vs P3.out).mono ?_)); rintro _ W14 ⟨rfl, h14⟩)
        have H14 := hid h14
        clear h14 H13
        go_wp2_with fail
        (((with_reducible refine (sh_len H14.out vl HVL.out.1).mono ?_)); rintro _ _ ⟨rfl, u, rfl⟩)
        have H15 := hid (H14.out.on u.below H14.out.ge)
        generalize u.val = W15 at H15 ⊢
        clear H14
        rcases HVL.out.2 with ⟨rfl, rfl⟩ | ⟨rfl, rfl⟩
        · rcases HTV.out.2 with ⟨rfl, rfl⟩ | ⟨hne, rfl⟩
          · go_wp2_with fail
            go_ret
            exact .mk rfl H15.out.1
          · have hdn : (((n : Nat) : Int) == 1) = false := by simp; omega
            go_wp2_with fail
            go_ret
            exact .mk rfl H15.out.1
        · rcases HTV.out.2 with ⟨rfl, rfl⟩ | ⟨hne, rfl⟩
          · go_wp2_with fail
            (((with_reducible refine (sh_len H15.out 1 HVL.out.1).mono ?_)); rintro _ _ ⟨rfl, u, rfl⟩)
            have H16 := hid (H15.out.on u.below H15.out.ge)
            generalize u.val = W16 at H16 ⊢
            go_wp2_with fail
            go_ret
            exact .mk rfl H16.out.1
          · have hdn : (((vl : Nat) : Int) == 1) = false := by simp; omega
            go_wp2_with fail
            (((with_reducible refine (sh_len H15.out vl HVL.out.1).mono ?_)); rintro _ _ ⟨rfl, u, rfl⟩)
            have H16 := hid (H15.out.on u.below H15.out.ge)
            generalize u.val = W16 at H16 ⊢
            go_wp2_with fail
            go_ret
            exact .mk rfl H16.out.1
theorem shelfFull_walk (n : Int) (wn : (Lit.int .i64 n).wf = true) (k : ByteArray) (ws : k.size ≤ maxLen) (w : World) :
    Calls Try.prog 13 #[.int .i64 n, .string k] w (Makes (.bool true) w) := by
  clear wn ws
  by_cases c : n < 1
  · have d1 : decide (n < 1) = true := by simp; omega
    clear c
    go_enter Try.func13, Try.ntmps13
    go_wp2_with (first | (go_at_call 24; ((with_reducible refine (shAlive_any _).mono ?_)); rintro _ _ ⟨rfl, u, rfl⟩; (try (rw [Fut.put_self u (by first | assumption | (simp [go_sem]; done) | (simp [go_sem]; omega))]))) | (((with_reducible refine wp_region_fut_lit (by kernel_rfl) (by kernel_rfl) ?_)); (repeat (go_big_quiet_step ((first | (go_at_call 24; with_reducible exact Calls.fut_of (shAlive_any _)))))); ((with_reducible refine wpQuiet_nil ?_)); rintro _ ⟨u, rfl⟩; (try (rw [Fut.put_self u (by first | assumption | (simp [go_sem]; done) | (simp [go_sem]; omega))]))))
    go_ret; exact .mk (by first | rfl | (simp; done) | (simp; omega)) (by repeat' (first | exact Below.refl _ _ | with_reducible assumption | omega | with_reducible refine below_put_fut ?_ ?_ _ | with_reducible refine below_to_put ?_ | with_reducible refine Below.alloc ?_ ?_ _ | with_reducible refine Below.fut ?_ ?_ _ | with_reducible refine Below.drew ?_ | with_reducible refine Below.setCell ?_ ?_ _ | with_reducible refine Below.atPut ?_ ?_ _ | (simp [go_sem]; done) | (simp [go_sem]; omega)))
  have d1 : decide (n < 1) = false := by simp; omega
  by_cases c2 : 60 < n
  · have d2 : decide (60 < n) = true := by simp; omega
    clear c c2
    go_enter Try.func13, Try.ntmps13
    go_wp2_with (first | (go_at_call 24; ((with_reducible refine (shAlive_any _).mono ?_)); rintro _ _ ⟨rfl, u, rfl⟩; (try (rw [Fut.put_self u (by first | assumption | (simp [go_sem]; done) | (simp [go_sem]; omega))]))) | (((with_reducible refine wp_region_fut_lit (by kernel_rfl) (by kernel_rfl) ?_)); (repeat (go_big_quiet_step ((first | (go_at_call 24; with_reducible exact Calls.fut_of (shAlive_any _)))))); ((with_reducible refine wpQuiet_nil ?_)); rintro _ ⟨u, rfl⟩; (try (rw [Fut.put_self u (by first | assumption | (simp [go_sem]; done) | (simp [go_sem]; omega))]))))
    go_ret; exact .mk (by first | rfl | (simp; done) | (simp; omega)) (by repeat' (first | exact Below.refl _ _ | with_reducible assumption | omega | with_reducible refine below_put_fut ?_ ?_ _ | with_reducible refine below_to_put ?_ | with_reducible refine Below.alloc ?_ ?_ _ | with_reducible refine Below.fut ?_ ?_ _ | with_reducible refine Below.drew ?_ | with_reducible refine Below.setCell ?_ ?_ _ | with_reducible refine Below.atPut ?_ ?_ _ | (simp [go_sem]; done) | (simp [go_sem]; omega)))
  have d2 : decide (60 < n) = false := by simp; omega
  by_cases c3 : (k.size : Int) < 1
  · have d3 : decide ((k.size : Int) < 1) = true := by simp; omega
    clear c c2 c3
    go_enter Try.func13, Try.ntmps13
    go_wp2_with (first | (go_at_call 24; ((with_reducible refine (shAlive_any _).mono ?_)); rintro _ _ ⟨rfl, u, rfl⟩; (try (rw [Fut.put_self u (by first | assumption | (simp [go_sem]; done) | (simp [go_sem]; omega))]))) | (((with_reducible refine wp_region_fut_lit (by kernel_rfl) (by kernel_rfl) ?_)); (repeat (go_big_quiet_step ((first | (go_at_call 24; with_reducible exact Calls.fut_of (shAlive_any _)))))); ((with_reducible refine wpQuiet_nil ?_)); rintro _ ⟨u, rfl⟩; (try (rw [Fut.put_self u (by first | assumption | (simp [go_sem]; done) | (simp [go_sem]; omega))]))))
    go_ret; exact .mk (by first | rfl | (simp; done) | (simp; omega)) (by repeat' (first | exact Below.refl _ _ | with_reducible assumption | omega | with_reducible refine below_put_fut ?_ ?_ _ | with_reducible refine below_to_put ?_ | with_reducible refine Below.alloc ?_ ?_ _ | with_reducible refine Below.fut ?_ ?_ _ | with_reducible refine Below.drew ?_ | with_reducible refine Below.setCell ?_ ?_ _ | with_reducible refine Below.atPut ?_ ?_ _ | (simp [go_sem]; done) | (simp [go_sem]; omega)))
  have d3 : decide ((k.size : Int) < 1) = false := by simp; omega
  by_cases c4 : (16 : Int) < k.size
  · have d4 : decide ((16 : Int) < k.size) = true := by simp; omega
    clear c c2 c3 c4
    go_enter Try.func13, Try.ntmps13
    go_wp2_with (first | (go_at_call 24; ((with_reducible refine (shAlive_any _).mono ?_)); rintro _ _ ⟨rfl, u, rfl⟩; (try (rw [Fut.put_self u (by first | assumption | (simp [go_sem]; done) | (simp [go_sem]; omega))]))) | (((with_reducible refine wp_region_fut_lit (by kernel_rfl) (by kernel_rfl) ?_)); (repeat (go_big_quiet_step ((first | (go_at_call 24; with_reducible exact Calls.fut_of (shAlive_any _)))))); ((with_reducible refine wpQuiet_nil ?_)); rintro _ ⟨u, rfl⟩; (try (rw [Fut.put_self u (by first | assumption | (simp [go_sem]; done) | (simp [go_sem]; omega))]))))
    go_ret; exact .mk (by first | rfl | (simp; done) | (simp; omega)) (by repeat' (first | exact Below.refl _ _ | with_reducible assumption | omega | with_reducible refine below_put_fut ?_ ?_ _ | with_reducible refine below_to_put ?_ | with_reducible refine Below.alloc ?_ ?_ _ | with_reducible refine Below.fut ?_ ?_ _ | with_reducible refine Below.drew ?_ | with_reducible refine Below.setCell ?_ ?_ _ | with_reducible refine Below.atPut ?_ ?_ _ | (simp [go_sem]; done) | (simp [go_sem]; omega)))
  obtain ⟨n', rfl⟩ := Int.eq_ofNat_of_zero_le (show 0 ≤ n by omega)
  exact shelfFull_good n' (by omega) (by omega) k (by omega) (by omega) w
end Go.Proofs.Ythknenhcnpgkcaa
