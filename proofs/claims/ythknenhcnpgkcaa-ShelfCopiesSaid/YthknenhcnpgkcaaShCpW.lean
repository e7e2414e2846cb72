/- ShelfCopies answers true for every two ints: the walk. -/
import Derived.Test.YthknenhcnpgkcaaShC1
import Derived.Test.YthknenhcnpgkcaaMf
import Derived.Test.YthknenhcnpgkcaaMc
import Derived.Test.YthknenhcnpgkcaaMq
import Derived.IntWalk
namespace Go.Proofs.Ythknenhcnpgkcaa
open Go.RowKit
set_option linter.unusedVariables false
set_option linter.unusedSimpArgs false
theorem two_get {B : Nat} {w0 : World} {most : Int} {xs ys : List It} {ga gb : Nat} {W : World} (h : Two B w0 most xs ys ga gb W) (j : Nat) (v : ByteArray) (b : Bool) (h1 : (valueOf (keyOf j) xs).getD ⟨#[]⟩ = v) (h2 : (valueOf (keyOf j) xs).isSome = b) :
    Calls Try.prog 52 #[.pointer (some ⟨ga, 0, none⟩), .string (keyOf j)] W (Makes (.tuple #[.string v, .bool b]) W) := sh_get h.left (keyOf j) (small_of (v := keyOf j) (by rw [keyOf_size]; omega)) v b h1 h2
set_option maxRecDepth 100000 in
set_option maxHeartbeats 4000000 in
theorem shelfCopies_good (n m : Nat) (n2 : n ≤ 60) (m2 : m ≤ 60) (w : World) :
    Calls Try.prog 16 #[.int .i64 n, .int .i64 m] w (Makes (.bool true) w) := by
  have d1 : decide ((n : Int) < 0) = false := by simp
  have d2 : decide ((60 : Int) < n) = false := by simp; omega
  have d3 : decide ((m : Int) < 0) = false := by simp
  have d4 : decide ((60 : Int) < m) = false := by simp; omega
  go_enter Try.func16, Try.ntmps16
  go_wp2_with (first | (go_at_call 24; ((with_reducible refine (shAlive_any _).mono ?_)); rintro _ _ ⟨rfl, u, rfl⟩; (try (rw [Fut.put_self u (by first | assumption | (simp [go_sem]; done) | (simp [go_sem]; omega))]))) | (((with_reducible refine wp_region_fut_lit (by kernel_rfl) (by kernel_rfl) ?_)); (repeat (go_big_quiet_step ((first | (go_at_call 24; with_reducible exact Calls.fut_of (shAlive_any _)))))); ((with_reducible refine wpQuiet_nil ?_)); rintro _ ⟨u, rfl⟩; (try (rw [Fut.put_self u (by first | assumption | (simp [go_sem]; done) | (simp [go_sem]; omega))]))))
  clear d1 d2 d3 d4
  have hbX := u.below
  have hzX := hbX.size
  generalize u.val = X at hbX hzX ⊢
  (((with_reducible refine (sh_new w.heap.size w 200 200 (by decide) _ hbX hzX).mono ?_)); rintro _ W1 ⟨rfl, h1⟩)
  generalize X.heap.size = g at h1 ⊢
  have H1 := hid h1
  clear h1 hbX hzX
  go_wp2_with fail
  go_loopw [6] (fun i wr => ∃ q : Nat, q ≤ n ∧ i = .int .i64 q ∧ ∃ xs, Hid (Has 1 0 q xs) ∧ Hid (Sh w.heap.size w 200 xs g wr)) (fun i _ => n - (intOf i).toNat)
  case atStart => exact ⟨0, Nat.zero_le _, rfl, [], hid (Has.none _ _), H1⟩
  case round =>
    obtain ⟨q, hq, rfl, xs, HX, HT⟩ := hrel
    by_cases hlt : q < n
    · obtain ⟨xs', hP, hX'⟩ := HX.out.upm (most := 200) (by omega) (by omega)
      have HP := hid hP
      have HX' := hid hX'
      clear hP hX'
      go_wp2_with fail
      (((with_reducible refine (key_is _ q (by omega)).mono ?_)); rintro _ _ ⟨rfl, u, rfl⟩)
      have HT' := hid (HT.out.on u.below HT.out.ge)
      go_wp2_with fail
      (((with_reducible refine (sh_put HT'.out (by have := HX.out.len; omega) (keyOf q) ⟨#[118]⟩ 0 xs' HP.out).mono ?_)); rintro _ W3 ⟨rfl, h3⟩)
      have H3 := hid h3
      clear h3
      go_wp2
      go_roundw
      case rel => exact ⟨q + 1, by omega, by go_num, xs', HX', H3⟩
      case measure => simp [intOf]; omega
    · obtain rfl : n = q := by omega
      have HS0 := hid (SLst.start HX.out (by omega))
      have HC0 := hid (CLst.start HX.out (by omega))
      clear HX hlt H1
      go_wp2_with fail
      (((with_reducible refine (two_copy HT.out).mono ?_)); rintro _ W2 ⟨gc, rfl, h2⟩)
      have H2 := hid h2
      clear h2 HT
      go_wp2_with fail
      go_loopw [8] (fun i wr => ∃ q : Nat, q ≤ m ∧ i = .int .i64 q ∧ ∃ ss cs, Hid (SLst n q ss) ∧ Hid (CLst n q cs) ∧ Hid (Two w.heap.size w 200 ss cs g gc wr)) (fun i _ => m - (intOf i).toNat)
      case atStart => exact ⟨0, Nat.zero_le _, rfl, xs, xs, HS0, HC0, H2⟩
      case round =>
        clear H2 HS0 HC0
        obtain ⟨q, hq, rfl, ss, cs, HSL, HCL, HT⟩ := hrel
        by_cases hlt : q < m
        · obtain ⟨ys, zs, p1, p2, n1, l1⟩ := HSL.out.next n2 (by omega)
          have hnc := HCL.out.next (show q ≤ 60 by omega)
          obtain ⟨kq, hkq⟩ : ∃ kq, kq = 2 * q := ⟨_, rfl⟩
          obtain ⟨pq, hpq⟩ : ∃ pq, pq = 500 + q := ⟨_, rfl⟩
          have e1 : IntKind.i64.wrap (2 * (q : Int)) = (kq : Int) := by rw [show 2 * (q : Int) = (kq : Int) by omega]; exact IntWalk.i64_in _ (by omega)
          have e2 : IntKind.i64.wrap (500 + (q : Int)) = (pq : Int) := by rw [show 500 + (q : Int) = (pq : Int) by omega]; exact IntWalk.i64_in _ (by omega)
          have hk1 : kq ≤ 996 := by omega
          have hk2 : pq ≤ 996 := by omega
          rw [← hpq] at p1
          obtain ⟨bd, hbd⟩ : ∃ bd, (valueOf (keyOf kq) cs).isSome = bd := ⟨_, rfl⟩
          have HBD := hid hbd
          have K2 := hid (show (keyOf kq).size ≤ maxLen from small_of (v := keyOf kq) (by rw [keyOf_size]; omega))
          have HP1 := hid p1
          have HP2 := hid p2
          have HN1 := hid n1
          have HL1 := hid l1
          rw [← hkq] at hnc
          have HNC := hid hnc
          clear p1 p2 n1 l1 hbd hnc hkq hpq
          go_wp2_with fail
          (((with_reducible refine (key_is _ kq hk1).mono ?_)); rintro _ _ ⟨rfl, u, rfl⟩)
          have H4 := hid (HT.out.swap.on u.below)
          clear HT
          go_wp2_with fail
          (((with_reducible refine (two_del H4.out (by have := HCL.out.len; omega) (keyOf kq) K2.out bd HBD.out).mono ?_)); rintro _ W5 ⟨rfl, h5⟩)
          have H5 := hid h5.swap
          clear h5 H4
          go_wp2_with fail
          (((with_reducible refine (key_is _ pq hk2).mono ?_)); rintro _ _ ⟨rfl, u, rfl⟩)
          have H6 := hid (H5.out.on u.below)
          clear H5
          go_wp2_with fail
          (((with_reducible refine (two_put H6.out (by have := HSL.out.len; omega) (keyOf pq) ⟨#[119]⟩ 0 ys HP1.out).mono ?_)); rintro _ W7 ⟨rfl, h7⟩)
          have H7 := hid h7
          clear h7 H6
          go_wp2_with fail
          (((with_reducible refine (key_is _ q (by omega)).mono ?_)); rintro _ _ ⟨rfl, u, rfl⟩)
          have H8 := hid (H7.out.on u.below)
          clear H7
          go_wp2_with fail
          (((with_reducible refine (two_put H8.out HL1.out (keyOf q) ⟨#[120]⟩ 0 zs HP2.out).mono ?_)); rintro _ W9 ⟨rfl, h9⟩)
          have H9 := hid h9
          clear h9 H8
          go_wp2
          go_roundw
          case rel => exact ⟨q + 1, by omega, by go_num, zs, _, HN1, HNC, H9⟩
          case measure => simp [intOf]; omega
        · obtain rfl : m = q := by omega
          clear hlt
          go_wp2_with fail
          go_loopw [9] (fun i wr => ∃ q : Nat, q ≤ n ∧ i = .int .i64 q ∧ Hid (Two w.heap.size w 200 ss cs g gc wr)) (fun i _ => n - (intOf i).toNat)
          case atStart => exact ⟨0, Nat.zero_le _, rfl, HT⟩
          case round =>
            clear HT
            obtain ⟨q, hq, rfl, HT⟩ := hrel
            by_cases hlt : q < n
            · have hs : valueOf (keyOf q) ss = some (if q < m then ⟨#[120]⟩ else ⟨#[118]⟩) := by
                rw [HSL.out.val q (by omega)]
                by_cases c : q < m
                · rw [if_pos c, if_pos c]
                · rw [if_neg c, if_neg c, if_pos hlt]
              have hcg := HCL.out.get hlt n2
              obtain ⟨r2, hr2⟩ : ∃ r2, r2 = q % 2 := ⟨_, rfl⟩
              obtain ⟨q2, hq2⟩ : ∃ q2, q2 = q / 2 := ⟨_, rfl⟩
              have e1 : (q : Int).tmod 2 = (r2 : Int) := by rw [Int.tmod_eq_emod_of_nonneg (by omega)]; omega
              have e2 : (q : Int).tdiv 2 = (q2 : Int) := by rw [Int.tdiv_eq_ediv_of_nonneg (by omega)]; omega
              have e3 : IntKind.i64.wrap (q2 : Int) = (q2 : Int) := IntWalk.i64_in _ (by omega)
              have e4 : IntKind.i64.wrap (r2 : Int) = (r2 : Int) := IntWalk.i64_in _ (by omega)
              rw [← hr2, ← hq2] at hcg
              clear hr2 hq2
              obtain ⟨gv, ok, HGV, hcases⟩ : ∃ (gv : ByteArray) (ok : Bool), Hid ((valueOf (keyOf q) cs).getD ⟨#[]⟩ = gv ∧ (valueOf (keyOf q) cs).isSome = ok) ∧ ((r2 = 0 ∧ q2 < m ∧ ok = false) ∨ (r2 = 0 ∧ ¬ q2 < m ∧ ok = true ∧ gv = ⟨#[118]⟩) ∨ (¬ r2 = 0 ∧ ok = true ∧ gv = ⟨#[118]⟩)) := by
                rcases hcg with ⟨c1, c2⟩ | ⟨c1, c2⟩
                · simp at c1
                  exact ⟨⟨#[]⟩, false, hid ⟨by rw [c2]; rfl, by rw [c2]; rfl⟩, .inl ⟨c1.1, c1.2, rfl⟩⟩
                · refine ⟨⟨#[118]⟩, true, hid ⟨by rw [c2]; rfl, by rw [c2]; rfl⟩, .inr ?_⟩
                  by_cases c : r2 = 0
                  · simp [c] at c1
                    exact .inl ⟨c, by omega, rfl, rfl⟩
                  · exact .inr ⟨c, rfl, rfl⟩
              obtain ⟨sv, hsv⟩ : ∃ sv : ByteArray, (if q < m then (⟨#[120]⟩ : ByteArray) else ⟨#[118]⟩) = sv := ⟨_, rfl⟩
              have HSV := hid (show (valueOf (keyOf q) ss).getD ⟨#[]⟩ = sv ∧ (valueOf (keyOf q) ss).isSome = true by rw [hs, hsv]; exact ⟨rfl, rfl⟩)
              have hsc : (sv = ⟨#[120]⟩ ∧ q < m) ∨ (sv = ⟨#[118]⟩ ∧ ¬ q < m) := by
                by_cases c : q < m
                · rw [if_pos c] at hsv; exact .inl ⟨hsv.symm, c⟩
                · rw [if_neg c] at hsv; exact .inr ⟨hsv.symm, c⟩
              clear hs hcg hsv
              go_wp2_with fail
              (((with_reducible refine (key_is _ q (by omega)).mono ?_)); rintro _ _ ⟨rfl, u, rfl⟩)
              have H4 := hid (HT.out.swap.on u.below)
              clear HT
              generalize u.val = W4 at H4 ⊢
              go_wp2_with fail
              (((with_reducible refine (two_get H4.out q gv ok HGV.out.1 HGV.out.2).mono ?_)); rintro _ _ ⟨rfl, u, rfl⟩)
              have H5 := hid (H4.out.swap.on u.below)
              clear H4
              generalize u.val = W5 at H5 ⊢
              rcases hcases with ⟨c1, c2, rfl⟩ | ⟨c1, c2, rfl, rfl⟩ | ⟨c1, rfl, rfl⟩
              all_goals
                go_wp2_with fail
                (((with_reducible refine (key_is _ q (by omega)).mono ?_)); rintro _ _ ⟨rfl, u, rfl⟩)
                have H6 := hid (H5.out.on u.below)
                clear H5
                generalize u.val = W6 at H6 ⊢
                go_wp2_with fail
                (((with_reducible refine (two_get H6.out q sv true HSV.out.1 HSV.out.2).mono ?_)); rintro _ _ ⟨rfl, u, rfl⟩)
                have H7 := hid (H6.out.on u.below)
                clear H6
                generalize u.val = W7 at H7 ⊢
                rcases hsc with ⟨rfl, hlm⟩ | ⟨rfl, hlm⟩
                all_goals
                  go_wp2
                  go_roundw
                  case rel => exact ⟨q + 1, by omega, by go_num, H7⟩
                  case measure => simp [intOf]; omega
            · obtain rfl : n = q := by omega
              have hsl := HSL.out.len
              obtain ⟨x, hx⟩ : ∃ x, x = max n m := ⟨_, rfl⟩
              obtain ⟨y, hy⟩ : ∃ y, y = m + x := ⟨_, rfl⟩
              have HSN := hid (show ss.length = y by omega)
              have em : max (n : Int) (m : Int) = (x : Int) := by omega
              have em2 : IntKind.i64.wrap ((m : Int) + (x : Int)) = (y : Int) := by rw [show (m : Int) + (x : Int) = (y : Int) by omega]; exact IntWalk.i64_in _ (by omega)
              clear hsl hx hy
              go_wp2_with fail
              (((with_reducible refine (sh_len HT.out.left _ HSN.out).mono ?_)); rintro _ _ ⟨rfl, u, rfl⟩)
              have H9 := hid (HT.out.on u.below)
              generalize u.val = W9 at H9 ⊢
              go_wp2_with fail
              go_ret
              exact .mk (by first | rfl | (simp; omega)) H9.out.1
theorem shelfCopies_walk (n : Int) (wn : (Lit.int .i64 n).wf = true) (m : Int) (wm : (Lit.int .i64 m).wf = true) (w : World) :
    Calls Try.prog 16 #[.int .i64 n, .int .i64 m] w (Makes (.bool true) w) := by
  clear wn wm
  by_cases c : n < 0
  · have d1 : decide (n < 0) = true := by simp; omega
    clear c
    go_enter Try.func16, Try.ntmps16
    go_wp2_with (first | (go_at_call 24; ((with_reducible refine (shAlive_any _).mono ?_)); rintro _ _ ⟨rfl, u, rfl⟩; (try (rw [Fut.put_self u (by first | assumption | (simp [go_sem]; done) | (simp [go_sem]; omega))]))) | (((with_reducible refine wp_region_fut_lit (by kernel_rfl) (by kernel_rfl) ?_)); (repeat (go_big_quiet_step ((first | (go_at_call 24; with_reducible exact Calls.fut_of (shAlive_any _)))))); ((with_reducible refine wpQuiet_nil ?_)); rintro _ ⟨u, rfl⟩; (try (rw [Fut.put_self u (by first | assumption | (simp [go_sem]; done) | (simp [go_sem]; omega))]))))
    go_ret; exact .mk (by first | rfl | (simp; done) | (simp; omega)) (by repeat' (first | exact Below.refl _ _ | with_reducible assumption | omega | with_reducible refine below_put_fut ?_ ?_ _ | with_reducible refine below_to_put ?_ | with_reducible refine Below.alloc ?_ ?_ _ | with_reducible refine Below.fut ?_ ?_ _ | with_reducible refine Below.drew ?_ | with_reducible refine Below.setCell ?_ ?_ _ | with_reducible refine Below.atPut ?_ ?_ _ | (simp [go_sem]; done) | (simp [go_sem]; omega)))
  have d1 : decide (n < 0) = false := by simp; omega
  by_cases c2 : 60 < n
  · have d2 : decide (60 < n) = true := by simp; omega
    clear c c2
    go_enter Try.func16, Try.ntmps16
    go_wp2_with (first | (go_at_call 24; ((with_reducible refine (shAlive_any _).mono ?_)); rintro _ _ ⟨rfl, u, rfl⟩; (try (rw [Fut.put_self u (by first | assumption | (simp [go_sem]; done) | (simp [go_sem]; omega))]))) | (((with_reducible refine wp_region_fut_lit (by kernel_rfl) (by kernel_rfl) ?_)); (repeat (go_big_quiet_step ((first | (go_at_call 24; with_reducible exact Calls.fut_of (shAlive_any _)))))); ((with_reducible refine wpQuiet_nil ?_)); rintro _ ⟨u, rfl⟩; (try (rw [Fut.put_self u (by first | assumption | (simp [go_sem]; done) | (simp [go_sem]; omega))]))))
    go_ret; exact .mk (by first | rfl | (simp; done) | (simp; omega)) (by repeat' (first | exact Below.refl _ _ | with_reducible assumption | omega | with_reducible refine below_put_fut ?_ ?_ _ | with_reducible refine below_to_put ?_ | with_reducible refine Below.alloc ?_ ?_ _ | with_reducible refine Below.fut ?_ ?_ _ | with_reducible refine Below.drew ?_ | with_reducible refine Below.setCell ?_ ?_ _ | with_reducible refine Below.atPut ?_ ?_ _ | (simp [go_sem]; done) | (simp [go_sem]; omega)))
  have d2 : decide (60 < n) = false := by simp; omega
  by_cases c3 : m < 0
  · have d3 : decide (m < 0) = true := by simp; omega
    clear c c2 c3
    go_enter Try.func16, Try.ntmps16
    go_wp2_with (first | (go_at_call 24; ((with_reducible refine (shAlive_any _).mono ?_)); rintro _ _ ⟨rfl, u, rfl⟩; (try (rw [Fut.put_self u (by first | assumption | (simp [go_sem]; done) | (simp [go_sem]; omega))]))) | (((with_reducible refine wp_region_fut_lit (by kernel_rfl) (by kernel_rfl) ?_)); (repeat (go_big_quiet_step ((first | (go_at_call 24; with_reducible exact Calls.fut_of (shAlive_any _)))))); ((with_reducible refine wpQuiet_nil ?_)); rintro _ ⟨u, rfl⟩; (try (rw [Fut.put_self u (by first | assumption | (simp [go_sem]; done) | (simp [go_sem]; omega))]))))
    go_ret; exact .mk (by first | rfl | (simp; done) | (simp; omega)) (by repeat' (first | exact Below.refl _ _ | with_reducible assumption | omega | with_reducible refine below_put_fut ?_ ?_ _ | with_reducible refine below_to_put ?_ | with_reducible refine Below.alloc ?_ ?_ _ | with_reducible refine Below.fut ?_ ?_ _ | with_reducible refine Below.drew ?_ | with_reducible refine Below.setCell ?_ ?_ _ | with_reducible refine Below.atPut ?_ ?_ _ | (simp [go_sem]; done) | (simp [go_sem]; omega)))
  have d3 : decide (m < 0) = false := by simp; omega
  by_cases c4 : 60 < m
  · have d4 : decide (60 < m) = true := by simp; omega
    clear c c2 c3 c4
    go_enter Try.func16, Try.ntmps16
    go_wp2_with (first | (go_at_call 24; ((with_reducible refine (shAlive_any _).mono ?_)); rintro _ _ ⟨rfl, u, rfl⟩; (try (rw [Fut.put_self u (by first | assumption | (simp [go_sem]; done) | (simp [go_sem]; omega))]))) | (((with_reducible refine wp_region_fut_lit (by kernel_rfl) (by kernel_rfl) ?_)); (repeat (go_big_quiet_step ((first | (go_at_call 24; with_reducible exact Calls.fut_of (shAlive_any _)))))); ((with_reducible refine wpQuiet_nil ?_)); rintro _ ⟨u, rfl⟩; (try (rw [Fut.put_self u (by first | assumption | (simp [go_sem]; done) | (simp [go_sem]; omega))]))))
    go_ret; exact .mk (by first | rfl | (simp; done) | (simp; omega)) (by repeat' (first | exact Below.refl _ _ | with_reducible assumption | omega | with_reducible refine below_put_fut ?_ ?_ _ | with_reducible refine below_to_put ?_ | with_reducible refine Below.alloc ?_ ?_ _ | with_reducible refine Below.fut ?_ ?_ _ | with_reducible refine Below.drew ?_ | with_reducible refine Below.setCell ?_ ?_ _ | with_reducible refine Below.atPut ?_ ?_ _ | (simp [go_sem]; done) | (simp [go_sem]; omega)))
  obtain ⟨n', rfl⟩ := Int.eq_ofNat_of_zero_le (show 0 ≤ n by omega)
  obtain ⟨m', rfl⟩ := Int.eq_ofNat_of_zero_le (show 0 ≤ m by omega)
  exact shelfCopies_good n' m' (by omega) (by omega) w
end Go.Proofs.Ythknenhcnpgkcaa
