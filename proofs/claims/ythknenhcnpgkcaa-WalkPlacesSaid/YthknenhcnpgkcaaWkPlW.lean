/- WalkPlaces answers true for every list of items and every text: the walk. -/
import Derived.Test.YthknenhcnpgkcaaWkV
import Derived.Test.YthknenhcnpgkcaaItems
namespace Go.Proofs.Ythknenhcnpgkcaa
open Go.RowKit Go.Shelf
set_option linter.unusedVariables false
set_option linter.unusedSimpArgs false
theorem rank_take {k : ByteArray} {xs : List It} {q : Nat} {x : It} (hx : xs[q]? = some x) : rankL k (xs.take (q + 1)) = rankL k (xs.take q) + (if lt x.1 k then 1 else 0) := by
  unfold rankL
  rw [List.take_add_one, hx, List.filter_append, List.length_append]
  cases h : lt x.1 k <;> simp [h]
theorem rank_self {xs : List It} (hr : Rises xs) {q : Nat} {x : It} (hx : xs[q]? = some x) : rankL x.1 xs = q := by
  have e := cut_at hx
  have hl : q < xs.length := (List.getElem?_eq_some_iff.1 hx).1
  rw [e] at hr
  conv => lhs; rw [e]
  have := rankL_cut hr (k := x.1) (fun y hy => hr.mid.1 y hy) (lt_irrefl _)
  rw [this, List.length_take]
  omega
set_option maxRecDepth 100000 in
set_option maxHeartbeats 4000000 in
theorem walkPlaces_good (w : World) (sl : Value) (l : List It) (n : Nat) (hl : l.length = n) (hn : n ≤ 60) (hs : Src w 2 sl n (flat l)) (k : ByteArray) (hk : k.size ≤ 40) :
    Calls Try.prog 6 #[sl, .string k] w (Makes (.bool true) w) := by
  obtain ⟨ao, cap, rfl⟩ := hs.slice_of
  have d1 : decide ((60 : Int) < n) = false := by simp; omega
  have d2 : decide ((40 : Int) < k.size) = false := by simp; omega
  have HS := hid hs
  have HL := hid hl
  have HK := hid (show k.size ≤ maxLen by unfold maxLen; omega)
  clear hs hl
  go_enter Try.func6, Try.ntmps6
  go_wp2_with (first | (go_at_call 33; ((with_reducible refine (wkAlive_any _).mono ?_)); rintro _ _ ⟨rfl, u, rfl⟩; (try (rw [Fut.put_self u (by first | assumption | (simp [go_sem]; done) | (simp [go_sem]; omega))]))) | (((with_reducible refine wp_region_fut_lit (by kernel_rfl) (by kernel_rfl) ?_)); (repeat (go_big_quiet_step ((first | (go_at_call 33; with_reducible exact Calls.fut_of (wkAlive_any _)))))); ((with_reducible refine wpQuiet_nil ?_)); rintro _ ⟨u, rfl⟩; (try (rw [Fut.put_self u (by first | assumption | (simp [go_sem]; done) | (simp [go_sem]; omega))]))))
  clear d1 d2
  have hbX := u.below
  have hzX := hbX.size
  generalize u.val = X at hbX hzX ⊢
  refine (filled_is X _ l n HL.out hn (HS.out.heap hbX)).mono ?_
  rintro _ W1 ⟨gs, gr, rfl, hb1⟩
  have H1 := hid (hb1.base hbX hzX).sh
  have hxl := fillL_len l
  generalize fillL l = xs at H1 hxl
  obtain ⟨m, hm⟩ : ∃ m, xs.length = m := ⟨_, rfl⟩
  have HM := hid hm
  rw [hm, HL.out] at hxl
  have hm60 : m ≤ 60 := by omega
  clear hb1 hbX hzX HS HL hxl hm
  go_wp2_with fail
  refine (sh_items H1.out (by rw [HM.out]; omega)).mono ?_
  rintro _ W2 ⟨a2, c2, rfl, hr2, hb2, -⟩
  have H2 := hid (H1.out.on hb2 H1.out.ge)
  have HR := hid (hr2.src (flat_one _))
  rw [HM.out]
  clear hr2 hb2 H1
  go_wp2_with fail
  go_loopw [7, 40] (fun v i wr => ∃ q : Nat, q ≤ m ∧ i = .int .i64 q ∧ v = .int .i64 (rankL k (xs.take q) : Nat) ∧ rankL k (xs.take q) ≤ q ∧ ∃ u : Fut W2, wr = u.val) (fun _ i _ => m - (intOf i).toNat)
  case atStart => exact ⟨0, Nat.zero_le _, rfl, by simp [rankL], by simp [rankL], ⟨⟨_, (by repeat' (first | exact Below.refl _ _ | with_reducible assumption | omega | with_reducible refine below_put_fut ?_ ?_ _ | with_reducible refine below_to_put ?_ | with_reducible refine Below.alloc ?_ ?_ _ | with_reducible refine Below.fut ?_ ?_ _ | with_reducible refine Below.drew ?_ | with_reducible refine Below.setCell ?_ ?_ _ | with_reducible refine Below.atPut ?_ ?_ _ | (simp [go_sem]; done) | (simp [go_sem]; omega)))⟩, rfl⟩⟩
  case round =>
    obtain ⟨q, hq, rfl, rfl, hrk, u, rfl⟩ := hrel
    by_cases hlt : q < m
    · obtain ⟨x, hx⟩ : ∃ x, xs[q]? = some x := ⟨xs[q]'(by rw [HM.out]; exact hlt), List.getElem?_eq_getElem _⟩
      obtain ⟨b1, o1, rfl, p1, p2, p3⟩ := HR.out.at_ q x hx
      have l1 := World.block_lt_of_cell? _ _ p1
      have HRT := hid (rank_take (k := k) hx)
      obtain ⟨rv, hrv⟩ : ∃ rv, rankL k (xs.take q) = rv := ⟨_, rfl⟩
      rw [hrv] at hrk ⊢ HRT
      have ew : IntKind.i64.wrap ((rv : Int) + 1) = (rv : Int) + 1 := IntWalk.i64_in _ (by omega)
      obtain ⟨s1, t1⟩ := x
      simp only at p1 p2 p3 HRT
      clear hx hrv
      cases hc : lt s1 k with
      | true =>
        have hl3 : Op.bytesLess s1.toList k.toList = true := by rw [ByteArray.toList_eq, ByteArray.toList_eq]; exact hc
        have HC := hid hc
        clear hc
        go_wp2_with (first | (((with_reducible refine wp_region_fut_lit (by kernel_rfl) (by kernel_rfl) ?_)); (repeat (go_big_quiet_step ((first | fail)))); ((with_reducible refine wpQuiet_nil ?_)); rintro _ ⟨u, rfl⟩; (try (rw [Fut.put_self u (by first | assumption | (simp [go_sem]; done) | (simp [go_sem]; omega))]))))
        go_roundw
        case rel => exact ⟨q + 1, by omega, by go_num, by rw [HRT.out, HC.out]; simp, by rw [HRT.out, HC.out]; simp; omega, fut_mk (by repeat' (first | exact Below.refl _ _ | with_reducible assumption | omega | with_reducible refine below_put_fut ?_ ?_ _ | with_reducible refine below_to_put ?_ | with_reducible refine Below.alloc ?_ ?_ _ | with_reducible refine Below.fut ?_ ?_ _ | with_reducible refine Below.drew ?_ | with_reducible refine Below.setCell ?_ ?_ _ | with_reducible refine Below.atPut ?_ ?_ _ | (simp [go_sem]; done) | (simp [go_sem]; omega)))⟩
        case measure => simp [intOf]; omega
      | false =>
        have hl3 : Op.bytesLess s1.toList k.toList = false := by rw [ByteArray.toList_eq, ByteArray.toList_eq]; exact hc
        have HC := hid hc
        clear hc
        go_wp2_with (first | (((with_reducible refine wp_region_fut_lit (by kernel_rfl) (by kernel_rfl) ?_)); (repeat (go_big_quiet_step ((first | fail)))); ((with_reducible refine wpQuiet_nil ?_)); rintro _ ⟨u, rfl⟩; (try (rw [Fut.put_self u (by first | assumption | (simp [go_sem]; done) | (simp [go_sem]; omega))]))))
        go_roundw
        case rel => exact ⟨q + 1, by omega, by go_num, by rw [HRT.out, HC.out]; simp, by rw [HRT.out, HC.out]; simp; omega, fut_mk (by repeat' (first | exact Below.refl _ _ | with_reducible assumption | omega | with_reducible refine below_put_fut ?_ ?_ _ | with_reducible refine below_to_put ?_ | with_reducible refine Below.alloc ?_ ?_ _ | with_reducible refine Below.fut ?_ ?_ _ | with_reducible refine Below.drew ?_ | with_reducible refine Below.setCell ?_ ?_ _ | with_reducible refine Below.atPut ?_ ?_ _ | (simp [go_sem]; done) | (simp [go_sem]; omega)))⟩
        case measure => simp [intOf]; omega
    · obtain rfl : q = m := by omega
      have HRK := hid (show rankL k (xs.take q) = rankL k xs by rw [List.take_of_length_le (by rw [HM.out]; exact Nat.le_refl _)])
      rw [HRK.out]
      have H3 := hid (H2.out.on u.below H2.out.ge)
      have hrk2 := hrk
      rw [HRK.out] at hrk2
      generalize u.val = W3 at H3 ⊢
      obtain ⟨rv, hrv⟩ : ∃ rv, rankL k xs = rv := ⟨_, rfl⟩
      rw [hrv] at hrk2 ⊢
      have HRV := hid hrv
      clear hrk HRK H2 HR hrv hlt
      go_wp2_with fail
      go_loopw [10] (fun i wr => ∃ p : Nat, p ≤ q ∧ i = .int .i64 p ∧ Hid (Sh w.heap.size w 200 xs gs wr)) (fun i _ => q - (intOf i).toNat)
      case atStart => exact ⟨0, Nat.zero_le _, rfl, H3⟩
      case round =>
        clear H3
        obtain ⟨p, hp, rfl, HH⟩ := hrel
        by_cases hlt : p < q
        · obtain ⟨x, hx⟩ : ∃ x, xs[p]? = some x := ⟨xs[p]'(by rw [HM.out]; exact hlt), List.getElem?_eq_getElem _⟩
          have HX := hid hx
          clear hx
          go_wp2_with fail
          (((with_reducible refine (sh_len HH.out q HM.out).mono ?_)); rintro _ _ ⟨rfl, u4, rfl⟩)
          have H4 := hid (HH.out.on u4.below HH.out.ge)
          clear HH
          generalize u4.val = W4 at H4 ⊢
          go_wp2_with fail
          (((with_reducible refine (walkAt_some H4.out (by rw [HM.out]; omega) p x HX.out).mono ?_)); rintro _ _ ⟨rfl, u5, rfl⟩)
          have H5 := hid (H4.out.on u5.below H4.out.ge)
          clear H4
          generalize u5.val = W5 at H5 ⊢
          go_wp2_with fail
          (((with_reducible refine (rank_is (H5.out.on (W' := W5.alloc (.cells #[.string x.1, .string x.2] 34)) (by repeat' (first | exact Below.refl _ _ | with_reducible assumption | omega | with_reducible refine below_put_fut ?_ ?_ _ | with_reducible refine below_to_put ?_ | with_reducible refine Below.alloc ?_ ?_ _ | with_reducible refine Below.fut ?_ ?_ _ | with_reducible refine Below.drew ?_ | with_reducible refine Below.setCell ?_ ?_ _ | with_reducible refine Below.atPut ?_ ?_ _ | (simp [go_sem]; done) | (simp [go_sem]; omega))) H5.out.ge) (by rw [HM.out]; omega) x.1 (sh_small H5.out x (List.mem_of_getElem? HX.out))).mono ?_)); rintro _ _ ⟨rfl, u6, rfl⟩)
          have H6 := hid (H5.out.on (Below.fut (w := W5.alloc (.cells #[.string x.1, .string x.2] 34)) (by repeat' (first | exact Below.refl _ _ | with_reducible assumption | omega | with_reducible refine below_put_fut ?_ ?_ _ | with_reducible refine below_to_put ?_ | with_reducible refine Below.alloc ?_ ?_ _ | with_reducible refine Below.fut ?_ ?_ _ | with_reducible refine Below.drew ?_ | with_reducible refine Below.setCell ?_ ?_ _ | with_reducible refine Below.atPut ?_ ?_ _ | (simp [go_sem]; done) | (simp [go_sem]; omega))) (by simp) u6) H5.out.ge)
          rw [rank_self (sh_rises H5.out) HX.out]
          clear H5
          generalize u6.val = W6 at H6 ⊢
          go_wp2_with fail
          go_roundw
          case rel => exact ⟨p + 1, by omega, by go_num, H6⟩
          case measure => simp [intOf]; omega
        · obtain rfl : p = q := by omega
          go_wp2_with fail
          (((with_reducible refine (sh_len HH.out p HM.out).mono ?_)); rintro _ _ ⟨rfl, u4, rfl⟩)
          have H4 := hid (HH.out.on u4.below HH.out.ge)
          clear HH
          generalize u4.val = W4 at H4 ⊢
          go_wp2_with fail
          (((with_reducible refine (sh_len H4.out p HM.out).mono ?_)); rintro _ _ ⟨rfl, u5, rfl⟩)
          have H5 := hid (H4.out.on u5.below H4.out.ge)
          clear H4
          generalize u5.val = W5 at H5 ⊢
          go_wp2_with fail
          (((with_reducible refine (walkAt_none H5.out (by rw [HM.out]; omega) p (.inr (by rw [HM.out]; omega))).mono ?_)); rintro _ _ ⟨rfl, u6, rfl⟩)
          have H6 := hid (H5.out.on u6.below H5.out.ge)
          clear H5
          generalize u6.val = W6 at H6 ⊢
          go_wp2_with fail
          (((with_reducible refine (walkAt_none (H6.out.on (W' := W6.alloc (.cells #[.string ⟨#[]⟩, .string ⟨#[]⟩] 34)) (by repeat' (first | exact Below.refl _ _ | with_reducible assumption | omega | with_reducible refine below_put_fut ?_ ?_ _ | with_reducible refine below_to_put ?_ | with_reducible refine Below.alloc ?_ ?_ _ | with_reducible refine Below.fut ?_ ?_ _ | with_reducible refine Below.drew ?_ | with_reducible refine Below.setCell ?_ ?_ _ | with_reducible refine Below.atPut ?_ ?_ _ | (simp [go_sem]; done) | (simp [go_sem]; omega))) H6.out.ge) (by rw [HM.out]; omega) (-1) (.inl (by decide))).mono ?_)); rintro _ _ ⟨rfl, u7, rfl⟩)
          have H7 := hid (H6.out.on (Below.fut (w := W6.alloc (.cells #[.string ⟨#[]⟩, .string ⟨#[]⟩] 34)) (by repeat' (first | exact Below.refl _ _ | with_reducible assumption | omega | with_reducible refine below_put_fut ?_ ?_ _ | with_reducible refine below_to_put ?_ | with_reducible refine Below.alloc ?_ ?_ _ | with_reducible refine Below.fut ?_ ?_ _ | with_reducible refine Below.drew ?_ | with_reducible refine Below.setCell ?_ ?_ _ | with_reducible refine Below.atPut ?_ ?_ _ | (simp [go_sem]; done) | (simp [go_sem]; omega))) (by simp) u7) H6.out.ge)
          clear H6
          generalize u7.val = W7 at H7 ⊢
          go_wp2_with fail
          (((with_reducible refine (rank_is (H7.out.on (W' := W7.alloc (.cells #[.string ⟨#[]⟩, .string ⟨#[]⟩] 34)) (by repeat' (first | exact Below.refl _ _ | with_reducible assumption | omega | with_reducible refine below_put_fut ?_ ?_ _ | with_reducible refine below_to_put ?_ | with_reducible refine Below.alloc ?_ ?_ _ | with_reducible refine Below.fut ?_ ?_ _ | with_reducible refine Below.drew ?_ | with_reducible refine Below.setCell ?_ ?_ _ | with_reducible refine Below.atPut ?_ ?_ _ | (simp [go_sem]; done) | (simp [go_sem]; omega))) H7.out.ge) (by rw [HM.out]; omega) k HK.out).mono ?_)); rintro _ _ ⟨rfl, u8, rfl⟩)
          have H8 := hid (H7.out.on (Below.fut (w := W7.alloc (.cells #[.string ⟨#[]⟩, .string ⟨#[]⟩] 34)) (by repeat' (first | exact Below.refl _ _ | with_reducible assumption | omega | with_reducible refine below_put_fut ?_ ?_ _ | with_reducible refine below_to_put ?_ | with_reducible refine Below.alloc ?_ ?_ _ | with_reducible refine Below.fut ?_ ?_ _ | with_reducible refine Below.drew ?_ | with_reducible refine Below.setCell ?_ ?_ _ | with_reducible refine Below.atPut ?_ ?_ _ | (simp [go_sem]; done) | (simp [go_sem]; omega))) (by simp) u8) H7.out.ge)
          rw [HRV.out]
          clear H7
          generalize u8.val = W8 at H8 ⊢
          have hbw := H8.out.1
          go_wp2_with fail
          go_ret
          exact .mk rfl hbw
theorem walkPlaces_walk (W : World) (sl : Value) (l : List It) (hl : ItemsAt W sl l) (k : ByteArray) (sk : k.size ≤ maxLen) :
    Calls Try.prog 6 #[sl, .string k] W (Makes (.bool true) W) := by
  have hs := hl.src
  obtain ⟨n, hn⟩ : ∃ n, l.length = n := ⟨_, rfl⟩
  rw [hn] at hs
  obtain ⟨ao, cap, rfl⟩ := hs.slice_of
  clear sk hl
  rcases Nat.lt_or_ge 60 n with c | c
  · have d1 : decide ((60 : Int) < n) = true := by simp; omega
    clear c hn hs
    go_enter Try.func6, Try.ntmps6
    go_wp2_with (first | (go_at_call 33; ((with_reducible refine (wkAlive_any _).mono ?_)); rintro _ _ ⟨rfl, u, rfl⟩; (try (rw [Fut.put_self u (by first | assumption | (simp [go_sem]; done) | (simp [go_sem]; omega))]))) | (((with_reducible refine wp_region_fut_lit (by kernel_rfl) (by kernel_rfl) ?_)); (repeat (go_big_quiet_step ((first | (go_at_call 33; with_reducible exact Calls.fut_of (wkAlive_any _)))))); ((with_reducible refine wpQuiet_nil ?_)); rintro _ ⟨u, rfl⟩; (try (rw [Fut.put_self u (by first | assumption | (simp [go_sem]; done) | (simp [go_sem]; omega))]))))
    go_ret; exact .mk (by first | rfl | (simp; done) | (simp; omega)) (by repeat' (first | exact Below.refl _ _ | with_reducible assumption | omega | with_reducible refine below_put_fut ?_ ?_ _ | with_reducible refine below_to_put ?_ | with_reducible refine Below.alloc ?_ ?_ _ | with_reducible refine Below.fut ?_ ?_ _ | with_reducible refine Below.drew ?_ | with_reducible refine Below.setCell ?_ ?_ _ | with_reducible refine Below.atPut ?_ ?_ _ | (simp [go_sem]; done) | (simp [go_sem]; omega)))
  have d1 : decide ((60 : Int) < n) = false := by simp; omega
  rcases Nat.lt_or_ge 40 k.size with c2 | c2
  · have d2 : decide ((40 : Int) < k.size) = true := by simp; omega
    clear c c2 hn hs
    go_enter Try.func6, Try.ntmps6
    go_wp2_with (first | (go_at_call 33; ((with_reducible refine (wkAlive_any _).mono ?_)); rintro _ _ ⟨rfl, u, rfl⟩; (try (rw [Fut.put_self u (by first | assumption | (simp [go_sem]; done) | (simp [go_sem]; omega))]))) | (((with_reducible refine wp_region_fut_lit (by kernel_rfl) (by kernel_rfl) ?_)); (repeat (go_big_quiet_step ((first | (go_at_call 33; with_reducible exact Calls.fut_of (wkAlive_any _)))))); ((with_reducible refine wpQuiet_nil ?_)); rintro _ ⟨u, rfl⟩; (try (rw [Fut.put_self u (by first | assumption | (simp [go_sem]; done) | (simp [go_sem]; omega))]))))
    go_ret; exact .mk (by first | rfl | (simp; done) | (simp; omega)) (by repeat' (first | exact Below.refl _ _ | with_reducible assumption | omega | with_reducible refine below_put_fut ?_ ?_ _ | with_reducible refine below_to_put ?_ | with_reducible refine Below.alloc ?_ ?_ _ | with_reducible refine Below.fut ?_ ?_ _ | with_reducible refine Below.drew ?_ | with_reducible refine Below.setCell ?_ ?_ _ | with_reducible refine Below.atPut ?_ ?_ _ | (simp [go_sem]; done) | (simp [go_sem]; omega)))
  exact walkPlaces_good W _ l n hn c hs k c2
end Go.Proofs.Ythknenhcnpgkcaa
