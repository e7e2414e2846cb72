/- WalkHalves answers true for every number: the walk. -/
import Derived.Test.YthknenhcnpgkcaaMv
import Derived.Test.YthknenhcnpgkcaaWkHvP
import Derived.Test.YthknenhcnpgkcaaMo
namespace Go.Proofs.Ythknenhcnpgkcaa
open Go.RowKit Go.Shelf
set_option linter.unusedVariables false
set_option linter.unusedSimpArgs false
theorem conv_one (w : World) (a : Int) : (convert 61 9 (.slice (some ⟨w.heap.size, 0, none⟩) 1 1)).run Try.prog (w.alloc (.cells #[.int .u8 a] 5)) = .ok (.string (strOfNums [a])) (w.alloc (.cells #[.int .u8 a] 5)) := by
  refine run_convert_bytes_arg (P := Try.prog) _ 61 5 Try.underlying61 Try.underlying5 w.heap.size 0 _ _ [a] rfl (fun i hi => ?_) _ Try.underlying9
  rw [World.cell?_alloc_new]
  have hi : i < 1 := hi
  obtain rfl : i = 0 := by omega
  rfl
set_option maxRecDepth 100000 in
set_option maxHeartbeats 4000000 in
theorem walkHalves_good (n : Nat) (hn : n ≤ 60) (w : World) :
    Calls Try.prog 8 #[.int .i64 n] w (Makes (.bool true) w) := by
  have d0 : decide ((n : Int) < 0) = false := by simp
  have d1 : decide ((60 : Int) < n) = false := by simp; omega
  go_enter Try.func8, Try.ntmps8
  go_wp2_with (first | (go_at_call 33; ((with_reducible refine (wkAlive_any _).mono ?_)); rintro _ _ ⟨rfl, u, rfl⟩; (try (rw [Fut.put_self u (by first | assumption | (simp [go_sem]; done) | (simp [go_sem]; omega))]))) | (((with_reducible refine wp_region_fut_lit (by kernel_rfl) (by kernel_rfl) ?_)); (repeat (go_big_quiet_step ((first | (go_at_call 33; with_reducible exact Calls.fut_of (wkAlive_any _)))))); ((with_reducible refine wpQuiet_nil ?_)); rintro _ ⟨u, rfl⟩; (try (rw [Fut.put_self u (by first | assumption | (simp [go_sem]; done) | (simp [go_sem]; omega))]))))
  clear d0 d1
  have hbX := u.below
  have hzX := hbX.size
  generalize u.val = X at hbX hzX ⊢
  have HBX := hid hbX
  clear hbX
  go_loopw [3, 4] (fun v i wr => ∃ q : Nat, q ≤ n ∧ i = .int .i64 q ∧ Hid (Out X (hList q) v wr)) (fun _ i _ => n - (intOf i).toNat)
  case atStart => exact ⟨0, Nat.zero_le _, rfl, hid (Out.nil X (Below.refl _ _))⟩
  case round =>
    obtain ⟨q, hq, rfl, HO⟩ := hrel
    by_cases hlt : q < n
    · have e1 : IntKind.i64.wrap ((q : Int) + 1) = (q : Int) + 1 := IntWalk.i64_in _ (by omega)
      have e2 : IntKind.u8.wrap ((q : Int) + 1) = (q : Int) + 1 := by simp [IntKind.wrap, IntKind.bits, IntKind.signed]; omega
      have hc := conv_one wr ((q : Int) + 1)
      go_wp2_with (first | (at_builtin; refine wpList_append_ex (by rfl) _ _ _ (by rfl) _ _ (by rfl) (by rfl) (HO.out.app (x := hk q) (by repeat' (first | exact Below.refl _ _ | with_reducible assumption | omega | with_reducible refine below_put_fut ?_ ?_ _ | with_reducible refine below_to_put ?_ | with_reducible refine Below.alloc ?_ ?_ _ | with_reducible refine Below.fut ?_ ?_ _ | with_reducible refine Below.drew ?_ | with_reducible refine Below.setCell ?_ ?_ _ | with_reducible refine Below.atPut ?_ ?_ _ | (simp [go_sem]; done) | (simp [go_sem]; omega))) (by rw [hList_len]; omega) (by repeat' (first | rfl | assumption | (with_reducible refine (heap_drew_eq _ _).trans ?_) | (refine (Fut.heap _ _ ?_).trans ?_ ; focus (first | assumption | omega | (simp [go_sem]; done) | (simp [go_sem]; omega))) | (refine (heap_put_at _ _ _ ?_).trans ?_ ; focus (first | assumption | omega | (simp [go_sem]; done) | (simp [go_sem]; omega))) | (refine (heap_put_other _ _ _ _ ?_).trans ?_ ; focus (first | assumption | omega | (simp [go_sem]; done) | (simp [go_sem]; omega))) | (refine (heap_alloc_other _ _ _ ?_).trans ?_ ; focus (first | assumption | omega | (simp [go_sem]; done) | (simp [go_sem]; omega))) | (refine (heap_alloc_at _ _ _ ?_).trans ?_ ; focus (first | assumption | omega | (simp [go_sem]; done) | (simp [go_sem]; omega))) | (simp [go_sem]; done) | (simp [go_sem]; omega)))) ?_; rintro v4 w4 ho4; have HO4 := hid ho4; clear ho4))
      go_roundw
      case rel => exact ⟨q + 1, by omega, by go_num, hid (by rw [hList_succ]; exact HO4.out)⟩
      case measure => simp [intOf]; omega
    · obtain rfl : q = n := by omega
      have hs := HO.out.row.src (flat_one _)
      have hb1 := HO.out.below
      have hf := hList_fill q (by omega)
      rw [hList_len] at hs
      go_wp2_with fail
      refine (filled_is wr _ (hList q) q (hList_len q) hn hs).mono ?_
      rintro _ W1 ⟨gs, gr, rfl, hb2⟩
      rw [hf] at hb2
      have H1 := hid ((hb2.base hb1 hb1.size).base HBX.out hzX).sh
      clear hb2 hs hb1 hf HO
      by_cases h2 : q < 2
      · have HM0 := hid (show (midL ((arcL 0 0 (hList q)).map adr)).getD 0 = 0 by rw [half_none h2]; rfl)
        have HM1 := hid (show (midL ((arcL 0 0 (hList q)).map adr)).isSome = false by rw [half_none h2]; rfl)
        have dq : decide ((q : Int) < 2) = true := by simp; omega
        go_wp2_with fail
        (((with_reducible refine (sh_middle H1.out (by rw [hList_len]; omega) (a := 0) (b := 0) (by omega) (by omega) (by omega) (by omega) 0 false HM0.out HM1.out).mono ?_)); rintro _ _ ⟨rfl, u4, rfl⟩)
        have hbw := (H1.out.on u4.below H1.out.ge).1
        go_wp2_with fail
        go_ret
        exact .mk rfl hbw
      · obtain ⟨i, hi⟩ : ∃ i, (q + 1) / 2 = i + 1 := ⟨(q + 1) / 2 - 1, by omega⟩
        obtain ⟨m, hm⟩ : ∃ m : Int, m = ((i : Int) + 2) * 72057594037927936 := ⟨_, rfl⟩
        have hall := half_some hi (by omega) hn hm
        have HM0 := hid (show (midL ((arcL 0 0 (hList q)).map adr)).getD 0 = m by rw [hall.1]; rfl)
        have HM1 := hid (show (midL ((arcL 0 0 (hList q)).map adr)).isSome = true by rw [hall.1]; rfl)
        have HLO := hid hall.2.1
        have HHI := hid hall.2.2
        have m1 : 0 ≤ m := by omega
        have m2 : m < 18446744073709551616 := by omega
        have dq : decide ((q : Int) < 2) = false := by simp; omega
        have dq2 : decide (q < 2) = false := by simp; omega
        have ew : IntKind.i64.wrap ((q : Int) + 1) = (q : Int) + 1 := IntWalk.i64_in _ (by omega)
        have eq1 : ((q : Int) + 1).tdiv 2 = ((i + 1 : Nat) : Int) := by rw [Int.tdiv_eq_ediv_of_nonneg (by omega)]; omega
        have eq2 : (q : Int).tdiv 2 = ((q / 2 : Nat) : Int) := by rw [Int.tdiv_eq_ediv_of_nonneg (by omega)]; omega
        clear hall hm
        go_wp2_with fail
        (((with_reducible refine (sh_middle H1.out (by rw [hList_len]; omega) (a := 0) (b := 0) (by omega) (by omega) (by omega) (by omega) m true HM0.out HM1.out).mono ?_)); rintro _ _ ⟨rfl, u4, rfl⟩)
        have H4 := hid (H1.out.on u4.below H1.out.ge)
        clear H1
        generalize u4.val = W4 at H4 ⊢
        go_wp2_with fail
        (((with_reducible refine (sh_count H4.out (by rw [hList_len]; omega) (a := 0) (b := m) (by omega) (by omega) m1 m2 (i + 1) HLO.out).mono ?_)); rintro _ _ ⟨rfl, u5, rfl⟩)
        have H5 := hid (H4.out.on u5.below H4.out.ge)
        clear H4
        generalize u5.val = W5 at H5 ⊢
        go_wp2_with fail
        (((with_reducible refine (sh_count H5.out (by rw [hList_len]; omega) (a := m) (b := 0) m1 m2 (by omega) (by omega) (q / 2) HHI.out).mono ?_)); rintro _ _ ⟨rfl, u6, rfl⟩)
        have hbw := (H5.out.on u6.below H5.out.ge).1
        go_wp2_with fail
        go_ret
        exact .mk rfl hbw
theorem walkHalves_walk (n : Int) (wn : (Lit.int .i64 n).wf = true) (w : World) : Calls Try.prog 8 #[.int .i64 n] w (Makes (.bool true) w) := by
  clear wn
  by_cases c : n < 0
  · have d0 : decide (n < 0) = true := by simp; omega
    clear c
    go_enter Try.func8, Try.ntmps8
    go_wp2_with (first | (go_at_call 33; ((with_reducible refine (wkAlive_any _).mono ?_)); rintro _ _ ⟨rfl, u, rfl⟩; (try (rw [Fut.put_self u (by first | assumption | (simp [go_sem]; done) | (simp [go_sem]; omega))]))) | (((with_reducible refine wp_region_fut_lit (by kernel_rfl) (by kernel_rfl) ?_)); (repeat (go_big_quiet_step ((first | (go_at_call 33; with_reducible exact Calls.fut_of (wkAlive_any _)))))); ((with_reducible refine wpQuiet_nil ?_)); rintro _ ⟨u, rfl⟩; (try (rw [Fut.put_self u (by first | assumption | (simp [go_sem]; done) | (simp [go_sem]; omega))]))))
    go_ret; exact .mk (by first | rfl | (simp; done) | (simp; omega)) (by repeat' (first | exact Below.refl _ _ | with_reducible assumption | omega | with_reducible refine below_put_fut ?_ ?_ _ | with_reducible refine below_to_put ?_ | with_reducible refine Below.alloc ?_ ?_ _ | with_reducible refine Below.fut ?_ ?_ _ | with_reducible refine Below.drew ?_ | with_reducible refine Below.setCell ?_ ?_ _ | with_reducible refine Below.atPut ?_ ?_ _ | (simp [go_sem]; done) | (simp [go_sem]; omega)))
  have d0 : decide (n < 0) = false := by simp; omega
  by_cases c2 : 60 < n
  · have d1 : decide (60 < n) = true := by simp; omega
    clear c c2
    go_enter Try.func8, Try.ntmps8
    go_wp2_with (first | (go_at_call 33; ((with_reducible refine (wkAlive_any _).mono ?_)); rintro _ _ ⟨rfl, u, rfl⟩; (try (rw [Fut.put_self u (by first | assumption | (simp [go_sem]; done) | (simp [go_sem]; omega))]))) | (((with_reducible refine wp_region_fut_lit (by kernel_rfl) (by kernel_rfl) ?_)); (repeat (go_big_quiet_step ((first | (go_at_call 33; with_reducible exact Calls.fut_of (wkAlive_any _)))))); ((with_reducible refine wpQuiet_nil ?_)); rintro _ ⟨u, rfl⟩; (try (rw [Fut.put_self u (by first | assumption | (simp [go_sem]; done) | (simp [go_sem]; omega))]))))
    go_ret; exact .mk (by first | rfl | (simp; done) | (simp; omega)) (by repeat' (first | exact Below.refl _ _ | with_reducible assumption | omega | with_reducible refine below_put_fut ?_ ?_ _ | with_reducible refine below_to_put ?_ | with_reducible refine Below.alloc ?_ ?_ _ | with_reducible refine Below.fut ?_ ?_ _ | with_reducible refine Below.drew ?_ | with_reducible refine Below.setCell ?_ ?_ _ | with_reducible refine Below.atPut ?_ ?_ _ | (simp [go_sem]; done) | (simp [go_sem]; omega)))
  obtain ⟨n', rfl⟩ := Int.eq_ofNat_of_zero_le (show 0 ≤ n by omega)
  exact walkHalves_good n' (by omega) w
end Go.Proofs.Ythknenhcnpgkcaa
