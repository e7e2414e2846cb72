/- WalkMiddle answers true for every list of items and every arc: the walk. -/
import Derived.Test.YthknenhcnpgkcaaWkV
import Derived.Test.YthknenhcnpgkcaaItems
import Derived.Test.YthknenhcnpgkcaaFrame
namespace Go.Proofs.Ythknenhcnpgkcaa
open Go.RowKit Go.Shelf
set_option linter.unusedVariables false
set_option linter.unusedSimpArgs false
set_option maxRecDepth 100000 in
set_option maxHeartbeats 4000000 in
theorem walkMiddle_good (w : World) (sl : Value) (l : List It) (n : Nat) (hl : l.length = n) (hn : n ≤ 60) (hs : Src w 2 sl n (flat l)) (a b : Int) (ha : 0 ≤ a) (ha2 : a < 18446744073709551616) (hb : 0 ≤ b) (hb2 : b < 18446744073709551616) :
    Calls Try.prog 5 #[sl, .agg #[.int .u64 a, .int .u64 b]] w (Makes (.bool true) w) := by
  obtain ⟨ao, cap, rfl⟩ := hs.slice_of
  have d1 : decide ((60 : Int) < n) = false := by simp; omega
  have HS := hid hs
  have HL := hid hl
  clear hs hl
  go_enter Try.func5, Try.ntmps5
  go_wp2_with (first | (go_at_call 33; ((with_reducible refine (wkAlive_any _).mono ?_)); rintro _ _ ⟨rfl, u, rfl⟩; (try (rw [Fut.put_self u (by first | assumption | (simp [go_sem]; done) | (simp [go_sem]; omega))]))) | (((with_reducible refine wp_region_fut_lit (by kernel_rfl) (by kernel_rfl) ?_)); (repeat (go_big_quiet_step ((first | (go_at_call 33; with_reducible exact Calls.fut_of (wkAlive_any _)))))); ((with_reducible refine wpQuiet_nil ?_)); rintro _ ⟨u, rfl⟩; (try (rw [Fut.put_self u (by first | assumption | (simp [go_sem]; done) | (simp [go_sem]; omega))]))))
  clear d1
  have hbX : Below w.heap.size w u.val := (by repeat' (first | exact Below.refl _ _ | with_reducible assumption | omega | with_reducible refine below_put_fut ?_ ?_ _ | with_reducible refine below_to_put ?_ | with_reducible refine Below.alloc ?_ ?_ _ | with_reducible refine Below.fut ?_ ?_ _ | with_reducible refine Below.drew ?_ | with_reducible refine Below.setCell ?_ ?_ _ | with_reducible refine Below.atPut ?_ ?_ _ | (simp [go_sem]; done) | (simp [go_sem]; omega)))
  have hzX := hbX.size
  have hc7 := hid ((u.below.block w.heap.size (by simp)).trans (heap_alloc_at w (.cells #[.int .u64 a, .int .u64 b] 38) _ rfl))
  generalize u.val = X at hbX hzX hc7 ⊢
  refine (filled_is X _ l n HL.out hn (HS.out.heap hbX)).mono ?_
  rintro _ W1 ⟨gs, gr, rfl, hb1⟩
  have hcW : W1.heap[w.heap.size]? = some (.cells #[.int .u64 a, .int .u64 b] 38) := (hb1.1.block _ (lt_of_heap hc7.out)).trans hc7.out
  have H1 := hid (hb1.base hbX hzX).sh
  have hxl := fillL_len l
  generalize fillL l = xs at H1 hxl
  obtain ⟨m, hm⟩ : ∃ m, xs.length = m := ⟨_, rfl⟩
  have HM := hid hm
  rw [hm, HL.out] at hxl
  have hm60 : m ≤ 60 := by omega
  have HRS := hid (sh_rises H1.out)
  have e1 := fun i => cell_of_row W1 w.heap.size i _ _ (0, 0) hcW
  have l1 := lt_of_heap hcW
  have HC := hid hcW
  clear hb1 hbX hzX HS HL hxl hm hc7 hcW
  obtain ⟨md, hmd⟩ : ∃ md, (midL ((arcL a b xs).map adr)).getD 0 = md := ⟨_, rfl⟩
  obtain ⟨mi, hmi⟩ : ∃ mi, (midL ((arcL a b xs).map adr)).isSome = mi := ⟨_, rfl⟩
  have HMD := hid hmd
  have HMI := hid hmi
  clear hmd hmi
  obtain ⟨nc, hnc⟩ : ∃ nc, (arcL a b xs).length = nc := ⟨_, rfl⟩
  have HNC := hid hnc
  clear hnc
  go_wp2_with fail
  (((with_reducible refine (sh_middle H1.out (by rw [HM.out]; omega) ha ha2 hb hb2 md mi HMD.out HMI.out).mono ?_)); rintro _ _ ⟨rfl, u4, rfl⟩)
  have H4 := hid (H1.out.on u4.below H1.out.ge)
  have hc4 := (u4.below.block _ (lt_of_heap HC.out)).trans HC.out
  generalize u4.val = W4 at H4 hc4 ⊢
  have e4 := fun i => cell_of_row W4 w.heap.size i _ _ (0, 0) hc4
  have l4 := lt_of_heap hc4
  have HC4 := hid hc4
  clear H1 HC e1 l1 hc4
  go_wp2_with fail
  (((with_reducible refine (sh_count H4.out (by rw [HM.out]; omega) ha ha2 hb hb2 nc HNC.out).mono ?_)); rintro _ _ ⟨rfl, u5, rfl⟩)
  have H5 := hid (H4.out.on u5.below H4.out.ge)
  have hc5 := (u5.below.block _ (lt_of_heap HC4.out)).trans HC4.out
  generalize u5.val = W5 at H5 hc5 ⊢
  have e5 := fun i => cell_of_row W5 w.heap.size i _ _ (0, 0) hc5
  have l5 := lt_of_heap hc5
  have hbw := H5.out.1
  have hzw := hbw.size
  clear H4 HC4 e4 l4 hc5
  cases mi with
  | false =>
    go_wp2_with fail
    go_ret
    exact .mk rfl hbw
  | true =>
    have hm : midL ((arcL a b xs).map adr) = some md := by
      cases h : midL ((arcL a b xs).map adr) with
      | none => rw [h] at HMI; exact absurd HMI.out (by simp)
      | some v => rw [h] at HMD; rw [← HMD.out]; rfl
    obtain ⟨k1, k2, k3, k4, k5, k6, k7⟩ := middle_law ha ha2 hb hb2 HRS.out hm
    obtain ⟨lo, hlo⟩ : ∃ lo, (arcL a md xs).length = lo := ⟨_, rfl⟩
    obtain ⟨hi, hhi⟩ : ∃ hi, (arcL md b xs).length = hi := ⟨_, rfl⟩
    rw [hlo] at k4 k6 k7
    rw [hhi] at k5 k7
    rw [HNC.out] at k6 k7
    have HLO := hid hlo
    have HHI := hid hhi
    have hncl : nc ≤ 60 := by rw [← HNC.out]; have := arcL_len_le ha ha2 hb hb2 xs; rw [HM.out] at this; omega
    clear hlo hhi hm
    have g1 : (md != a) = true := by simp [k1]
    have g2 : decide (1 ≤ (lo : Int)) = true := by simp; omega
    have g2n : decide (1 ≤ lo) = true := by simp; omega
    have g3 : decide (1 ≤ (hi : Int)) = true := by simp; omega
    have g3n : decide (1 ≤ hi) = true := by simp; omega
    have e2 : IntKind.i64.wrap (2 * (lo : Int)) = 2 * (lo : Int) := IntWalk.i64_in _ (by omega)
    have g4 : decide ((nc : Int) ≤ 2 * (lo : Int)) = true := by simp; omega
    have e3 : IntKind.i64.wrap ((lo : Int) + (hi : Int)) = (nc : Int) := by rw [show (lo : Int) + (hi : Int) = (nc : Int) by omega]; exact IntWalk.i64_in _ (by omega)
    clear k1 k4 k5 k6 k7
    go_wp2_with (first | (go_at_call 40; ((with_reducible refine (sh_count (H5.out.on (by repeat' (first | exact Below.refl _ _ | with_reducible assumption | omega | with_reducible refine below_put_fut ?_ ?_ _ | with_reducible refine below_to_put ?_ | with_reducible refine Below.alloc ?_ ?_ _ | with_reducible refine Below.fut ?_ ?_ _ | with_reducible refine Below.drew ?_ | with_reducible refine Below.setCell ?_ ?_ _ | with_reducible refine Below.atPut ?_ ?_ _ | (simp [go_sem]; done) | (simp [go_sem]; omega))) H5.out.ge) (by rw [HM.out]; omega) ha ha2 k2 k3 lo HLO.out).mono ?_)); rintro _ _ ⟨rfl, u, rfl⟩; (try (rw [Fut.put_self u (by first | assumption | (simp [go_sem]; done) | (simp [go_sem]; omega))]))) | (go_at_call 40; ((with_reducible refine (sh_count (H5.out.on (by repeat' (first | exact Below.refl _ _ | with_reducible assumption | omega | with_reducible refine below_put_fut ?_ ?_ _ | with_reducible refine below_to_put ?_ | with_reducible refine Below.alloc ?_ ?_ _ | with_reducible refine Below.fut ?_ ?_ _ | with_reducible refine Below.drew ?_ | with_reducible refine Below.setCell ?_ ?_ _ | with_reducible refine Below.atPut ?_ ?_ _ | (simp [go_sem]; done) | (simp [go_sem]; omega))) H5.out.ge) (by rw [HM.out]; omega) k2 k3 hb hb2 hi HHI.out).mono ?_)); rintro _ _ ⟨rfl, u, rfl⟩; (try (rw [Fut.put_self u (by first | assumption | (simp [go_sem]; done) | (simp [go_sem]; omega))]))) | (((with_reducible refine wp_region_fut_lit (by kernel_rfl) (by kernel_rfl) ?_)); (repeat (go_big_quiet_step ((first | (go_at_call 40; with_reducible exact Calls.fut_of (sh_count (H5.out.on (by repeat' (first | exact Below.refl _ _ | with_reducible assumption | omega | with_reducible refine below_put_fut ?_ ?_ _ | with_reducible refine below_to_put ?_ | with_reducible refine Below.alloc ?_ ?_ _ | with_reducible refine Below.fut ?_ ?_ _ | with_reducible refine Below.drew ?_ | with_reducible refine Below.setCell ?_ ?_ _ | with_reducible refine Below.atPut ?_ ?_ _ | (simp [go_sem]; done) | (simp [go_sem]; omega))) H5.out.ge) (by rw [HM.out]; omega) ha ha2 k2 k3 lo HLO.out)) | (go_at_call 40; with_reducible exact Calls.fut_of (sh_count (H5.out.on (by repeat' (first | exact Below.refl _ _ | with_reducible assumption | omega | with_reducible refine below_put_fut ?_ ?_ _ | with_reducible refine below_to_put ?_ | with_reducible refine Below.alloc ?_ ?_ _ | with_reducible refine Below.fut ?_ ?_ _ | with_reducible refine Below.drew ?_ | with_reducible refine Below.setCell ?_ ?_ _ | with_reducible refine Below.atPut ?_ ?_ _ | (simp [go_sem]; done) | (simp [go_sem]; omega))) H5.out.ge) (by rw [HM.out]; omega) k2 k3 hb hb2 hi HHI.out)))))); ((with_reducible refine wpQuiet_nil ?_)); rintro _ ⟨u, rfl⟩; (try (rw [Fut.put_self u (by first | assumption | (simp [go_sem]; done) | (simp [go_sem]; omega))]))))
    go_ret
    exact .mk rfl (hbw.trans ((by exact u.below : Below W5.heap.size W5 _).mono hzw))
theorem walkMiddle_walk (W : World) (sl : Value) (l : List It) (hl : ItemsAt W sl l) (a : Int) (wa : (Lit.int .u64 a).wf = true) (b : Int) (wb : (Lit.int .u64 b).wf = true) :
    Calls Try.prog 5 #[sl, .agg #[.int .u64 a, .int .u64 b]] W (Makes (.bool true) W) := by
  have hs := hl.src
  have ha := U64.bd wa
  have hb := U64.bd wb
  obtain ⟨n, hn⟩ : ∃ n, l.length = n := ⟨_, rfl⟩
  rw [hn] at hs
  obtain ⟨ao, cap, rfl⟩ := hs.slice_of
  clear wa wb hl
  rcases Nat.lt_or_ge 60 n with c | c
  · have d1 : decide ((60 : Int) < n) = true := by simp; omega
    clear c hn hs ha hb
    go_enter Try.func5, Try.ntmps5
    go_wp2_with (first | (go_at_call 33; ((with_reducible refine (wkAlive_any _).mono ?_)); rintro _ _ ⟨rfl, u, rfl⟩; (try (rw [Fut.put_self u (by first | assumption | (simp [go_sem]; done) | (simp [go_sem]; omega))]))) | (((with_reducible refine wp_region_fut_lit (by kernel_rfl) (by kernel_rfl) ?_)); (repeat (go_big_quiet_step ((first | (go_at_call 33; with_reducible exact Calls.fut_of (wkAlive_any _)))))); ((with_reducible refine wpQuiet_nil ?_)); rintro _ ⟨u, rfl⟩; (try (rw [Fut.put_self u (by first | assumption | (simp [go_sem]; done) | (simp [go_sem]; omega))]))))
    go_ret; exact .mk (by first | rfl | (simp; done) | (simp; omega)) (by repeat' (first | exact Below.refl _ _ | with_reducible assumption | omega | with_reducible refine below_put_fut ?_ ?_ _ | with_reducible refine below_to_put ?_ | with_reducible refine Below.alloc ?_ ?_ _ | with_reducible refine Below.fut ?_ ?_ _ | with_reducible refine Below.drew ?_ | with_reducible refine Below.setCell ?_ ?_ _ | with_reducible refine Below.atPut ?_ ?_ _ | (simp [go_sem]; done) | (simp [go_sem]; omega)))
  exact walkMiddle_good W _ l n hn c hs a b ha.1 (by omega) hb.1 (by omega)
end Go.Proofs.Ythknenhcnpgkcaa
