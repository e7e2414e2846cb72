/- CutBack answers true for every list of items and every arc: the walk. -/
import Derived.Test.YthknenhcnpgkcaaCut9
import Derived.Deep.RegionHeld3
namespace Go.Proofs.Ythknenhcnpgkcaa
open Go.RowKit Go.Shelf
set_option linter.unusedVariables false
set_option linter.unusedSimpArgs false
set_option maxRecDepth 100000 in
set_option maxHeartbeats 4000000 in
theorem cutBack_good (w : World) (sl : Value) (l : List It) (n : Nat) (hl : l.length = n) (hn : n ≤ 60) (hs : Src w 2 sl n (flat l)) (a b : Int) (ha : 0 ≤ a) (ha2 : a < 18446744073709551616) (hb : 0 ≤ b) (hb2 : b < 18446744073709551616) :
    Calls Try.prog 22 #[sl, .agg #[.int .u64 a, .int .u64 b]] w (Makes (.bool true) w) := by
  obtain ⟨ao, cap, rfl⟩ := hs.slice_of
  have d1 : decide ((60 : Int) < n) = false := by simp; omega
  have HS := hid hs
  have HL := hid hl
  clear hs hl
  go_enter Try.func22, Try.ntmps22
  go_wp2_with (first | (go_at_call 60; ((with_reducible refine (cutAlive_any _).mono ?_)); rintro _ _ ⟨rfl, u, rfl⟩; (try (rw [Fut.put_self u (by first | assumption | (simp [go_sem]; done) | (simp [go_sem]; omega))]))) | (((with_reducible refine wp_region_fut_lit (by kernel_rfl) (by kernel_rfl) ?_)); (repeat (go_big_quiet_step ((first | (go_at_call 60; with_reducible exact Calls.fut_of (cutAlive_any _)))))); ((with_reducible refine wpQuiet_nil ?_)); rintro _ ⟨u, rfl⟩; (try (rw [Fut.put_self u (by first | assumption | (simp [go_sem]; done) | (simp [go_sem]; omega))]))))
  clear d1
  have hbX : Below w.heap.size w u.val := (by repeat' (first | exact Below.refl _ _ | with_reducible assumption | omega | with_reducible refine below_put_fut ?_ ?_ _ | with_reducible refine below_to_put ?_ | with_reducible refine Below.alloc ?_ ?_ _ | with_reducible refine Below.fut ?_ ?_ _ | with_reducible refine Below.drew ?_ | with_reducible refine Below.setCell ?_ ?_ _ | with_reducible refine Below.atPut ?_ ?_ _ | (simp [go_sem]; done) | (simp [go_sem]; omega)))
  have hzX := hbX.size
  have hc7 := (u.below.block w.heap.size (by simp)).trans (heap_alloc_at w (.cells #[.int .u64 a, .int .u64 b] 38) _ rfl)
  generalize u.val = X at hbX hzX hc7 ⊢
  refine (filled_is X _ l n HL.out (by omega) (HS.out.heap hbX)).mono ?_
  rintro _ W1 ⟨gs, gr, rfl, hb1⟩
  have hxl := fillL_len l
  have hok := hid (okIt_fill l)
  have hbW1 := hb1.1
  generalize fillL l = xs at hb1 hxl hok
  rw [HL.out] at hxl
  have HRI := hid hb1.2.2.1
  obtain ⟨m, hm⟩ : ∃ m, xs.length = m := ⟨_, rfl⟩
  have HM := hid hm
  rw [hm] at hxl
  obtain ⟨v, r1, r2, r3, r4, r5⟩ := hb1.held (by omega)
  rw [hm] at r2
  obtain ⟨va, vc, rfl⟩ := owns_slice r2
  have H1 := hid (held_base r5 hbX hzX)
  have R1 := hid r1
  have R2 := hid r2
  have jc := (hbW1.block _ (lt_of_heap hc7)).trans hc7
  have e1 := fun i => cell_of_row W1 w.heap.size i _ _ (0, 0) jc
  have l1 := lt_of_heap jc
  obtain ⟨n1, hn1⟩ : ∃ n1, (arcL a b xs).length = n1 := ⟨_, rfl⟩
  have hn1l : n1 ≤ 60 := by have := arcL_len_le ha ha2 hb hb2 xs; omega
  have HN1 := hid hn1
  have HBK := hid (back_is ha ha2 hb hb2 HRI.out hok.out (by rw [hm]; omega))
  clear hb1 r1 r2 r4 r5 hbW1 hc7 hn1 hm HS HL jc hzX hbX r3
  go_wp2_with fail
  refine (cutOut_is H1.out a b ha ha2 hb hb2 n1 HN1.out).mono ?_
  rintro _ W2 ⟨a2, c2, rfl, o1, o2, o3, o4⟩
  have HO := hid o1
  have H2 := hid o2
  have hgr := (o3 gr (.inl (.inl rfl))).trans R1.out
  have HG2 := hid hgr
  have HRR := hid (R2.out.keep (W' := W2) fun k hk => o3 k (.inl (.inr hk)))
  clear o1 o2 o3 o4 hgr H1 R1 R2 e1 l1
  have HIN := hid (show inL 200 (arcL a b xs) (outL a b xs) = xs by unfold inL; rw [HBK.out]; rfl)
  have HCE := hid (fun (Y : World) (hY : Y.heap[gr]? = W2.heap[gr]?) => show Y.cell? ⟨gr, 1, none⟩ = some (.slice va m vc) from cell_of_row Y gr 1 _ _ (0, 0) (hY.trans HG2.out))
  have HW5 := hid (show W2.drew.heap[gr]? = W2.heap[gr]? from rfl)
  have HX5 := hid (show HeldM 200 w W2.drew (fun k => ((k = gr ∨ blk (.slice va m vc) k ≠ 0) ∨ k < X.heap.size) ∨ blk (.slice a2 n1 c2) k ≠ 0) (outL a b xs) gs from H2.out.on (Below.refl _ W2).drew)
  have HR5 := hid (show Row W2.drew 34 2 (.slice va m vc) m (flat xs) from HRR.out.keep fun _ _ => rfl)
  have HO5 := hid (show Row W2.drew 34 2 (.slice a2 n1 c2) n1 (flat (arcL a b xs)) from HO.out.keep fun _ _ => rfl)
  have hgl := lt_of_heap HG2.out
  have hm2 : m ≤ 200 := by omega
  clear H2 HO HRR
  go_wp2_with fail
  first | (go_region_held3 (fun Y => Y.cell? ⟨gr, 1, none⟩ = some (.slice va m vc)) ((first | exact HCE.out _ HW8.out | exact HCE.out _ HW7.out | exact HCE.out _ HW6.out | exact HCE.out _ HW5.out)) ((first
    | (go_at_call 29; refine (same_is _ _ _ xs m HM.out (by omega) HS7.out HR7.out).mono ?_; rintro _ _ ⟨rfl, u8, rfl⟩; have HB8 := hid (HX7.out.1.trans (u8.below.mono HX7.out.2.1)); have HW8 := hid ((u8.below.block _ (lt_of_heap (HW7.out.trans HG2.out))).trans HW7.out))
    | (go_at_call 28; refine (sh_items HX6.out.sh (by rw [HM.out]; omega)).mono ?_; rintro _ W7 ⟨a7, c7, rfl, hr7, hb7, -⟩; rw [HM.out] at hr7 ⊢; have HX7 := hid (HX6.out.on hb7); have HS7 := hid (hr7.src (flat_one _)); have HR7 := hid ((HR6.out.src (flat_one _)).heap hb7); have HW7 := hid ((hb7.block _ (lt_of_heap (HW6.out.trans HG2.out))).trans HW6.out); clear hr7 hb7)
    | (go_at_call 66; refine (cutIn_is (Int.le_refl _) HX5.out _ (arcL a b xs) n1 HN1.out (by omega) (fun Y hY => (HO5.out.keep fun k hk => hY k (.inr hk)).src (flat_one _)) 0 (by rw [HBK.out])).mono ?_; rintro _ W6 ⟨rfl, hh6, hk6⟩; rw [HIN.out] at hh6; have HX6 := hid hh6; have HR6 := hid (HR5.out.keep (W' := W6) fun k hk => hk6 k (.inl (.inl (.inr hk)))); have HW6 := hid ((hk6 gr (.inl (.inl (.inl rfl)))).trans HW5.out); clear hh6 hk6)))) | fail "held3"
  have hbw8 := HB8.out
  go_wp2_with fail
  go_ret
  exact .mk rfl hbw8
theorem cutBack_walk (W : World) (sl : Value) (l : List It) (hl : ItemsAt W sl l) (a : Int) (wa : (Lit.int .u64 a).wf = true) (b : Int) (wb : (Lit.int .u64 b).wf = true) :
    Calls Try.prog 22 #[sl, .agg #[.int .u64 a, .int .u64 b]] W (Makes (.bool true) W) := by
  have hs := hl.src
  have ha := U64.bd wa
  have hb := U64.bd wb
  obtain ⟨n, hn⟩ : ∃ n, l.length = n := ⟨_, rfl⟩
  rw [hn] at hs
  obtain ⟨ao, cap, rfl⟩ := hs.slice_of
  clear wa wb hl
  rcases Nat.lt_or_ge 60 n with c | c
  · have d1 : decide ((60 : Int) < n) = true := by simp; omega
    clear c hn hs ha hb
    go_enter Try.func22, Try.ntmps22
    go_wp2_with (first | (go_at_call 60; ((with_reducible refine (cutAlive_any _).mono ?_)); rintro _ _ ⟨rfl, u, rfl⟩; (try (rw [Fut.put_self u (by first | assumption | (simp [go_sem]; done) | (simp [go_sem]; omega))]))) | (((with_reducible refine wp_region_fut_lit (by kernel_rfl) (by kernel_rfl) ?_)); (repeat (go_big_quiet_step ((first | (go_at_call 60; with_reducible exact Calls.fut_of (cutAlive_any _)))))); ((with_reducible refine wpQuiet_nil ?_)); rintro _ ⟨u, rfl⟩; (try (rw [Fut.put_self u (by first | assumption | (simp [go_sem]; done) | (simp [go_sem]; omega))]))))
    go_ret; exact .mk (by first | rfl | (simp; done) | (simp; omega)) (by repeat' (first | exact Below.refl _ _ | with_reducible assumption | omega | with_reducible refine below_put_fut ?_ ?_ _ | with_reducible refine below_to_put ?_ | with_reducible refine Below.alloc ?_ ?_ _ | with_reducible refine Below.fut ?_ ?_ _ | with_reducible refine Below.drew ?_ | with_reducible refine Below.setCell ?_ ?_ _ | with_reducible refine Below.atPut ?_ ?_ _ | (simp [go_sem]; done) | (simp [go_sem]; omega)))
  exact cutBack_good W _ l n hn c hs a b ha.1 (by omega) hb.1 (by omega)
end Go.Proofs.Ythknenhcnpgkcaa
