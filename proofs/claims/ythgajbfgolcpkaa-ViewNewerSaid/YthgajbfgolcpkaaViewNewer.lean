/- ViewNewer answers true for every list of arcs with owners, every arc with an owner, and every point, and leaves them as they were. No condition. -/
import Derived.Test.YthgajbfgolcpkaaVwC
import Derived.Test.YthgajbfgolcpkaaOws
import Derived.Test.YthgajbfgolcpkaaFrame
import Derived.IntWalk
namespace Go.Proofs.Ythgajbfgolcpkaa
open Go.ChangeShapes Go.WideShapes Go.ChangeAt Go.RowKit Go.Joins
set_option linter.unusedVariables false
set_option linter.unusedSimpArgs false
set_option maxRecDepth 100000 in
set_option maxHeartbeats 4000000 in
theorem viewNewer_good (w : World) (ao : Option Addr) (m cap : Nat) (zs : List Ow) (hl : zs.length = m) (hi : OwsAt w (.slice ao m cap) zs) (hm : m ≤ 40) (o : Ow) (ho : OkA o.1 o.2.1) (h1 : 0 ≤ o.2.2.1) (h2 : o.2.2.1 ≤ 255) (h3 : 0 ≤ o.2.2.2) (x : Int) (hx : 0 ≤ x) (hx2 : x < 18446744073709551616) :
    Calls Try.prog 13 #[.slice ao m cap, .agg (owA o), .int .u64 x] w (Makes (.bool true) w) := by
  have hlaw := newer_law (told_good GoodL.nil zs hi.ok) hx hx2 ho h1 h2 h3
  obtain ⟨oa, ob, on, oe⟩ := o
  dsimp only at hlaw h1 h2 h3
  have HI := hid hi
  have HL := hid hl
  have d1 : decide ((40 : Int) < m) = false := by simp; omega
  have d2 : decide (on < 0) = false := by simp; omega
  have d3 : decide (255 < on) = false := by simp; omega
  have d4 : decide (oe < 0) = false := by simp; omega
  have HLAW := hid hlaw
  clear hi hl hlaw ho h1 h2 h3 hx hx2
  go_enter Try.func13, Try.ntmps13
  go_wp2_with (first | (go_at_call 34; ((with_reducible refine (viewAlive_any _).mono ?_)); rintro _ _ ⟨rfl, u, rfl⟩; (try (rw [Fut.put_self u (by first | assumption | (simp [go_sem]; done) | (simp [go_sem]; omega))]))) | (((with_reducible refine wp_region_fut_lit (by kernel_rfl) (by kernel_rfl) ?_)); (repeat (go_big_quiet_step ((first | (go_at_call 34; with_reducible exact Calls.fut_of (viewAlive_any _)))))); ((with_reducible refine wpQuiet_nil ?_)); rintro _ ⟨u, rfl⟩; (try (rw [Fut.put_self u (by first | assumption | (simp [go_sem]; done) | (simp [go_sem]; omega))]))))
  obtain ⟨B, hB⟩ : ∃ B : Base, B = ⟨u.val, fun _ => none⟩ := ⟨_, rfl⟩
  have hg : u.val.heap.size = w.heap.size + 1 + u.n := by simp [go_sem]
  have H0 := hid (show Vw B (w.heap.size + 1 + u.n) [] (u.val.alloc (viewObj (.slice none 0 0))) from vw_new (by rw [hB]; exact fun _ => rfl) (by rw [hB]; exact (by repeat' (first | exact Below.refl _ _ | with_reducible assumption | omega | with_reducible refine below_put_fut ?_ ?_ _ | with_reducible refine below_to_put ?_ | with_reducible refine Below.alloc ?_ ?_ _ | with_reducible refine Below.fut ?_ ?_ _ | with_reducible refine Below.drew ?_ | with_reducible refine Below.setCell ?_ ?_ _ | with_reducible refine Below.atPut ?_ ?_ _ | (simp [go_sem]; done) | (simp [go_sem]; omega)))) (by rw [hB]; exact Nat.le_of_eq hg) (heap_alloc_at _ _ _ (by rw [hg])))
  have HBW := hid (show Below w.heap.size w B.toWorld by rw [hB]; exact (by repeat' (first | exact Below.refl _ _ | with_reducible assumption | omega | with_reducible refine below_put_fut ?_ ?_ _ | with_reducible refine below_to_put ?_ | with_reducible refine Below.alloc ?_ ?_ _ | with_reducible refine Below.fut ?_ ?_ _ | with_reducible refine Below.drew ?_ | with_reducible refine Below.setCell ?_ ?_ _ | with_reducible refine Below.atPut ?_ ?_ _ | (simp [go_sem]; done) | (simp [go_sem]; omega))))
  have HBX := hid (show B.heap[w.heap.size]? = some (.cells (owA (oa, ob, on, oe)) 71) by rw [hB]; exact (by repeat' (first | rfl | assumption | (with_reducible refine (heap_drew_eq _ _).trans ?_) | (refine (Fut.heap _ _ ?_).trans ?_ ; focus (first | assumption | omega | (simp [go_sem]; done) | (simp [go_sem]; omega))) | (refine (heap_put_at _ _ _ ?_).trans ?_ ; focus (first | assumption | omega | (simp [go_sem]; done) | (simp [go_sem]; omega))) | (refine (heap_put_other _ _ _ _ ?_).trans ?_ ; focus (first | assumption | omega | (simp [go_sem]; done) | (simp [go_sem]; omega))) | (refine (heap_alloc_other _ _ _ ?_).trans ?_ ; focus (first | assumption | omega | (simp [go_sem]; done) | (simp [go_sem]; omega))) | (refine (heap_alloc_at _ _ _ ?_).trans ?_ ; focus (first | assumption | omega | (simp [go_sem]; done) | (simp [go_sem]; omega))) | (simp [go_sem]; done) | (simp [go_sem]; omega))))
  have hBs : w.heap.size < B.heap.size := lt_of_heap HBX.out
  have hgb : B.heap.size = w.heap.size + 1 + u.n := by rw [hB]; exact hg
  clear hB hg d1 d2 d3 d4
  generalize w.heap.size + 1 + u.n = g at H0 hgb ⊢
  go_loopw [41] (fun i wr => ∃ k : Nat, k ≤ m ∧ i = .int .i64 k ∧ Hid (Vw B g (told [] (zs.take k)) wr)) (fun i _ => m - (intOf i).toNat)
  case atStart => exact ⟨0, Nat.zero_le _, rfl, H0⟩
  case round =>
    obtain ⟨k, hk, rfl, hv⟩ := hrel
    have hbw := HBW.out.trans (hv.out.below.mono HBW.out.size)
    by_cases hlt : k < m
    · obtain ⟨p, hp⟩ : ∃ p, zs[k]? = some p := ⟨zs[k]'(by rw [HL.out]; exact hlt), List.getElem?_eq_getElem _⟩
      obtain ⟨b1, o1, rfl, p0, p1, p2, p3⟩ := HI.out.at_ hp
      have hlb := World.block_lt_of_cell? _ _ p0
      have q0 := (hbw.cell (p := ⟨b1, o1 + k * 4, none⟩) hlb).trans p0
      have q1 := (hbw.cell (p := ⟨b1, o1 + k * 4 + 1, none⟩) hlb).trans p1
      have q2 := (hbw.cell (p := ⟨b1, o1 + k * 4 + 2, none⟩) hlb).trans p2
      have q3 := (hbw.cell (p := ⟨b1, o1 + k * 4 + 3, none⟩) hlb).trans p3
      have HP := hid hp
      clear hp p0 p1 p2 p3 hbw
      go_wp2_with fail
      (((with_reducible refine (vw_learn (hv.out.on (by repeat' (first | exact Below.refl _ _ | with_reducible assumption | omega | with_reducible refine below_put_fut ?_ ?_ _ | with_reducible refine below_to_put ?_ | with_reducible refine Below.alloc ?_ ?_ _ | with_reducible refine Below.fut ?_ ?_ _ | with_reducible refine Below.drew ?_ | with_reducible refine Below.setCell ?_ ?_ _ | with_reducible refine Below.atPut ?_ ?_ _ | (simp [go_sem]; done) | (simp [go_sem]; omega)))) (Nat.le_trans (told_len_take k m (by simp) HL.out hm) (by omega)) p _ _ rfl).mono ?_)); rintro _ W3 ⟨rfl, hv3⟩)
      have HV3 := hid (show Vw B g (told [] (zs.take (k + 1))) W3 by rw [told_take HP.out]; exact hv3)
      clear hv3 q0 q1 q2 q3
      go_wp2_with fail
      go_roundw
      case rel => exact ⟨k + 1, by omega, by go_num, HV3⟩
      case measure => simp [intOf]; omega
    · obtain rfl : k = m := by omega
      have HT := hid (show zs.take k = zs by rw [← HL.out, List.take_length])
      have htl := told_len_take (l0 := []) (zs := zs) k k (by simp) HL.out hm
      rw [HT.out] at hv htl
      clear H0 hbw
      have HTL := hid htl
      clear htl
      generalize told [] zs = T at *
      have HT2 := hid (show (learnAll T (oa, ob, on, oe)).1.length ≤ 440 from by have := HTL.out; have := learnAll_len T (oa, ob, on, oe); omega)
      rcases HLAW.out with ⟨hy, hin, hz⟩ | ⟨⟨y0, y1, n, e⟩, ⟨z0, z1, zn, ze⟩, hy, hin | ⟨hin, hle⟩, hz, hzy⟩ | ⟨⟨z0, z1, zn, ze⟩, hin, hy | ⟨⟨y0, y1, n, e⟩, hy, hlt⟩, hz, hzo, hnew⟩
      · have HY1 := hid (show (ownerL x (arcsL T)).getD (0, 0, 0, 0) = (0, 0, 0, 0) by rw [hy]; rfl)
        have HY2 := hid (show (ownerL x (arcsL T)).isSome = false by rw [hy]; rfl)
        have HZ1 := hid (show (ownerL x (arcsL (learnAll T (oa, ob, on, oe)).1)).getD (0, 0, 0, 0) = (0, 0, 0, 0) by rw [hz]; rfl)
        have HZ2 := hid (show (ownerL x (arcsL (learnAll T (oa, ob, on, oe)).1)).isSome = false by rw [hz]; rfl)
        clear hy hz HLAW
        go_wp2_with fail
        (((with_reducible refine (vw_owner2 hv.out (Nat.le_trans HTL.out (by omega)) x (0, 0, 0, 0) false HY1.out HY2.out).mono ?_)); rintro _ W4 ⟨rfl, hb4⟩)
        have hv4 := hv.out.on hb4
        have hx4 : W4.heap[w.heap.size]? = some (.cells (owA (oa, ob, on, oe)) 71) := (hv4.below.block _ hBs).trans HBX.out
        have hl4 := lt_of_heap hx4
        have hc4 := fun i => cell_of_row W4 w.heap.size i _ _ (0, 0) hx4
        have HV5 := hid (hv4.box (W' := W4.alloc (.cells (owA (0, 0, 0, 0)) 71)) (by repeat' (first | exact Below.refl _ _ | with_reducible assumption | omega | with_reducible refine below_put_fut ?_ ?_ _ | with_reducible refine below_to_put ?_ | with_reducible refine Below.alloc ?_ ?_ _ | with_reducible refine Below.fut ?_ ?_ _ | with_reducible refine Below.drew ?_ | with_reducible refine Below.setCell ?_ ?_ _ | with_reducible refine Below.atPut ?_ ?_ _ | (simp [go_sem]; done) | (simp [go_sem]; omega))) W4.heap.size (.cells (owA (0, 0, 0, 0)) 71) (Nat.le_refl _) (heap_alloc_at _ _ _ rfl))
        clear hb4 hv4 hx4
        go_wp2_with fail
        (((with_reducible refine (vw_learn HV5.out (Nat.le_trans HTL.out (by omega)) (oa, ob, on, oe) _ _ rfl).mono ?_)); rintro _ W5 ⟨rfl, hv5⟩)
        have HV6 := hid hv5
        clear hv5 hc4 hl4
        go_wp2_with fail
        (((with_reducible refine (vw_owner2 HV6.out (Nat.le_trans HT2.out (by omega)) x (0, 0, 0, 0) false HZ1.out HZ2.out).mono ?_)); rintro _ W6 ⟨rfl, hb6⟩)
        have hv6 := HV6.out.on hb6
        have hx6 : W6.heap[w.heap.size]? = some (.cells (owA (oa, ob, on, oe)) 71) := (hv6.below.block _ hBs).trans HBX.out
        have hl6 := lt_of_heap hx6
        have hc6 := fun i => cell_of_row W6 w.heap.size i _ _ (0, 0) hx6
        have hy6 : W6.heap[W4.heap.size]? = some (.cells (owA (0, 0, 0, 0)) 71) := hv6.kept (Base.with_self _ _ _)
        have hm6 := lt_of_heap hy6
        have hd6 := fun i => cell_of_row W6 W4.heap.size i _ _ (0, 0) hy6
        have HV7 := hid hv6
        have hbw7 := HBW.out.trans (HV7.out.below.mono HBW.out.size)
        have hbs7 := hbw7.size
        clear hb6 hv6 hx6 hy6
        go_wp2_with fail
        (((with_reducible refine (in_any _ _ _ _ hin _).mono ?_)); rintro _ _ ⟨rfl, u2, rfl⟩)
        go_wp2_with fail
        go_ret; exact .mk (by first | rfl | (simp; done) | (simp; omega)) (by repeat' (first | exact Below.refl _ _ | with_reducible assumption | omega | with_reducible refine below_put_fut ?_ ?_ _ | with_reducible refine below_to_put ?_ | with_reducible refine Below.alloc ?_ ?_ _ | with_reducible refine Below.fut ?_ ?_ _ | with_reducible refine Below.drew ?_ | with_reducible refine Below.setCell ?_ ?_ _ | with_reducible refine Below.atPut ?_ ?_ _ | (simp [go_sem]; done) | (simp [go_sem]; omega)))
      · cases hzy
        have HY1 := hid (show (ownerL x (arcsL T)).getD (0, 0, 0, 0) = (y0, y1, n, e) by rw [hy]; rfl)
        have HY2 := hid (show (ownerL x (arcsL T)).isSome = true by rw [hy]; rfl)
        have HZ1 := hid (show (ownerL x (arcsL (learnAll T (oa, ob, on, oe)).1)).getD (0, 0, 0, 0) = (z0, z1, n, e) by rw [hz]; rfl)
        have HZ2 := hid (show (ownerL x (arcsL (learnAll T (oa, ob, on, oe)).1)).isSome = true by rw [hz]; rfl)
        clear hy hz HLAW
        go_wp2_with fail
        (((with_reducible refine (vw_owner2 hv.out (Nat.le_trans HTL.out (by omega)) x (y0, y1, n, e) true HY1.out HY2.out).mono ?_)); rintro _ W4 ⟨rfl, hb4⟩)
        have hv4 := hv.out.on hb4
        have hx4 : W4.heap[w.heap.size]? = some (.cells (owA (oa, ob, on, oe)) 71) := (hv4.below.block _ hBs).trans HBX.out
        have hl4 := lt_of_heap hx4
        have hc4 := fun i => cell_of_row W4 w.heap.size i _ _ (0, 0) hx4
        have HV5 := hid (hv4.box (W' := W4.alloc (.cells (owA (y0, y1, n, e)) 71)) (by repeat' (first | exact Below.refl _ _ | with_reducible assumption | omega | with_reducible refine below_put_fut ?_ ?_ _ | with_reducible refine below_to_put ?_ | with_reducible refine Below.alloc ?_ ?_ _ | with_reducible refine Below.fut ?_ ?_ _ | with_reducible refine Below.drew ?_ | with_reducible refine Below.setCell ?_ ?_ _ | with_reducible refine Below.atPut ?_ ?_ _ | (simp [go_sem]; done) | (simp [go_sem]; omega))) W4.heap.size (.cells (owA (y0, y1, n, e)) 71) (Nat.le_refl _) (heap_alloc_at _ _ _ rfl))
        clear hb4 hv4 hx4
        go_wp2_with fail
        (((with_reducible refine (vw_learn HV5.out (Nat.le_trans HTL.out (by omega)) (oa, ob, on, oe) _ _ rfl).mono ?_)); rintro _ W5 ⟨rfl, hv5⟩)
        have HV6 := hid hv5
        clear hv5 hc4 hl4
        go_wp2_with fail
        (((with_reducible refine (vw_owner2 HV6.out (Nat.le_trans HT2.out (by omega)) x (z0, z1, n, e) true HZ1.out HZ2.out).mono ?_)); rintro _ W6 ⟨rfl, hb6⟩)
        have hv6 := HV6.out.on hb6
        have hx6 : W6.heap[w.heap.size]? = some (.cells (owA (oa, ob, on, oe)) 71) := (hv6.below.block _ hBs).trans HBX.out
        have hl6 := lt_of_heap hx6
        have hc6 := fun i => cell_of_row W6 w.heap.size i _ _ (0, 0) hx6
        have hy6 : W6.heap[W4.heap.size]? = some (.cells (owA (y0, y1, n, e)) 71) := hv6.kept (Base.with_self _ _ _)
        have hm6 := lt_of_heap hy6
        have hd6 := fun i => cell_of_row W6 W4.heap.size i _ _ (0, 0) hy6
        have HV7 := hid hv6
        have hbw7 := HBW.out.trans (HV7.out.below.mono HBW.out.size)
        have hbs7 := hbw7.size
        clear hb6 hv6 hx6 hy6
        go_wp2_with fail
        (((with_reducible refine (in_any _ _ _ _ hin _).mono ?_)); rintro _ _ ⟨rfl, u2, rfl⟩)
        go_wp2_with fail
        go_ret; exact .mk (by first | rfl | (simp; done) | (simp; omega)) (by repeat' (first | exact Below.refl _ _ | with_reducible assumption | omega | with_reducible refine below_put_fut ?_ ?_ _ | with_reducible refine below_to_put ?_ | with_reducible refine Below.alloc ?_ ?_ _ | with_reducible refine Below.fut ?_ ?_ _ | with_reducible refine Below.drew ?_ | with_reducible refine Below.setCell ?_ ?_ _ | with_reducible refine Below.atPut ?_ ?_ _ | (simp [go_sem]; done) | (simp [go_sem]; omega)))
      · cases hzy
        have hle2 : decide (oe ≤ e) = true := by simpa using hle
        have HY1 := hid (show (ownerL x (arcsL T)).getD (0, 0, 0, 0) = (y0, y1, n, e) by rw [hy]; rfl)
        have HY2 := hid (show (ownerL x (arcsL T)).isSome = true by rw [hy]; rfl)
        have HZ1 := hid (show (ownerL x (arcsL (learnAll T (oa, ob, on, oe)).1)).getD (0, 0, 0, 0) = (z0, z1, n, e) by rw [hz]; rfl)
        have HZ2 := hid (show (ownerL x (arcsL (learnAll T (oa, ob, on, oe)).1)).isSome = true by rw [hz]; rfl)
        clear hy hz HLAW
        go_wp2_with fail
        (((with_reducible refine (vw_owner2 hv.out (Nat.le_trans HTL.out (by omega)) x (y0, y1, n, e) true HY1.out HY2.out).mono ?_)); rintro _ W4 ⟨rfl, hb4⟩)
        have hv4 := hv.out.on hb4
        have hx4 : W4.heap[w.heap.size]? = some (.cells (owA (oa, ob, on, oe)) 71) := (hv4.below.block _ hBs).trans HBX.out
        have hl4 := lt_of_heap hx4
        have hc4 := fun i => cell_of_row W4 w.heap.size i _ _ (0, 0) hx4
        have HV5 := hid (hv4.box (W' := W4.alloc (.cells (owA (y0, y1, n, e)) 71)) (by repeat' (first | exact Below.refl _ _ | with_reducible assumption | omega | with_reducible refine below_put_fut ?_ ?_ _ | with_reducible refine below_to_put ?_ | with_reducible refine Below.alloc ?_ ?_ _ | with_reducible refine Below.fut ?_ ?_ _ | with_reducible refine Below.drew ?_ | with_reducible refine Below.setCell ?_ ?_ _ | with_reducible refine Below.atPut ?_ ?_ _ | (simp [go_sem]; done) | (simp [go_sem]; omega))) W4.heap.size (.cells (owA (y0, y1, n, e)) 71) (Nat.le_refl _) (heap_alloc_at _ _ _ rfl))
        clear hb4 hv4 hx4
        go_wp2_with fail
        (((with_reducible refine (vw_learn HV5.out (Nat.le_trans HTL.out (by omega)) (oa, ob, on, oe) _ _ rfl).mono ?_)); rintro _ W5 ⟨rfl, hv5⟩)
        have HV6 := hid hv5
        clear hv5 hc4 hl4
        go_wp2_with fail
        (((with_reducible refine (vw_owner2 HV6.out (Nat.le_trans HT2.out (by omega)) x (z0, z1, n, e) true HZ1.out HZ2.out).mono ?_)); rintro _ W6 ⟨rfl, hb6⟩)
        have hv6 := HV6.out.on hb6
        have hx6 : W6.heap[w.heap.size]? = some (.cells (owA (oa, ob, on, oe)) 71) := (hv6.below.block _ hBs).trans HBX.out
        have hl6 := lt_of_heap hx6
        have hc6 := fun i => cell_of_row W6 w.heap.size i _ _ (0, 0) hx6
        have hy6 : W6.heap[W4.heap.size]? = some (.cells (owA (y0, y1, n, e)) 71) := hv6.kept (Base.with_self _ _ _)
        have hm6 := lt_of_heap hy6
        have hd6 := fun i => cell_of_row W6 W4.heap.size i _ _ (0, 0) hy6
        have HV7 := hid hv6
        have hbw7 := HBW.out.trans (HV7.out.below.mono HBW.out.size)
        have hbs7 := hbw7.size
        clear hb6 hv6 hx6 hy6
        go_wp2_with fail
        (((with_reducible refine (in_any _ _ _ _ hin _).mono ?_)); rintro _ _ ⟨rfl, u2, rfl⟩)
        go_wp2_with fail
        go_ret; exact .mk (by first | rfl | (simp; done) | (simp; omega)) (by repeat' (first | exact Below.refl _ _ | with_reducible assumption | omega | with_reducible refine below_put_fut ?_ ?_ _ | with_reducible refine below_to_put ?_ | with_reducible refine Below.alloc ?_ ?_ _ | with_reducible refine Below.fut ?_ ?_ _ | with_reducible refine Below.drew ?_ | with_reducible refine Below.setCell ?_ ?_ _ | with_reducible refine Below.atPut ?_ ?_ _ | (simp [go_sem]; done) | (simp [go_sem]; omega)))
      · cases hzo
        have HY1 := hid (show (ownerL x (arcsL T)).getD (0, 0, 0, 0) = (0, 0, 0, 0) by rw [hy]; rfl)
        have HY2 := hid (show (ownerL x (arcsL T)).isSome = false by rw [hy]; rfl)
        have HZ1 := hid (show (ownerL x (arcsL (learnAll T (oa, ob, on, oe)).1)).getD (0, 0, 0, 0) = (z0, z1, on, oe) by rw [hz]; rfl)
        have HZ2 := hid (show (ownerL x (arcsL (learnAll T (oa, ob, on, oe)).1)).isSome = true by rw [hz]; rfl)
        clear hy hz HLAW
        go_wp2_with fail
        (((with_reducible refine (vw_owner2 hv.out (Nat.le_trans HTL.out (by omega)) x (0, 0, 0, 0) false HY1.out HY2.out).mono ?_)); rintro _ W4 ⟨rfl, hb4⟩)
        have hv4 := hv.out.on hb4
        have hx4 : W4.heap[w.heap.size]? = some (.cells (owA (oa, ob, on, oe)) 71) := (hv4.below.block _ hBs).trans HBX.out
        have hl4 := lt_of_heap hx4
        have hc4 := fun i => cell_of_row W4 w.heap.size i _ _ (0, 0) hx4
        have HV5 := hid (hv4.box (W' := W4.alloc (.cells (owA (0, 0, 0, 0)) 71)) (by repeat' (first | exact Below.refl _ _ | with_reducible assumption | omega | with_reducible refine below_put_fut ?_ ?_ _ | with_reducible refine below_to_put ?_ | with_reducible refine Below.alloc ?_ ?_ _ | with_reducible refine Below.fut ?_ ?_ _ | with_reducible refine Below.drew ?_ | with_reducible refine Below.setCell ?_ ?_ _ | with_reducible refine Below.atPut ?_ ?_ _ | (simp [go_sem]; done) | (simp [go_sem]; omega))) W4.heap.size (.cells (owA (0, 0, 0, 0)) 71) (Nat.le_refl _) (heap_alloc_at _ _ _ rfl))
        clear hb4 hv4 hx4
        go_wp2_with fail
        (((with_reducible refine (vw_learn HV5.out (Nat.le_trans HTL.out (by omega)) (oa, ob, on, oe) _ _ rfl).mono ?_)); rintro _ W5 ⟨rfl, hv5⟩)
        have HV6 := hid hv5
        clear hv5 hc4 hl4
        go_wp2_with fail
        (((with_reducible refine (vw_owner2 HV6.out (Nat.le_trans HT2.out (by omega)) x (z0, z1, on, oe) true HZ1.out HZ2.out).mono ?_)); rintro _ W6 ⟨rfl, hb6⟩)
        have hv6 := HV6.out.on hb6
        have hx6 : W6.heap[w.heap.size]? = some (.cells (owA (oa, ob, on, oe)) 71) := (hv6.below.block _ hBs).trans HBX.out
        have hl6 := lt_of_heap hx6
        have hc6 := fun i => cell_of_row W6 w.heap.size i _ _ (0, 0) hx6
        have hy6 : W6.heap[W4.heap.size]? = some (.cells (owA (0, 0, 0, 0)) 71) := hv6.kept (Base.with_self _ _ _)
        have hm6 := lt_of_heap hy6
        have hd6 := fun i => cell_of_row W6 W4.heap.size i _ _ (0, 0) hy6
        have HV7 := hid hv6
        have hbw7 := HBW.out.trans (HV7.out.below.mono HBW.out.size)
        have hbs7 := hbw7.size
        clear hb6 hv6 hx6 hy6
        go_wp2_with fail
        (((with_reducible refine (in_any _ _ _ _ hin _).mono ?_)); rintro _ _ ⟨rfl, u2, rfl⟩)
        go_wp2_with fail
        (((with_reducible refine (vw_learn (HV7.out.on (by repeat' (first | exact Below.refl _ _ | with_reducible assumption | omega | with_reducible refine below_put_fut ?_ ?_ _ | with_reducible refine below_to_put ?_ | with_reducible refine Below.alloc ?_ ?_ _ | with_reducible refine Below.fut ?_ ?_ _ | with_reducible refine Below.drew ?_ | with_reducible refine Below.setCell ?_ ?_ _ | with_reducible refine Below.atPut ?_ ?_ _ | (simp [go_sem]; done) | (simp [go_sem]; omega)))) (Nat.le_trans HT2.out (by omega)) (oa, ob, on, oe) _ false (Prod.ext rfl hnew)).mono ?_)); rintro _ W8 ⟨rfl, hv8⟩)
        have hbw8 := HBW.out.trans (hv8.below.mono HBW.out.size)
        clear hv8
        go_wp2_with fail
        go_ret; exact .mk (by first | rfl | (simp; done) | (simp; omega)) (by repeat' (first | exact Below.refl _ _ | with_reducible assumption | omega | with_reducible refine below_put_fut ?_ ?_ _ | with_reducible refine below_to_put ?_ | with_reducible refine Below.alloc ?_ ?_ _ | with_reducible refine Below.fut ?_ ?_ _ | with_reducible refine Below.drew ?_ | with_reducible refine Below.setCell ?_ ?_ _ | with_reducible refine Below.atPut ?_ ?_ _ | (simp [go_sem]; done) | (simp [go_sem]; omega)))
      · cases hzo
        have hle2 : decide (oe ≤ e) = false := by simp at hlt ⊢; omega
        have HY1 := hid (show (ownerL x (arcsL T)).getD (0, 0, 0, 0) = (y0, y1, n, e) by rw [hy]; rfl)
        have HY2 := hid (show (ownerL x (arcsL T)).isSome = true by rw [hy]; rfl)
        have HZ1 := hid (show (ownerL x (arcsL (learnAll T (oa, ob, on, oe)).1)).getD (0, 0, 0, 0) = (z0, z1, on, oe) by rw [hz]; rfl)
        have HZ2 := hid (show (ownerL x (arcsL (learnAll T (oa, ob, on, oe)).1)).isSome = true by rw [hz]; rfl)
        clear hy hz HLAW
        go_wp2_with fail
        (((with_reducible refine (vw_owner2 hv.out (Nat.le_trans HTL.out (by omega)) x (y0, y1, n, e) true HY1.out HY2.out).mono ?_)); rintro _ W4 ⟨rfl, hb4⟩)
        have hv4 := hv.out.on hb4
        have hx4 : W4.heap[w.heap.size]? = some (.cells (owA (oa, ob, on, oe)) 71) := (hv4.below.block _ hBs).trans HBX.out
        have hl4 := lt_of_heap hx4
        have hc4 := fun i => cell_of_row W4 w.heap.size i _ _ (0, 0) hx4
        have HV5 := hid (hv4.box (W' := W4.alloc (.cells (owA (y0, y1, n, e)) 71)) (by repeat' (first | exact Below.refl _ _ | with_reducible assumption | omega | with_reducible refine below_put_fut ?_ ?_ _ | with_reducible refine below_to_put ?_ | with_reducible refine Below.alloc ?_ ?_ _ | with_reducible refine Below.fut ?_ ?_ _ | with_reducible refine Below.drew ?_ | with_reducible refine Below.setCell ?_ ?_ _ | with_reducible refine Below.atPut ?_ ?_ _ | (simp [go_sem]; done) | (simp [go_sem]; omega))) W4.heap.size (.cells (owA (y0, y1, n, e)) 71) (Nat.le_refl _) (heap_alloc_at _ _ _ rfl))
        clear hb4 hv4 hx4
        go_wp2_with fail
        (((with_reducible refine (vw_learn HV5.out (Nat.le_trans HTL.out (by omega)) (oa, ob, on, oe) _ _ rfl).mono ?_)); rintro _ W5 ⟨rfl, hv5⟩)
        have HV6 := hid hv5
        clear hv5 hc4 hl4
        go_wp2_with fail
        (((with_reducible refine (vw_owner2 HV6.out (Nat.le_trans HT2.out (by omega)) x (z0, z1, on, oe) true HZ1.out HZ2.out).mono ?_)); rintro _ W6 ⟨rfl, hb6⟩)
        have hv6 := HV6.out.on hb6
        have hx6 : W6.heap[w.heap.size]? = some (.cells (owA (oa, ob, on, oe)) 71) := (hv6.below.block _ hBs).trans HBX.out
        have hl6 := lt_of_heap hx6
        have hc6 := fun i => cell_of_row W6 w.heap.size i _ _ (0, 0) hx6
        have hy6 : W6.heap[W4.heap.size]? = some (.cells (owA (y0, y1, n, e)) 71) := hv6.kept (Base.with_self _ _ _)
        have hm6 := lt_of_heap hy6
        have hd6 := fun i => cell_of_row W6 W4.heap.size i _ _ (0, 0) hy6
        have HV7 := hid hv6
        have hbw7 := HBW.out.trans (HV7.out.below.mono HBW.out.size)
        have hbs7 := hbw7.size
        clear hb6 hv6 hx6 hy6
        go_wp2_with fail
        (((with_reducible refine (in_any _ _ _ _ hin _).mono ?_)); rintro _ _ ⟨rfl, u2, rfl⟩)
        go_wp2_with fail
        (((with_reducible refine (vw_learn (HV7.out.on (by repeat' (first | exact Below.refl _ _ | with_reducible assumption | omega | with_reducible refine below_put_fut ?_ ?_ _ | with_reducible refine below_to_put ?_ | with_reducible refine Below.alloc ?_ ?_ _ | with_reducible refine Below.fut ?_ ?_ _ | with_reducible refine Below.drew ?_ | with_reducible refine Below.setCell ?_ ?_ _ | with_reducible refine Below.atPut ?_ ?_ _ | (simp [go_sem]; done) | (simp [go_sem]; omega)))) (Nat.le_trans HT2.out (by omega)) (oa, ob, on, oe) _ false (Prod.ext rfl hnew)).mono ?_)); rintro _ W8 ⟨rfl, hv8⟩)
        have hbw8 := HBW.out.trans (hv8.below.mono HBW.out.size)
        clear hv8
        go_wp2_with fail
        go_ret; exact .mk (by first | rfl | (simp; done) | (simp; omega)) (by repeat' (first | exact Below.refl _ _ | with_reducible assumption | omega | with_reducible refine below_put_fut ?_ ?_ _ | with_reducible refine below_to_put ?_ | with_reducible refine Below.alloc ?_ ?_ _ | with_reducible refine Below.fut ?_ ?_ _ | with_reducible refine Below.drew ?_ | with_reducible refine Below.setCell ?_ ?_ _ | with_reducible refine Below.atPut ?_ ?_ _ | (simp [go_sem]; done) | (simp [go_sem]; omega)))
theorem viewNewer_walk (w : World) (v : Value) (zs : List Ow) (hi : OwsAt w v zs) (o : Ow) (ho : OkA o.1 o.2.1) (x : Int) (wx : (Lit.int .u64 x).wf = true) :
    Calls Try.prog 13 #[v, .agg (owA o), .int .u64 x] w (Makes (.bool true) w) := by
  have hx := U64.bd wx
  clear wx
  obtain ⟨ao, cap, rfl⟩ := hi.slice
  rcases Nat.lt_or_ge 40 zs.length with c | c
  · clear hi
    generalize zs.length = m at c ⊢
    have d1 : decide ((40 : Int) < m) = true := by simp; omega
    go_enter Try.func13, Try.ntmps13
    go_wp2_with (first | (go_at_call 34; ((with_reducible refine (viewAlive_any _).mono ?_)); rintro _ _ ⟨rfl, u, rfl⟩; (try (rw [Fut.put_self u (by first | assumption | (simp [go_sem]; done) | (simp [go_sem]; omega))]))) | (((with_reducible refine wp_region_fut_lit (by kernel_rfl) (by kernel_rfl) ?_)); (repeat (go_big_quiet_step ((first | (go_at_call 34; with_reducible exact Calls.fut_of (viewAlive_any _)))))); ((with_reducible refine wpQuiet_nil ?_)); rintro _ ⟨u, rfl⟩; (try (rw [Fut.put_self u (by first | assumption | (simp [go_sem]; done) | (simp [go_sem]; omega))]))))
    go_ret; exact .mk (by first | rfl | (simp; done) | (simp; omega)) (by repeat' (first | exact Below.refl _ _ | with_reducible assumption | omega | with_reducible refine below_put_fut ?_ ?_ _ | with_reducible refine below_to_put ?_ | with_reducible refine Below.alloc ?_ ?_ _ | with_reducible refine Below.fut ?_ ?_ _ | with_reducible refine Below.drew ?_ | with_reducible refine Below.setCell ?_ ?_ _ | with_reducible refine Below.atPut ?_ ?_ _ | (simp [go_sem]; done) | (simp [go_sem]; omega)))
  have d1 : decide ((40 : Int) < zs.length) = false := by simp; omega
  rcases Int.lt_or_le o.2.2.1 0 with c1 | c1
  · clear hi c
    generalize zs.length = m at d1 ⊢
    have d2 : decide (o.2.2.1 < 0) = true := by simpa using c1
    go_enter Try.func13, Try.ntmps13
    go_wp2_with (first | (go_at_call 34; ((with_reducible refine (viewAlive_any _).mono ?_)); rintro _ _ ⟨rfl, u, rfl⟩; (try (rw [Fut.put_self u (by first | assumption | (simp [go_sem]; done) | (simp [go_sem]; omega))]))) | (((with_reducible refine wp_region_fut_lit (by kernel_rfl) (by kernel_rfl) ?_)); (repeat (go_big_quiet_step ((first | (go_at_call 34; with_reducible exact Calls.fut_of (viewAlive_any _)))))); ((with_reducible refine wpQuiet_nil ?_)); rintro _ ⟨u, rfl⟩; (try (rw [Fut.put_self u (by first | assumption | (simp [go_sem]; done) | (simp [go_sem]; omega))]))))
    go_ret; exact .mk (by first | rfl | (simp; done) | (simp; omega)) (by repeat' (first | exact Below.refl _ _ | with_reducible assumption | omega | with_reducible refine below_put_fut ?_ ?_ _ | with_reducible refine below_to_put ?_ | with_reducible refine Below.alloc ?_ ?_ _ | with_reducible refine Below.fut ?_ ?_ _ | with_reducible refine Below.drew ?_ | with_reducible refine Below.setCell ?_ ?_ _ | with_reducible refine Below.atPut ?_ ?_ _ | (simp [go_sem]; done) | (simp [go_sem]; omega)))
  have d2 : decide (o.2.2.1 < 0) = false := by simp; omega
  rcases Int.lt_or_le 255 o.2.2.1 with c2 | c2
  · clear hi c
    generalize zs.length = m at d1 ⊢
    have d3 : decide (255 < o.2.2.1) = true := by simpa using c2
    go_enter Try.func13, Try.ntmps13
    go_wp2_with (first | (go_at_call 34; ((with_reducible refine (viewAlive_any _).mono ?_)); rintro _ _ ⟨rfl, u, rfl⟩; (try (rw [Fut.put_self u (by first | assumption | (simp [go_sem]; done) | (simp [go_sem]; omega))]))) | (((with_reducible refine wp_region_fut_lit (by kernel_rfl) (by kernel_rfl) ?_)); (repeat (go_big_quiet_step ((first | (go_at_call 34; with_reducible exact Calls.fut_of (viewAlive_any _)))))); ((with_reducible refine wpQuiet_nil ?_)); rintro _ ⟨u, rfl⟩; (try (rw [Fut.put_self u (by first | assumption | (simp [go_sem]; done) | (simp [go_sem]; omega))]))))
    go_ret; exact .mk (by first | rfl | (simp; done) | (simp; omega)) (by repeat' (first | exact Below.refl _ _ | with_reducible assumption | omega | with_reducible refine below_put_fut ?_ ?_ _ | with_reducible refine below_to_put ?_ | with_reducible refine Below.alloc ?_ ?_ _ | with_reducible refine Below.fut ?_ ?_ _ | with_reducible refine Below.drew ?_ | with_reducible refine Below.setCell ?_ ?_ _ | with_reducible refine Below.atPut ?_ ?_ _ | (simp [go_sem]; done) | (simp [go_sem]; omega)))
  have d3 : decide (255 < o.2.2.1) = false := by simp; omega
  rcases Int.lt_or_le o.2.2.2 0 with c3 | c3
  · clear hi c
    generalize zs.length = m at d1 ⊢
    have d4 : decide (o.2.2.2 < 0) = true := by simpa using c3
    go_enter Try.func13, Try.ntmps13
    go_wp2_with (first | (go_at_call 34; ((with_reducible refine (viewAlive_any _).mono ?_)); rintro _ _ ⟨rfl, u, rfl⟩; (try (rw [Fut.put_self u (by first | assumption | (simp [go_sem]; done) | (simp [go_sem]; omega))]))) | (((with_reducible refine wp_region_fut_lit (by kernel_rfl) (by kernel_rfl) ?_)); (repeat (go_big_quiet_step ((first | (go_at_call 34; with_reducible exact Calls.fut_of (viewAlive_any _)))))); ((with_reducible refine wpQuiet_nil ?_)); rintro _ ⟨u, rfl⟩; (try (rw [Fut.put_self u (by first | assumption | (simp [go_sem]; done) | (simp [go_sem]; omega))]))))
    go_ret; exact .mk (by first | rfl | (simp; done) | (simp; omega)) (by repeat' (first | exact Below.refl _ _ | with_reducible assumption | omega | with_reducible refine below_put_fut ?_ ?_ _ | with_reducible refine below_to_put ?_ | with_reducible refine Below.alloc ?_ ?_ _ | with_reducible refine Below.fut ?_ ?_ _ | with_reducible refine Below.drew ?_ | with_reducible refine Below.setCell ?_ ?_ _ | with_reducible refine Below.atPut ?_ ?_ _ | (simp [go_sem]; done) | (simp [go_sem]; omega)))
  exact viewNewer_good w ao _ cap zs rfl hi c o ho c1 c2 c3 x hx.1 (by omega)
set_option maxRecDepth 100000 in
theorem viewNewer_lifted (os : Os) (started : os.Started) (H : Type) (enc : TypeId × Value → H) :
    ReturnsInHanded {} Try.checked os 13 .any (Rows.viewNewerSpec.pre6 enc Try.prog Try.f13 Rows.viewNewerRow.domain false) (Rows.viewNewerSpec.post enc Try.prog Try.f13 false true false false) := by
  refine returnsInHanded_of_change (C := Try.checked) own started (by kernel_rfl) Try.func13
    (ChangeSpec.witness6 (enc := enc) (C := Try.checked) false ⟨#[], #[.slice none 0 0, .agg #[.int .u64 0, .int .u64 0, .int .i64 0, .int .i64 0], .int .u64 0], []⟩ 8 (by kernel_rfl) (by kernel_rfl) (by kernel_rfl) (by kernel_rfl)) ?_
  intro W base args ds gs before hval0 hW hcnd _
  have hval : ∀ (j : Nat) t v, Try.f13.params[j]? = some t → args[j]? = some v → Value.okWide Try.prog W .any base t v := hval0
  have hW' := hW
  obtain ⟨p, q, hA0, hV, rfl, hfz, hnd⟩ := hW
  have hA : DataW.TrodAll enc Try.prog W 0 (fun _ => true) true Try.f13.params.toList args.toList ds p := hA0
  rw [Try.params13] at hA hval
  obtain ⟨v0, vs0, d0, ds0, p0, q0, hargs, rfl, rfl, h0, r0⟩ := trodAll_cons hA
  obtain ⟨v1, vs1, d1, ds1, p1, q1, rfl, rfl, rfl, h1, r1⟩ := trodAll_cons r0
  obtain ⟨v2, vs2, d2, ds2, p2, q2, rfl, rfl, rfl, h2, r2⟩ := trodAll_cons r1
  obtain ⟨rfl, rfl, rfl⟩ := trodAll_nil r2
  obtain rfl : args = #[v0, v1, v2] := by cases args; simp_all
  obtain ⟨rfl, rfl⟩ := trodVars_none hV
  have k0 := h0
  have lt0 : ∀ x ∈ p0, x.block < W.heap.size := by obtain ⟨m, hm⟩ := k0; exact DataW.trod_lt m _ _ _ hm
  obtain ⟨l0, w0⟩ := open_owneds (hval 0 69 v0 rfl rfl) h0
  have k1 := h1
  have lt1 : ∀ x ∈ p1, x.block < W.heap.size := by obtain ⟨m, hm⟩ := k1; exact DataW.trod_lt m _ _ _ hm
  obtain ⟨o1, rfl, w1⟩ := open_owned (hval 1 71 v1 rfl rfl) h1
  have k2 := h2
  have lt2 : ∀ x ∈ p2, x.block < W.heap.size := by obtain ⟨m, hm⟩ := k2; exact DataW.trod_lt m _ _ _ hm
  obtain ⟨a2, rfl, -, -, w2⟩ := open_int Try.underlying32 (hval 2 32 v2 rfl rfl) h2
  clear hA0 hval0
  refine (viewNewer_walk W _ l0 w0 o1 w1 a2 w2).mono fun e W' ⟨he, u, hu⟩ => ?_
  subst he; subst hu
  have bel := u.below
  exact ⟨_, rfl, _, _, _, [], _, [], hW', trodAll_mk1 (shut_bool Try.underlying4 _), (trodAll_cons_mk (Below.trod laidOut (by kernel_rfl) (of_decide_eq_true (by kernel_rfl)) k0 bel lt0) (trodAll_cons_mk (Below.trod laidOut (by kernel_rfl) (of_decide_eq_true (by kernel_rfl)) k1 bel lt1) (trodAll_cons_mk (Below.trod laidOut (by kernel_rfl) (of_decide_eq_true (by kernel_rfl)) k2 bel lt2) trodAll_mk0))), rfl, bel.frame _, fun h => by cases h⟩
/-- The statement. -/
theorem viewNewer_holds : Rows.ViewNewerSaid :=
  OpenClaim.holds_of_wide 13 Try.f13 rfl rfl rfl rfl rfl rfl rfl ⟨rfl, rfl, rfl, rfl, rfl⟩ rfl rfl rfl rfl rfl (by kernel_rfl) Try.func13 (by kernel_rfl)
    (of_decide_eq_true (by kernel_rfl)) (by unfold Func.isWrapper; first | (rw [if_pos (by decide +kernel)]; kernel_rfl) | (rw [if_neg (by decide +kernel)]; exact ⟨rfl, rfl⟩))
    (fun os started H enc _ => viewNewer_lifted os started H enc)
#print axioms viewNewer_holds
end Go.Proofs.Ythgajbfgolcpkaa
