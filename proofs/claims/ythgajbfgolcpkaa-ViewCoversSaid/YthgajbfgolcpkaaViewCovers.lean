/- ViewCovers answers true for every list of arcs with owners and every point, and leaves them as they were. No condition. -/
import Derived.Test.YthgajbfgolcpkaaVwD
import Derived.Test.YthgajbfgolcpkaaOws
import Derived.Test.YthgajbfgolcpkaaFrame
import Derived.IntWalk
namespace Go.Proofs.Ythgajbfgolcpkaa
open Go.ChangeShapes Go.WideShapes Go.ChangeAt Go.RowKit Go.Joins
set_option linter.unusedVariables false
set_option linter.unusedSimpArgs false
theorem atL_take {L : List Ow} {k : Nat} {p : Ow} (h : L[k]? = some p) (x : Int) : (atL (L.take (k + 1)) x).length = (atL (L.take k) x).length + if inB p.1 p.2.1 x = true then 1 else 0 := by
  rw [take_snoc h, atL_append, List.length_append]
  congr 1
  simp only [atL, List.filter_cons, List.filter_nil]
  split <;> rfl
theorem atL_le_len (L : List Ow) (x : Int) : (atL L x).length ≤ L.length := List.length_filter_le _ _
theorem any_take {L : List Ow} {k : Nat} {p : Ow} (h : L[k]? = some p) (f : Ow → Bool) : (L.take (k + 1)).any f = ((L.take k).any f || f p) := by
  rw [take_snoc h, List.any_append]
  simp
set_option maxRecDepth 100000 in
set_option maxHeartbeats 4000000 in
theorem viewCovers_good (w : World) (ao : Option Addr) (m cap : Nat) (zs : List Ow) (hl : zs.length = m) (hi : OwsAt w (.slice ao m cap) zs) (hm : m ≤ 40) (x : Int) (hx : 0 ≤ x) (hx2 : x < 18446744073709551616) :
    Calls Try.prog 15 #[.slice ao m cap, .int .u64 x] w (Makes (.bool true) w) := by
  have hgood := told_good GoodL.nil zs hi.ok
  have HI := hid hi
  have HL := hid hl
  have d1 : decide ((40 : Int) < m) = false := by simp; omega
  have HG := hid hgood
  have HX := hid (And.intro hx hx2)
  clear hi hl hgood hx hx2
  go_enter Try.func15, Try.ntmps15
  go_wp2_with (first | (go_at_call 34; ((with_reducible refine (viewAlive_any _).mono ?_)); rintro _ _ ⟨rfl, u, rfl⟩; (try (rw [Fut.put_self u (by first | assumption | (simp [go_sem]; done) | (simp [go_sem]; omega))]))) | (((with_reducible refine wp_region_fut_lit (by kernel_rfl) (by kernel_rfl) ?_)); (repeat (go_big_quiet_step ((first | (go_at_call 34; with_reducible exact Calls.fut_of (viewAlive_any _)))))); ((with_reducible refine wpQuiet_nil ?_)); rintro _ ⟨u, rfl⟩; (try (rw [Fut.put_self u (by first | assumption | (simp [go_sem]; done) | (simp [go_sem]; omega))]))))
  obtain ⟨B, hB⟩ : ∃ B : Base, B = ⟨u.val, fun _ => none⟩ := ⟨_, rfl⟩
  have hg : u.val.heap.size = w.heap.size + u.n := by simp [go_sem]
  have H0 := hid (show Vw B (w.heap.size + u.n) [] (u.val.alloc (viewObj (.slice none 0 0))) from vw_new (by rw [hB]; exact fun _ => rfl) (by rw [hB]; exact (by repeat' (first | exact Below.refl _ _ | with_reducible assumption | omega | with_reducible refine below_put_fut ?_ ?_ _ | with_reducible refine below_to_put ?_ | with_reducible refine Below.alloc ?_ ?_ _ | with_reducible refine Below.fut ?_ ?_ _ | with_reducible refine Below.drew ?_ | with_reducible refine Below.setCell ?_ ?_ _ | with_reducible refine Below.atPut ?_ ?_ _ | (simp [go_sem]; done) | (simp [go_sem]; omega)))) (by rw [hB]; exact Nat.le_of_eq hg) (heap_alloc_at _ _ _ (by rw [hg])))
  have HBW := hid (show Below w.heap.size w B.toWorld by rw [hB]; exact (by repeat' (first | exact Below.refl _ _ | with_reducible assumption | omega | with_reducible refine below_put_fut ?_ ?_ _ | with_reducible refine below_to_put ?_ | with_reducible refine Below.alloc ?_ ?_ _ | with_reducible refine Below.fut ?_ ?_ _ | with_reducible refine Below.drew ?_ | with_reducible refine Below.setCell ?_ ?_ _ | with_reducible refine Below.atPut ?_ ?_ _ | (simp [go_sem]; done) | (simp [go_sem]; omega))))
  clear hB hg d1
  generalize w.heap.size + u.n = g at H0 ⊢
  go_loopw [28] (fun i wr => ∃ k : Nat, k ≤ m ∧ i = .int .i64 k ∧ Hid (Vw B g (told [] (zs.take k)) wr)) (fun i _ => m - (intOf i).toNat)
  case atStart => exact ⟨0, Nat.zero_le _, rfl, H0⟩
  case round =>
    obtain ⟨k, hk, rfl, hv⟩ := hrel
    have hbw := HBW.out.trans (hv.out.below.mono HBW.out.size)
    by_cases hlt : k < m
    · obtain ⟨p, hp⟩ : ∃ p, zs[k]? = some p := ⟨zs[k]'(by rw [HL.out]; exact hlt), List.getElem?_eq_getElem _⟩
      obtain ⟨b1, o1, rfl, p0, p1, p2, p3⟩ := HI.out.at_ hp
      have hlb := World.block_lt_of_cell? _ _ p0
      have q0 := (hbw.cell (p := ⟨b1, o1 + k * 4, none⟩) hlb).trans p0
      have q1 := (hbw.cell (p := ⟨b1, o1 + k * 4 + 1, none⟩) hlb).trans p1
      have q2 := (hbw.cell (p := ⟨b1, o1 + k * 4 + 2, none⟩) hlb).trans p2
      have q3 := (hbw.cell (p := ⟨b1, o1 + k * 4 + 3, none⟩) hlb).trans p3
      have HP := hid hp
      clear hp p0 p1 p2 p3 hbw
      go_wp2_with fail
      (((with_reducible refine (vw_learn (hv.out.on (by repeat' (first | exact Below.refl _ _ | with_reducible assumption | omega | with_reducible refine below_put_fut ?_ ?_ _ | with_reducible refine below_to_put ?_ | with_reducible refine Below.alloc ?_ ?_ _ | with_reducible refine Below.fut ?_ ?_ _ | with_reducible refine Below.drew ?_ | with_reducible refine Below.setCell ?_ ?_ _ | with_reducible refine Below.atPut ?_ ?_ _ | (simp [go_sem]; done) | (simp [go_sem]; omega)))) (Nat.le_trans (told_len_take k m (by simp) HL.out hm) (by omega)) p _ _ rfl).mono ?_)); rintro _ W3 ⟨rfl, hv3⟩)
      have HV3 := hid (show Vw B g (told [] (zs.take (k + 1))) W3 by rw [told_take HP.out]; exact hv3)
      clear hv3 q0 q1 q2 q3
      go_wp2_with fail
      go_roundw
      case rel => exact ⟨k + 1, by omega, by go_num, HV3⟩
      case measure => simp [intOf]; omega
    · obtain rfl : k = m := by omega
      have HT := hid (show zs.take k = zs by rw [← HL.out, List.take_length])
      have htl := told_len_take (l0 := []) (zs := zs) k k (by simp) HL.out hm
      rw [HT.out] at hv htl
      clear H0 hbw
      have HTL := hid htl
      clear htl
      generalize told [] zs = T at *
      go_wp2_with fail
      (((with_reducible refine (vw_all hv.out (Nat.le_trans HTL.out (by omega))).mono ?_)); rintro _ W4 ⟨av, rfl, ha, hb4⟩)
      have HV4 := hid (hv.out.on hb4)
      have hn9 : (arcsL T).length ≤ 900 := by have := arcsL_len T; have := HTL.out; omega
      have HAP := hid (fun i k a b => arcs_apart HG.out (i := i) (k := k) (a := a) (b := b))
      have HLAW := hid (owner_law HG.out HX.out.1 HX.out.2)
      have HRN := hid (fun h => ring_not HG.out HX.out.1 h)
      have HLE := hid (atL_le_len (arcsL T) x)
      generalize hLd : arcsL T = L at ha hn9 HAP HLAW HLE
      obtain ⟨a1, c1, rfl⟩ := ha.form
      obtain ⟨n, hn⟩ : ∃ n, L.length = n := ⟨_, rfl⟩
      rw [hn] at ha hn9 ⊢
      have HA := hid ha
      have HN := hid hn
      have HLD := hid hLd
      clear ha hn hb4 hLd hv
      go_wp2_with fail
      go_loopw [9, 40] (fun c i wr => ∃ (k : Nat) (j : Nat), k ≤ n ∧ j ≤ k ∧ i = .int .i64 k ∧ c = .int .i64 j ∧ Hid ((atL (L.take k) x).length = j) ∧ ∃ u : Fut W4, wr = u.val) (fun _ i _ => n - (intOf i).toNat)
      case atStart => exact ⟨0, 0, Nat.zero_le _, Nat.le_refl _, rfl, rfl, hid rfl, ⟨⟨_, (by repeat' (first | exact Below.refl _ _ | with_reducible assumption | omega | with_reducible refine below_put_fut ?_ ?_ _ | with_reducible refine below_to_put ?_ | with_reducible refine Below.alloc ?_ ?_ _ | with_reducible refine Below.fut ?_ ?_ _ | with_reducible refine Below.drew ?_ | with_reducible refine Below.setCell ?_ ?_ _ | with_reducible refine Below.atPut ?_ ?_ _ | (simp [go_sem]; done) | (simp [go_sem]; omega)))⟩, rfl⟩⟩
      case round =>
        obtain ⟨q, j, hq, hjq, rfl, rfl, HJ, u5, rfl⟩ := hrel
        by_cases hlt2 : q < n
        · obtain ⟨p, hp⟩ : ∃ p, L[q]? = some p := ⟨L[q]'(by rw [HN.out]; exact hlt2), List.getElem?_eq_getElem _⟩
          obtain ⟨r, o, rfl, hr, c0, c1', c2, c3⟩ := HA.out.cells hp
          have HP := hid hp
          have HS := hid (atL_take hp x)
          clear hp
          have e1 : IntKind.i64.wrap ((j : Int) + 1) = (j : Int) + 1 := IntWalk.i64_in _ (by omega)
          cases hin : inB p.1 p.2.1 x
          · have HS2 := hid (show (atL (L.take (q + 1)) x).length = j by rw [HS.out, HJ.out, hin]; rfl)
            clear HS
            go_wp2_with fail
            (((with_reducible refine (in_any _ _ _ _ hin _).mono ?_)); rintro _ _ ⟨rfl, u6, rfl⟩)
            go_wp2_with fail
            go_loopw [11] (fun i wr => ∃ t : Nat, t ≤ q ∧ i = .int .i64 t ∧ ∃ u : Fut W4, wr = u.val) (fun i _ => q - (intOf i).toNat)
            case atStart => exact ⟨0, Nat.zero_le _, rfl, ⟨⟨_, (by repeat' (first | exact Below.refl _ _ | with_reducible assumption | omega | with_reducible refine below_put_fut ?_ ?_ _ | with_reducible refine below_to_put ?_ | with_reducible refine Below.alloc ?_ ?_ _ | with_reducible refine Below.fut ?_ ?_ _ | with_reducible refine Below.drew ?_ | with_reducible refine Below.setCell ?_ ?_ _ | with_reducible refine Below.atPut ?_ ?_ _ | (simp [go_sem]; done) | (simp [go_sem]; omega)))⟩, rfl⟩⟩
            case round =>
              obtain ⟨t, ht, rfl, u7, rfl⟩ := hrel
              by_cases hlt3 : t < q
              · obtain ⟨p2, hp2⟩ : ∃ p2, L[t]? = some p2 := ⟨L[t]'(by rw [HN.out]; omega), List.getElem?_eq_getElem _⟩
                obtain ⟨r2, o2, hr2, hr3, z0, z1, z2, z3⟩ := HA.out.cells hp2
                cases hr2
                have hap := HAP.out q t p p2 HP.out hp2 (by omega)
                clear hp2
                have hlt4 : t < n := by omega
                go_wp2_with (first | (go_at_call 42; ((with_reducible refine (apart_any _ _ _ _ true hap _).mono ?_)); rintro _ _ ⟨rfl, u, rfl⟩; (try (rw [Fut.put_self u (by first | assumption | (simp [go_sem]; done) | (simp [go_sem]; omega))]))) | (((with_reducible refine wp_region_fut_lit (by kernel_rfl) (by kernel_rfl) ?_)); (repeat (go_big_quiet_step ((first | (go_at_call 42; with_reducible exact Calls.fut_of (apart_any _ _ _ _ true hap _)))))); ((with_reducible refine wpQuiet_nil ?_)); rintro _ ⟨u, rfl⟩; (try (rw [Fut.put_self u (by first | assumption | (simp [go_sem]; done) | (simp [go_sem]; omega))]))))
                go_roundw
                case rel => exact ⟨t + 1, by omega, by go_num, ⟨⟨_, (by repeat' (first | exact Below.refl _ _ | with_reducible assumption | omega | with_reducible refine below_put_fut ?_ ?_ _ | with_reducible refine below_to_put ?_ | with_reducible refine Below.alloc ?_ ?_ _ | with_reducible refine Below.fut ?_ ?_ _ | with_reducible refine Below.drew ?_ | with_reducible refine Below.setCell ?_ ?_ _ | with_reducible refine Below.atPut ?_ ?_ _ | (simp [go_sem]; done) | (simp [go_sem]; omega)))⟩, rfl⟩⟩
                case measure => simp [intOf]; omega
              obtain rfl : q = t := by omega
              go_wp2_with fail
              exact ⟨⟨q + 1, j, by omega, by omega, by go_num, rfl, HS2, ⟨⟨_, (by repeat' (first | exact Below.refl _ _ | with_reducible assumption | omega | with_reducible refine below_put_fut ?_ ?_ _ | with_reducible refine below_to_put ?_ | with_reducible refine Below.alloc ?_ ?_ _ | with_reducible refine Below.fut ?_ ?_ _ | with_reducible refine Below.drew ?_ | with_reducible refine Below.setCell ?_ ?_ _ | with_reducible refine Below.atPut ?_ ?_ _ | (simp [go_sem]; done) | (simp [go_sem]; omega)))⟩, rfl⟩⟩, by simp [intOf]; omega⟩
          · have HS2 := hid (show (atL (L.take (q + 1)) x).length = j + 1 by rw [HS.out, HJ.out, hin]; rfl)
            clear HS
            go_wp2_with fail
            (((with_reducible refine (in_any _ _ _ _ hin _).mono ?_)); rintro _ _ ⟨rfl, u6, rfl⟩)
            go_wp2_with fail
            go_loopw [11] (fun i wr => ∃ t : Nat, t ≤ q ∧ i = .int .i64 t ∧ ∃ u : Fut W4, wr = u.val) (fun i _ => q - (intOf i).toNat)
            case atStart => exact ⟨0, Nat.zero_le _, rfl, ⟨⟨_, (by repeat' (first | exact Below.refl _ _ | with_reducible assumption | omega | with_reducible refine below_put_fut ?_ ?_ _ | with_reducible refine below_to_put ?_ | with_reducible refine Below.alloc ?_ ?_ _ | with_reducible refine Below.fut ?_ ?_ _ | with_reducible refine Below.drew ?_ | with_reducible refine Below.setCell ?_ ?_ _ | with_reducible refine Below.atPut ?_ ?_ _ | (simp [go_sem]; done) | (simp [go_sem]; omega)))⟩, rfl⟩⟩
            case round =>
              obtain ⟨t, ht, rfl, u7, rfl⟩ := hrel
              by_cases hlt3 : t < q
              · obtain ⟨p2, hp2⟩ : ∃ p2, L[t]? = some p2 := ⟨L[t]'(by rw [HN.out]; omega), List.getElem?_eq_getElem _⟩
                obtain ⟨r2, o2, hr2, hr3, z0, z1, z2, z3⟩ := HA.out.cells hp2
                cases hr2
                have hap := HAP.out q t p p2 HP.out hp2 (by omega)
                clear hp2
                have hlt4 : t < n := by omega
                go_wp2_with (first | (go_at_call 42; ((with_reducible refine (apart_any _ _ _ _ true hap _).mono ?_)); rintro _ _ ⟨rfl, u, rfl⟩; (try (rw [Fut.put_self u (by first | assumption | (simp [go_sem]; done) | (simp [go_sem]; omega))]))) | (((with_reducible refine wp_region_fut_lit (by kernel_rfl) (by kernel_rfl) ?_)); (repeat (go_big_quiet_step ((first | (go_at_call 42; with_reducible exact Calls.fut_of (apart_any _ _ _ _ true hap _)))))); ((with_reducible refine wpQuiet_nil ?_)); rintro _ ⟨u, rfl⟩; (try (rw [Fut.put_self u (by first | assumption | (simp [go_sem]; done) | (simp [go_sem]; omega))]))))
                go_roundw
                case rel => exact ⟨t + 1, by omega, by go_num, ⟨⟨_, (by repeat' (first | exact Below.refl _ _ | with_reducible assumption | omega | with_reducible refine below_put_fut ?_ ?_ _ | with_reducible refine below_to_put ?_ | with_reducible refine Below.alloc ?_ ?_ _ | with_reducible refine Below.fut ?_ ?_ _ | with_reducible refine Below.drew ?_ | with_reducible refine Below.setCell ?_ ?_ _ | with_reducible refine Below.atPut ?_ ?_ _ | (simp [go_sem]; done) | (simp [go_sem]; omega)))⟩, rfl⟩⟩
                case measure => simp [intOf]; omega
              obtain rfl : q = t := by omega
              go_wp2_with fail
              exact ⟨⟨q + 1, j + 1, by omega, by omega, by go_num, by simp, HS2, ⟨⟨_, (by repeat' (first | exact Below.refl _ _ | with_reducible assumption | omega | with_reducible refine below_put_fut ?_ ?_ _ | with_reducible refine below_to_put ?_ | with_reducible refine Below.alloc ?_ ?_ _ | with_reducible refine Below.fut ?_ ?_ _ | with_reducible refine Below.drew ?_ | with_reducible refine Below.setCell ?_ ?_ _ | with_reducible refine Below.atPut ?_ ?_ _ | (simp [go_sem]; done) | (simp [go_sem]; omega)))⟩, rfl⟩⟩, by simp [intOf]; omega⟩
        · obtain rfl : q = n := by omega
          have hcount : (atL L x).length = j := by have := HJ.out; rwa [List.take_of_length_le (Nat.le_of_eq HN.out)] at this
          have HV5 := hid (HV4.out.on u5.below)
          have hz4 := ((HV4.out.below.mono HBW.out.size)).size
          have hz5 := HBW.out.size
          rcases HLAW.out with ⟨hs, y, hy, hys, hyin, hat⟩ | ⟨hs, hy, hat⟩
          · have hj1 : j = 1 := by rw [← hcount, hat]; rfl
            subst hj1
            have HY1 := hid (show (ownerL x (arcsL T)).getD (0, 0, 0, 0) = y by rw [HLD.out, hy]; rfl)
            have HY2 := hid (show (ownerL x (arcsL T)).isSome = true by rw [HLD.out, hy]; rfl)
            have HMEM := hid (show y ∈ L from by have : y ∈ atL L x := by { rw [hat]; simp }; exact (List.mem_filter.1 this).1)
            have HYIN := hid hyin
            clear hy hat hcount HLAW HAP HRN hys hs hyin
            go_wp2_with fail
            (((with_reducible refine (vw_owner2 HV5.out (Nat.le_trans HTL.out (by omega)) x y true HY1.out HY2.out).mono ?_)); rintro _ W6 ⟨rfl, hb6⟩)
            have HV6 := hid (HV5.out.on hb6)
            have hz6 := hb6.size
            have HB6 := hid (u5.below.trans (hb6.mono u5.below.size))
            clear hb6
            go_wp2_with fail
            have HV7 := hid (HV6.out.on (W' := W6.alloc (.cells (owA y) 71)) (by repeat' (first | exact Below.refl _ _ | with_reducible assumption | omega | with_reducible refine below_put_fut ?_ ?_ _ | with_reducible refine below_to_put ?_ | with_reducible refine Below.alloc ?_ ?_ _ | with_reducible refine Below.fut ?_ ?_ _ | with_reducible refine Below.drew ?_ | with_reducible refine Below.setCell ?_ ?_ _ | with_reducible refine Below.atPut ?_ ?_ _ | (simp [go_sem]; done) | (simp [go_sem]; omega))))
            (((with_reducible refine (vw_len HV7.out (Nat.le_trans HTL.out (by omega)) q (by rw [HLD.out]; exact HN.out)).mono ?_)); rintro _ W8 ⟨rfl, hb8⟩)
            have HV8 := hid (HV7.out.on hb8)
            have hx8 : W8.heap[W6.heap.size]? = some (.cells (owA y) 71) := (hb8.block _ (by simp)).trans (heap_alloc_at _ _ _ rfl)
            have hl8 := lt_of_heap hx8
            have hc8 := fun i => cell_of_row W8 W6.heap.size i _ _ (0, 0) hx8
            have HA8 := hid (HA.out.on ((Below.alloc HB6.out HB6.out.size (.cells (owA y) 71)).trans (hb8.mono (by have := HB6.out.size; simp; omega))))
            clear hb8 hx8
            go_wp2_with fail
            go_loopw [14, 98] (fun b i wr => ∃ (k : Nat) (bl : Bool), k ≤ q ∧ i = .int .i64 k ∧ b = .bool bl ∧ Hid ((L.take k).any (fun z => decide (z = y)) = bl) ∧ ∃ u : Fut W8, wr = u.val) (fun _ i _ => q - (intOf i).toNat)
            case atStart => exact ⟨0, false, Nat.zero_le _, rfl, rfl, hid rfl, ⟨⟨_, (by repeat' (first | exact Below.refl _ _ | with_reducible assumption | omega | with_reducible refine below_put_fut ?_ ?_ _ | with_reducible refine below_to_put ?_ | with_reducible refine Below.alloc ?_ ?_ _ | with_reducible refine Below.fut ?_ ?_ _ | with_reducible refine Below.drew ?_ | with_reducible refine Below.setCell ?_ ?_ _ | with_reducible refine Below.atPut ?_ ?_ _ | (simp [go_sem]; done) | (simp [go_sem]; omega)))⟩, rfl⟩⟩
            case round =>
              obtain ⟨t, bl, ht, rfl, rfl, HB, u9, rfl⟩ := hrel
              by_cases hlt5 : t < q
              · obtain ⟨p, hp⟩ : ∃ p, L[t]? = some p := ⟨L[t]'(by rw [HN.out]; omega), List.getElem?_eq_getElem _⟩
                obtain ⟨r, o, rfl, hr, c0, c1', c2, c3⟩ := HA8.out.cells hp
                have HS := hid (any_take hp fun z => decide (z = y))
                clear hp
                cases bl
                · rcases Decidable.em (p = y) with e | e
                  · subst e
                    have HS2 := hid (show (L.take (t + 1)).any (fun z => decide (z = p)) = true by rw [HS.out]; simp)
                    clear HS
                    go_wp2_with (first | (((with_reducible refine wp_region_fut_lit (by kernel_rfl) (by kernel_rfl) ?_)); (repeat (go_big_quiet_step ((first | fail)))); ((with_reducible refine wpQuiet_nil ?_)); rintro _ ⟨u, rfl⟩; (try (rw [Fut.put_self u (by first | assumption | (simp [go_sem]; done) | (simp [go_sem]; omega))]))))
                    exact ⟨⟨t + 1, true, by omega, by go_num, rfl, HS2, ⟨⟨_, (by repeat' (first | exact Below.refl _ _ | with_reducible assumption | omega | with_reducible refine below_put_fut ?_ ?_ _ | with_reducible refine below_to_put ?_ | with_reducible refine Below.alloc ?_ ?_ _ | with_reducible refine Below.fut ?_ ?_ _ | with_reducible refine Below.drew ?_ | with_reducible refine Below.setCell ?_ ?_ _ | with_reducible refine Below.atPut ?_ ?_ _ | (simp [go_sem]; done) | (simp [go_sem]; omega)))⟩, rfl⟩⟩, by simp [intOf]; omega⟩
                  · have HS2 := hid (show (L.take (t + 1)).any (fun z => decide (z = y)) = false by rw [HS.out, HB.out]; simp [e])
                    clear HS HB
                    have ee : p.1 ≠ y.1 ∨ (p.1 = y.1 ∧ p.2.1 ≠ y.2.1) ∨ (p.1 = y.1 ∧ p.2.1 = y.2.1 ∧ p.2.2.1 ≠ y.2.2.1) ∨ (p.1 = y.1 ∧ p.2.1 = y.2.1 ∧ p.2.2.1 = y.2.2.1 ∧ p.2.2.2 ≠ y.2.2.2) := by
                      by_cases f1 : p.1 = y.1
                      · by_cases f2 : p.2.1 = y.2.1
                        · by_cases f3 : p.2.2.1 = y.2.2.1
                          · by_cases f4 : p.2.2.2 = y.2.2.2
                            · exact absurd (Prod.ext f1 (Prod.ext f2 (Prod.ext f3 f4))) e
                            · exact .inr (.inr (.inr ⟨f1, f2, f3, f4⟩))
                          · exact .inr (.inr (.inl ⟨f1, f2, f3⟩))
                        · exact .inr (.inl ⟨f1, f2⟩)
                      · exact .inl f1
                    have HS3 := HS2
                    generalize (L.take (t + 1)).any (fun z => decide (z = y)) = bb at HS3
                    clear e HS3
                    rcases ee with f | ⟨f1, f⟩ | ⟨f1, f2, f⟩ | ⟨f1, f2, f3, f⟩
                    · have f5 := beq_false_of_ne f
                      have f6 : (p != y) = true := bne_iff_ne.2 fun h => by rw [h] at f; exact f rfl
                      clear f6
                      go_wp2_with (first | (((with_reducible refine wp_region_fut_lit (by kernel_rfl) (by kernel_rfl) ?_)); (repeat (go_big_quiet_step ((first | fail)))); ((with_reducible refine wpQuiet_nil ?_)); rintro _ ⟨u, rfl⟩; (try (rw [Fut.put_self u (by first | assumption | (simp [go_sem]; done) | (simp [go_sem]; omega))]))))
                      exact ⟨⟨t + 1, false, by omega, by go_num, rfl, HS2, ⟨⟨_, (by repeat' (first | exact Below.refl _ _ | with_reducible assumption | omega | with_reducible refine below_put_fut ?_ ?_ _ | with_reducible refine below_to_put ?_ | with_reducible refine Below.alloc ?_ ?_ _ | with_reducible refine Below.fut ?_ ?_ _ | with_reducible refine Below.drew ?_ | with_reducible refine Below.setCell ?_ ?_ _ | with_reducible refine Below.atPut ?_ ?_ _ | (simp [go_sem]; done) | (simp [go_sem]; omega)))⟩, rfl⟩⟩, by simp [intOf]; omega⟩
                    · rw [f1] at c0
                      have f5 := beq_false_of_ne f
                      have f6 : (p != y) = true := bne_iff_ne.2 fun h => by rw [h] at f; exact f rfl
                      clear f6
                      go_wp2_with (first | (((with_reducible refine wp_region_fut_lit (by kernel_rfl) (by kernel_rfl) ?_)); (repeat (go_big_quiet_step ((first | fail)))); ((with_reducible refine wpQuiet_nil ?_)); rintro _ ⟨u, rfl⟩; (try (rw [Fut.put_self u (by first | assumption | (simp [go_sem]; done) | (simp [go_sem]; omega))]))))
                      exact ⟨⟨t + 1, false, by omega, by go_num, rfl, HS2, ⟨⟨_, (by repeat' (first | exact Below.refl _ _ | with_reducible assumption | omega | with_reducible refine below_put_fut ?_ ?_ _ | with_reducible refine below_to_put ?_ | with_reducible refine Below.alloc ?_ ?_ _ | with_reducible refine Below.fut ?_ ?_ _ | with_reducible refine Below.drew ?_ | with_reducible refine Below.setCell ?_ ?_ _ | with_reducible refine Below.atPut ?_ ?_ _ | (simp [go_sem]; done) | (simp [go_sem]; omega)))⟩, rfl⟩⟩, by simp [intOf]; omega⟩
                    · rw [f1] at c0
                      rw [f2] at c1'
                      have f5 := beq_false_of_ne f
                      have f6 : (p != y) = true := bne_iff_ne.2 fun h => by rw [h] at f; exact f rfl
                      clear f6
                      go_wp2_with (first | (((with_reducible refine wp_region_fut_lit (by kernel_rfl) (by kernel_rfl) ?_)); (repeat (go_big_quiet_step ((first | fail)))); ((with_reducible refine wpQuiet_nil ?_)); rintro _ ⟨u, rfl⟩; (try (rw [Fut.put_self u (by first | assumption | (simp [go_sem]; done) | (simp [go_sem]; omega))]))))
                      exact ⟨⟨t + 1, false, by omega, by go_num, rfl, HS2, ⟨⟨_, (by repeat' (first | exact Below.refl _ _ | with_reducible assumption | omega | with_reducible refine below_put_fut ?_ ?_ _ | with_reducible refine below_to_put ?_ | with_reducible refine Below.alloc ?_ ?_ _ | with_reducible refine Below.fut ?_ ?_ _ | with_reducible refine Below.drew ?_ | with_reducible refine Below.setCell ?_ ?_ _ | with_reducible refine Below.atPut ?_ ?_ _ | (simp [go_sem]; done) | (simp [go_sem]; omega)))⟩, rfl⟩⟩, by simp [intOf]; omega⟩
                    · rw [f1] at c0
                      rw [f2] at c1'
                      rw [f3] at c2
                      have f5 := beq_false_of_ne f
                      have f6 : (p != y) = true := bne_iff_ne.2 fun h => by rw [h] at f; exact f rfl
                      clear f6
                      go_wp2_with (first | (((with_reducible refine wp_region_fut_lit (by kernel_rfl) (by kernel_rfl) ?_)); (repeat (go_big_quiet_step ((first | fail)))); ((with_reducible refine wpQuiet_nil ?_)); rintro _ ⟨u, rfl⟩; (try (rw [Fut.put_self u (by first | assumption | (simp [go_sem]; done) | (simp [go_sem]; omega))]))))
                      exact ⟨⟨t + 1, false, by omega, by go_num, rfl, HS2, ⟨⟨_, (by repeat' (first | exact Below.refl _ _ | with_reducible assumption | omega | with_reducible refine below_put_fut ?_ ?_ _ | with_reducible refine below_to_put ?_ | with_reducible refine Below.alloc ?_ ?_ _ | with_reducible refine Below.fut ?_ ?_ _ | with_reducible refine Below.drew ?_ | with_reducible refine Below.setCell ?_ ?_ _ | with_reducible refine Below.atPut ?_ ?_ _ | (simp [go_sem]; done) | (simp [go_sem]; omega)))⟩, rfl⟩⟩, by simp [intOf]; omega⟩
                · have HS2 := hid (show (L.take (t + 1)).any (fun z => decide (z = y)) = true by rw [HS.out, HB.out]; rfl)
                  clear HS
                  go_wp2_with (first | (((with_reducible refine wp_region_fut_lit (by kernel_rfl) (by kernel_rfl) ?_)); (repeat (go_big_quiet_step ((first | fail)))); ((with_reducible refine wpQuiet_nil ?_)); rintro _ ⟨u, rfl⟩; (try (rw [Fut.put_self u (by first | assumption | (simp [go_sem]; done) | (simp [go_sem]; omega))]))))
                  go_roundw
                  case rel => exact ⟨t + 1, true, by omega, by go_num, rfl, HS2, ⟨⟨_, (by repeat' (first | exact Below.refl _ _ | with_reducible assumption | omega | with_reducible refine below_put_fut ?_ ?_ _ | with_reducible refine below_to_put ?_ | with_reducible refine Below.alloc ?_ ?_ _ | with_reducible refine Below.fut ?_ ?_ _ | with_reducible refine Below.drew ?_ | with_reducible refine Below.setCell ?_ ?_ _ | with_reducible refine Below.atPut ?_ ?_ _ | (simp [go_sem]; done) | (simp [go_sem]; omega)))⟩, rfl⟩⟩
                  case measure => simp [intOf]; omega
              · obtain rfl : t = q := by omega
                have hb1 : bl = true := by
                  have := HB.out
                  rw [List.take_of_length_le (Nat.le_of_eq HN.out)] at this
                  rw [← this, List.any_eq_true]
                  exact ⟨y, HMEM.out, by simp⟩
                subst hb1
                have hin := HYIN.out
                have hbw := HBW.out.trans (HV8.out.below.mono HBW.out.size)
                have hz8 := hbw.size
                go_wp2_with (first | (go_at_call 37; ((with_reducible refine (in_any _ _ _ true hin _).mono ?_)); rintro _ _ ⟨rfl, u, rfl⟩; (try (rw [Fut.put_self u (by first | assumption | (simp [go_sem]; done) | (simp [go_sem]; omega))]))) | (((with_reducible refine wp_region_fut_lit (by kernel_rfl) (by kernel_rfl) ?_)); (repeat (go_big_quiet_step ((first | (go_at_call 37; with_reducible exact Calls.fut_of (in_any _ _ _ true hin _)))))); ((with_reducible refine wpQuiet_nil ?_)); rintro _ ⟨u, rfl⟩; (try (rw [Fut.put_self u (by first | assumption | (simp [go_sem]; done) | (simp [go_sem]; omega))]))))
                go_ret; exact .mk (by first | rfl | (simp; done) | (simp; omega)) (by repeat' (first | exact Below.refl _ _ | with_reducible assumption | omega | with_reducible refine below_put_fut ?_ ?_ _ | with_reducible refine below_to_put ?_ | with_reducible refine Below.alloc ?_ ?_ _ | with_reducible refine Below.fut ?_ ?_ _ | with_reducible refine Below.drew ?_ | with_reducible refine Below.setCell ?_ ?_ _ | with_reducible refine Below.atPut ?_ ?_ _ | (simp [go_sem]; done) | (simp [go_sem]; omega)))
          · have hj1 : j = 0 := by rw [← hcount, hat]; rfl
            subst hj1
            have HY1 := hid (show (ownerL x (arcsL T)).getD (0, 0, 0, 0) = (0, 0, 0, 0) by rw [HLD.out, hy]; rfl)
            have HY2 := hid (show (ownerL x (arcsL T)).isSome = false by rw [HLD.out, hy]; rfl)
            have HRN2 := hid (HRN.out hs)
            clear hy hat hcount HLAW HAP HRN hs
            go_wp2_with fail
            (((with_reducible refine (vw_owner2 HV5.out (Nat.le_trans HTL.out (by omega)) x (0, 0, 0, 0) false HY1.out HY2.out).mono ?_)); rintro _ W6 ⟨rfl, hb6⟩)
            have HV6 := hid (HV5.out.on hb6)
            clear hb6
            go_wp2_with fail
            have HV7 := hid (HV6.out.on (W' := W6.alloc (.cells (owA (0, 0, 0, 0)) 71)) (by repeat' (first | exact Below.refl _ _ | with_reducible assumption | omega | with_reducible refine below_put_fut ?_ ?_ _ | with_reducible refine below_to_put ?_ | with_reducible refine Below.alloc ?_ ?_ _ | with_reducible refine Below.fut ?_ ?_ _ | with_reducible refine Below.drew ?_ | with_reducible refine Below.setCell ?_ ?_ _ | with_reducible refine Below.atPut ?_ ?_ _ | (simp [go_sem]; done) | (simp [go_sem]; omega))))
            (((with_reducible refine (vw_len HV7.out (Nat.le_trans HTL.out (by omega)) q (by rw [HLD.out]; exact HN.out)).mono ?_)); rintro _ W8 ⟨rfl, hb8⟩)
            have HV8 := hid (HV7.out.on hb8)
            clear hb8
            go_wp2_with fail
            (((with_reducible refine (vw_ring HV8.out (Nat.le_trans HTL.out (by omega)) false HRN2.out).mono ?_)); rintro _ _ ⟨rfl, u9, rfl⟩)
            have hbw := HBW.out.trans (HV8.out.below.mono HBW.out.size)
            have hz := hbw.size
            go_wp2_with fail
            go_ret; exact .mk (by first | rfl | (simp; done) | (simp; omega)) (by repeat' (first | exact Below.refl _ _ | with_reducible assumption | omega | with_reducible refine below_put_fut ?_ ?_ _ | with_reducible refine below_to_put ?_ | with_reducible refine Below.alloc ?_ ?_ _ | with_reducible refine Below.fut ?_ ?_ _ | with_reducible refine Below.drew ?_ | with_reducible refine Below.setCell ?_ ?_ _ | with_reducible refine Below.atPut ?_ ?_ _ | (simp [go_sem]; done) | (simp [go_sem]; omega)))
theorem viewCovers_walk (w : World) (v : Value) (zs : List Ow) (hi : OwsAt w v zs) (x : Int) (wx : (Lit.int .u64 x).wf = true) :
    Calls Try.prog 15 #[v, .int .u64 x] w (Makes (.bool true) w) := by
  have hx := U64.bd wx
  clear wx
  obtain ⟨ao, cap, rfl⟩ := hi.slice
  rcases Nat.lt_or_ge 40 zs.length with c | c
  · clear hi
    generalize zs.length = m at c ⊢
    have d1 : decide ((40 : Int) < m) = true := by simp; omega
    go_enter Try.func15, Try.ntmps15
    go_wp2_with (first | (go_at_call 34; ((with_reducible refine (viewAlive_any _).mono ?_)); rintro _ _ ⟨rfl, u, rfl⟩; (try (rw [Fut.put_self u (by first | assumption | (simp [go_sem]; done) | (simp [go_sem]; omega))]))) | (((with_reducible refine wp_region_fut_lit (by kernel_rfl) (by kernel_rfl) ?_)); (repeat (go_big_quiet_step ((first | (go_at_call 34; with_reducible exact Calls.fut_of (viewAlive_any _)))))); ((with_reducible refine wpQuiet_nil ?_)); rintro _ ⟨u, rfl⟩; (try (rw [Fut.put_self u (by first | assumption | (simp [go_sem]; done) | (simp [go_sem]; omega))]))))
    go_ret; exact .mk (by first | rfl | (simp; done) | (simp; omega)) (by repeat' (first | exact Below.refl _ _ | with_reducible assumption | omega | with_reducible refine below_put_fut ?_ ?_ _ | with_reducible refine below_to_put ?_ | with_reducible refine Below.alloc ?_ ?_ _ | with_reducible refine Below.fut ?_ ?_ _ | with_reducible refine Below.drew ?_ | with_reducible refine Below.setCell ?_ ?_ _ | with_reducible refine Below.atPut ?_ ?_ _ | (simp [go_sem]; done) | (simp [go_sem]; omega)))
  exact viewCovers_good w ao _ cap zs rfl hi c x hx.1 (by omega)
set_option maxRecDepth 100000 in
theorem viewCovers_lifted (os : Os) (started : os.Started) (H : Type) (enc : TypeId × Value → H) :
    ReturnsInHanded {} Try.checked os 15 .any (Rows.viewCoversSpec.pre6 enc Try.prog Try.f15 Rows.viewCoversRow.domain false) (Rows.viewCoversSpec.post enc Try.prog Try.f15 false true false false) := by
  refine returnsInHanded_of_change (C := Try.checked) own started (by kernel_rfl) Try.func15
    (ChangeSpec.witness6 (enc := enc) (C := Try.checked) false ⟨#[], #[.slice none 0 0, .int .u64 0], []⟩ 8 (by kernel_rfl) (by kernel_rfl) (by kernel_rfl) (by kernel_rfl)) ?_
  intro W base args ds gs before hval0 hW hcnd _
  have hval : ∀ (j : Nat) t v, Try.f15.params[j]? = some t → args[j]? = some v → Value.okWide Try.prog W .any base t v := hval0
  have hW' := hW
  obtain ⟨p, q, hA0, hV, rfl, hfz, hnd⟩ := hW
  have hA : DataW.TrodAll enc Try.prog W 0 (fun _ => true) true Try.f15.params.toList args.toList ds p := hA0
  rw [Try.params15] at hA hval
  obtain ⟨v0, vs0, d0, ds0, p0, q0, hargs, rfl, rfl, h0, r0⟩ := trodAll_cons hA
  obtain ⟨v1, vs1, d1, ds1, p1, q1, rfl, rfl, rfl, h1, r1⟩ := trodAll_cons r0
  obtain ⟨rfl, rfl, rfl⟩ := trodAll_nil r1
  obtain rfl : args = #[v0, v1] := by cases args; simp_all
  obtain ⟨rfl, rfl⟩ := trodVars_none hV
  have k0 := h0
  have lt0 : ∀ x ∈ p0, x.block < W.heap.size := by obtain ⟨m, hm⟩ := k0; exact DataW.trod_lt m _ _ _ hm
  obtain ⟨l0, w0⟩ := open_owneds (hval 0 69 v0 rfl rfl) h0
  have k1 := h1
  have lt1 : ∀ x ∈ p1, x.block < W.heap.size := by obtain ⟨m, hm⟩ := k1; exact DataW.trod_lt m _ _ _ hm
  obtain ⟨a1, rfl, -, -, w1⟩ := open_int Try.underlying32 (hval 1 32 v1 rfl rfl) h1
  clear hA0 hval0
  refine (viewCovers_walk W _ l0 w0 a1 w1).mono fun e W' ⟨he, u, hu⟩ => ?_
  subst he; subst hu
  have bel := u.below
  exact ⟨_, rfl, _, _, _, [], _, [], hW', trodAll_mk1 (shut_bool Try.underlying4 _), (trodAll_cons_mk (Below.trod laidOut (by kernel_rfl) (of_decide_eq_true (by kernel_rfl)) k0 bel lt0) (trodAll_cons_mk (Below.trod laidOut (by kernel_rfl) (of_decide_eq_true (by kernel_rfl)) k1 bel lt1) trodAll_mk0)), rfl, bel.frame _, fun h => by cases h⟩
/-- The statement. -/
theorem viewCovers_holds : Rows.ViewCoversSaid :=
  OpenClaim.holds_of_wide 15 Try.f15 rfl rfl rfl rfl rfl rfl rfl ⟨rfl, rfl, rfl, rfl, rfl⟩ rfl rfl rfl rfl rfl (by kernel_rfl) Try.func15 (by kernel_rfl)
    (of_decide_eq_true (by kernel_rfl)) (by unfold Func.isWrapper; first | (rw [if_pos (by decide +kernel)]; kernel_rfl) | (rw [if_neg (by decide +kernel)]; exact ⟨rfl, rfl⟩))
    (fun os started H enc _ => viewCovers_lifted os started H enc)
#print axioms viewCovers_holds
end Go.Proofs.Ythgajbfgolcpkaa
