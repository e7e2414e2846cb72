/- WalkStops answers true for every list of items, every two texts and every arc: the walk. -/
import Derived.Test.YthknenhcnpgkcaaStp2
import Derived.Test.YthknenhcnpgkcaaMv
import Derived.Test.YthknenhcnpgkcaaRefD
import Derived.Test.YthknenhcnpgkcaaMi
import Derived.Deep.RegionHeld3
namespace Go.Proofs.Ythknenhcnpgkcaa
open Go.RowKit Go.Shelf
set_option linter.unusedVariables false
set_option linter.unusedSimpArgs false
theorem Both.refw {B : Nat} {w0 : World} {xs ys : List It} {gs gr : Nat} {W : World} (h : Both B w0 xs ys gs gr W) : ∃ v, W.heap[gr]? = some (refObj 200 v) ∧ Src W 2 v ys.length (flat ys) := by
  obtain ⟨h1, h2, h3, c, top, v, h4, h5, h6, h7, h8⟩ := h
  exact ⟨v, h5, h6.src (flat_one _)⟩
set_option maxRecDepth 100000 in
set_option maxHeartbeats 4000000 in
theorem walkStops_good (w : World) (sl : Value) (l : List It) (n : Nat) (hl : l.length = n) (hn : n ≤ 60) (hs : Src w 2 sl n (flat l)) (f t : ByteArray) (hf : f.size ≤ 40) (ht : t.size ≤ 40) (a b : Int) (ha : 0 ≤ a) (ha2 : a < 18446744073709551616) (hb : 0 ≤ b) (hb2 : b < 18446744073709551616) :
    Calls Try.prog 11 #[sl, .string f, .string t, .agg #[.int .u64 a, .int .u64 b]] w (Makes (.bool true) w) := by
  obtain ⟨ao, cap, rfl⟩ := hs.slice_of
  have d1 : decide ((60 : Int) < n) = false := by simp; omega
  have d2 : decide ((40 : Int) < f.size) = false := by simp; omega
  have d3 : decide ((40 : Int) < t.size) = false := by simp; omega
  have HS := hid hs
  have HL := hid hl
  clear hs hl
  go_enter Try.func11, Try.ntmps11
  go_wp2_with (first | (go_at_call 33; ((with_reducible refine (wkAlive_any _).mono ?_)); rintro _ _ ⟨rfl, u, rfl⟩; (try (rw [Fut.put_self u (by first | assumption | (simp [go_sem]; done) | (simp [go_sem]; omega))]))) | (((with_reducible refine wp_region_fut_lit (by kernel_rfl) (by kernel_rfl) ?_)); (repeat (go_big_quiet_step ((first | (go_at_call 33; with_reducible exact Calls.fut_of (wkAlive_any _)))))); ((with_reducible refine wpQuiet_nil ?_)); rintro _ ⟨u, rfl⟩; (try (rw [Fut.put_self u (by first | assumption | (simp [go_sem]; done) | (simp [go_sem]; omega))]))))
  clear d1 d2 d3
  have hbX : Below w.heap.size w u.val := (by repeat' (first | exact Below.refl _ _ | with_reducible assumption | omega | with_reducible refine below_put_fut ?_ ?_ _ | with_reducible refine below_to_put ?_ | with_reducible refine Below.alloc ?_ ?_ _ | with_reducible refine Below.fut ?_ ?_ _ | with_reducible refine Below.drew ?_ | with_reducible refine Below.setCell ?_ ?_ _ | with_reducible refine Below.atPut ?_ ?_ _ | (simp [go_sem]; done) | (simp [go_sem]; omega)))
  have hzX := hbX.size
  have hc7 := (u.below.block w.heap.size (by simp)).trans (heap_alloc_at w (.cells #[.int .u64 a, .int .u64 b] 38) _ rfl)
  generalize u.val = X at hbX hzX hc7 ⊢
  have hwX := lt_of_heap hc7
  refine (filled_is X _ l n HL.out (by omega) (HS.out.heap hbX)).mono ?_
  rintro _ W1 ⟨gs, gr, rfl, hb1⟩
  have hxl := fillL_len l
  generalize fillL l = xs at hb1 hxl
  rw [HL.out] at hxl
  obtain ⟨m, hm⟩ : ∃ m, xs.length = m := ⟨_, rfl⟩
  have HM := hid hm
  have jc := (hb1.1.block _ hwX).trans hc7
  have hb1 := hb1.base hbX hzX
  obtain ⟨sv, hg, hsr⟩ := hb1.refw
  rw [hm] at hxl hsr
  have HG := hid hg
  have HC := hid jc
  have HSR := hid hsr
  have HSH := hid hb1.sh
  have HRI := hid (sh_rises HSH.out)
  have HSM := hid (sh_small HSH.out)
  clear hb1 hg hsr jc hbX hzX hc7 hm HS HL
  obtain ⟨va, vc, rfl⟩ := HSR.out.slice_of
  have HCE := hid (fun (Y : World) (hY : Below W1.heap.size W1 Y) => show (Y.cell? ⟨w.heap.size, 0, none⟩ = some (.int .u64 a) ∧ Y.cell? ⟨w.heap.size, 1, none⟩ = some (.int .u64 b)) ∧ Y.cell? ⟨gr, 1, none⟩ = some (.slice va m vc) from
    ⟨⟨cell_of_row Y w.heap.size 0 _ _ (0, 0) ((hY.block _ (lt_of_heap HC.out)).trans HC.out), cell_of_row Y w.heap.size 1 _ _ (0, 0) ((hY.block _ (lt_of_heap HC.out)).trans HC.out)⟩, cell_of_row Y gr 1 _ _ (0, 0) ((hY.block _ (lt_of_heap HG.out)).trans HG.out)⟩)
  have HB2 := hid (show Below W1.heap.size W1 W1.drew from (Below.refl _ W1).drew)
  go_wp2_with fail
  first | (go_region_held3 (fun Y => (Y.cell? ⟨w.heap.size, 0, none⟩ = some (.int .u64 a) ∧ Y.cell? ⟨w.heap.size, 1, none⟩ = some (.int .u64 b)) ∧ Y.cell? ⟨gr, 1, none⟩ = some (.slice va m vc)) ((first | exact HCE.out _ (HB5.out.alloc HB5.out.size _) | exact HCE.out _ HB5.out | exact HCE.out _ HB4.out | exact HCE.out _ HB3.out | exact HCE.out _ HB2.out)) ((first
    | (go_at_call 47; refine (walkArc_is (some ⟨gs, 0, none⟩) a b _).mono ?_; rintro _ W5 ⟨rfl, hw5⟩; have HX5 := hid (show Below W4.heap.size W4 W5 from by rw [hw5]; exact ((Below.refl _ W4).alloc (Nat.le_refl _) _).alloc (by simp) _); have HB5 := hid (show Below W1.heap.size W1 W5 from HB4.out.trans (Below.mono HX5.out HB4.out.size)); have HC0 := hid (show W5.heap[W4.heap.size]? = some (.cells #[.pointer (some ⟨gs, 0, none⟩)] 23) from by rw [hw5]; exact (heap_alloc_other _ _ _ (by simp)).trans (heap_alloc_at _ _ _ rfl)); have HC1 := hid (show W5.heap[W4.heap.size + 1]? = some (.cells #[.int .u64 a, .int .u64 b] 38) from by rw [hw5]; exact heap_alloc_at _ _ _ (by simp)); clear hw5)
    | (go_at_call 48; refine (walkRange_is (some ⟨gs, 0, none⟩) f t _).mono ?_; rintro _ W4 ⟨rfl, hw4⟩; have HX4 := hid (show Below W3.heap.size W3 W4 from by rw [hw4]; exact (((Below.refl _ W3).alloc (Nat.le_refl _) _).alloc (by simp) _).alloc (by simp <;> omega) _); have HB4 := hid (show Below W1.heap.size W1 W4 from HB3.out.trans (Below.mono HX4.out HB3.out.size)); have HD0 := hid (show W4.heap[W3.heap.size]? = some (.cells #[.pointer (some ⟨gs, 0, none⟩)] 23) from by rw [hw4]; exact (heap_alloc_other _ _ _ (by simp; omega)).trans ((heap_alloc_other _ _ _ (by simp)).trans (heap_alloc_at _ _ _ rfl))); have HD1 := hid (show W4.heap[W3.heap.size + 1]? = some (.cells #[.string f] 9) from by rw [hw4]; exact (heap_alloc_other _ _ _ (by simp)).trans (heap_alloc_at _ _ _ (by simp))); have HD2 := hid (show W4.heap[W3.heap.size + 1 + 1]? = some (.cells #[.string t] 9) from by rw [hw4]; exact heap_alloc_at _ _ _ (by simp)); clear hw4)
    | (go_at_call 42; refine (walkAll_is (.pointer (some ⟨gs, 0, none⟩)) _ rfl).mono ?_; rintro _ W3 ⟨rfl, hw3⟩; have HB3 := hid (show Below W1.heap.size W1 W3 from by rw [hw3]; exact HB2.out.alloc (Nat.le_refl _) _); have HA0 := hid (show W3.heap[W1.heap.size]? = some (.cells #[.pointer (some ⟨gs, 0, none⟩)] 23) from by rw [hw3]; exact heap_alloc_at _ _ _ rfl); clear hw3)))) | fail "held3"
  obtain ⟨W6, hW6⟩ : ∃ W6, W6 = W5.alloc (.cells #[.func (.func 78) #[] #[.pointer (some ⟨W1.heap.size, 0, none⟩)], .func (.func 82) #[] #[.pointer (some ⟨W3.heap.size, 0, none⟩), .pointer (some ⟨W3.heap.size + 1, 0, none⟩), .pointer (some ⟨W3.heap.size + 1 + 1, 0, none⟩)], .func (.func 80) #[] #[.pointer (some ⟨W4.heap.size, 0, none⟩), .pointer (some ⟨W4.heap.size + 1, 0, none⟩)]] 57) := ⟨_, rfl⟩
  rw [← hW6]
  have HX6 : Below W5.heap.size W5 W6 := by rw [hW6]; exact (Below.refl _ W5).alloc (Nat.le_refl _) _
  have HS6 := hid (show W6.heap[W5.heap.size]? = some (.cells #[.func (.func 78) #[] #[.pointer (some ⟨W1.heap.size, 0, none⟩)], .func (.func 82) #[] #[.pointer (some ⟨W3.heap.size, 0, none⟩), .pointer (some ⟨W3.heap.size + 1, 0, none⟩), .pointer (some ⟨W3.heap.size + 1 + 1, 0, none⟩)], .func (.func 80) #[] #[.pointer (some ⟨W4.heap.size, 0, none⟩), .pointer (some ⟨W4.heap.size + 1, 0, none⟩)]] 57) from by rw [hW6]; exact heap_alloc_at _ _ _ rfl)
  have HB6 := hid (HB5.out.trans (HX6.mono HB5.out.size))
  have HX46 := HX5.out.trans (HX6.mono HX5.out.size)
  have HX36 := HX4.out.trans (HX46.mono HX4.out.size)
  have KA := hid ((HX36.block _ (lt_of_heap HA0.out)).trans HA0.out)
  have KD0 := hid ((HX46.block _ (lt_of_heap HD0.out)).trans HD0.out)
  have KD1 := hid ((HX46.block _ (lt_of_heap HD1.out)).trans HD1.out)
  have KD2 := hid ((HX46.block _ (lt_of_heap HD2.out)).trans HD2.out)
  have KC0 := hid ((HX6.block _ (lt_of_heap HC0.out)).trans HC0.out)
  have KC1 := hid ((HX6.block _ (lt_of_heap HC1.out)).trans HC1.out)
  clear hW6 HX6 HX46 HX36 HX4 HX5 HA0 HD0 HD1 HD2 HC0 HC1 HB3 HB4 HB5
  obtain ⟨z1, hz1⟩ : ∃ z1, (rangeL f t xs).length = z1 := ⟨_, rfl⟩
  obtain ⟨z2, hz2⟩ : ∃ z2, (arcL a b xs).length = z2 := ⟨_, rfl⟩
  have hz1m : z1 ≤ m := by have : (rangeL f t xs).length ≤ xs.length := List.length_filter_le _ _; rw [HM.out] at this; omega
  have hz2m : z2 ≤ m := by have := arcL_len_le ha ha2 hb hb2 xs; rw [HM.out] at this; omega
  have HZ1 := hid hz1
  have HZ2 := hid hz2
  clear hz1 hz2
  go_wp2_with fail
  go_loopw [49] (fun i wr => ∃ k : Nat, k ≤ 3 ∧ i = .int .i64 k ∧ Hid (Below W6.heap.size W6 wr)) (fun i _ => 3 - (intOf i).toNat)
  case atStart => exact ⟨0, Nat.zero_le _, rfl, hid (Below.refl _ _)⟩
  case round =>
    obtain ⟨k, hk, rfl, HRW⟩ := hrel
    have HBR := hid (HB6.out.trans (HRW.out.mono HB6.out.size))
    have es := fun i => cell_of_row wr W5.heap.size i _ _ (0, 0) ((HRW.out.block _ (lt_of_heap HS6.out)).trans HS6.out)
    have ls := Nat.lt_of_lt_of_le (lt_of_heap HS6.out) HRW.out.size
    have heg1 := enters_of Try.func78 (by kernel_rfl) rfl
    have heg2 := enters_of Try.func82 (by kernel_rfl) rfl
    have heg3 := enters_of Try.func80 (by kernel_rfl) rfl
    by_cases hlt : k < 3
    · obtain rfl | rfl | rfl : k = 0 ∨ k = 1 ∨ k = 2 := by omega
      · go_wp2_with fail
        have hbw : Below wr.heap.size wr (wr.alloc (numO 0)) := (by repeat' (first | exact Below.refl _ _ | with_reducible assumption | omega | with_reducible refine below_put_fut ?_ ?_ _ | with_reducible refine below_to_put ?_ | with_reducible refine Below.alloc ?_ ?_ _ | with_reducible refine Below.fut ?_ ?_ _ | with_reducible refine Below.drew ?_ | with_reducible refine Below.setCell ?_ ?_ _ | with_reducible refine Below.atPut ?_ ?_ _ | (simp [go_sem]; done) | (simp [go_sem]; omega)))
        have hnb : (wr.alloc (numO 0)).heap[wr.heap.size]? = some (numO 0) := heap_alloc_at _ _ _ rfl
        have hbw2 := hid (HBR.out.trans (hbw.mono HBR.out.size))
        have hrw := hid (HRW.out.trans (hbw.mono HRW.out.size))
        refine (allStop_is (xs := xs) ((HSH.out.on hbw2.out HSH.out.ge).gives (by rw [HM.out]; omega)) (by rw [HM.out]; omega) W1.heap.size wr.heap.size (cell_of_row _ _ 0 _ _ (0, 0) ((hrw.out.block _ (lt_of_heap KA.out)).trans KA.out)) hnb).mono ?_
        rintro _ W7 ⟨⟨rv, rfl⟩, hor⟩
        obtain ⟨cc, hcc, hW7, hn7⟩ : ∃ cc : Nat, min (m : Int) 1 = (cc : Int) ∧ Below wr.heap.size wr W7 ∧ W7.heap[wr.heap.size]? = some (numO cc) := by
          have hsz : wr.heap.size < (wr.alloc (numO 0)).heap.size := by simp
          rcases hor with ⟨h1, h2⟩ | ⟨h1, h2⟩
          · exact ⟨0, by have := HM.out; have := HZ1.out; have := HZ2.out; omega, hbw.trans (h2.mono (by omega)), (h2.block _ hsz).trans hnb⟩
          · exact ⟨1, by have := HM.out; have := HZ1.out; have := HZ2.out; omega, (Below.atPut hbw (Nat.le_refl _) (numO 1)).trans (h2.mono (by omega)), (h2.block _ hsz).trans (heap_put_at _ _ _ hsz)⟩
        have HCC := hid hcc
        have HN7 := hid hn7
        have HB7 := hid (HBR.out.trans (hW7.mono HBR.out.size))
        have HR7 := hid (HRW.out.trans (hW7.mono HRW.out.size))
        have HBW := hid (show Below W1.heap.size W1 W7.drew from HB7.out.drew)
        have h7l := lt_of_heap hn7
        clear hor hbw hnb hbw2 hrw hcc hn7 hW7 heg1 heg2 heg3 HBR HRW es
        have HR8 := hid (show Below W6.heap.size W6 W7.drew from HR7.out.drew)
        have HN8 := hid (show W7.drew.heap[wr.heap.size]? = some (numO cc) from HN7.out)
        clear HB7 HR7 HN7
        go_wp2_with fail
        refine wp_region_noPanic ?_
        refine wp_region_held_drew (S := (fun Y => (Y.cell? ⟨w.heap.size, 0, none⟩ = some (.int .u64 a) ∧ Y.cell? ⟨w.heap.size, 1, none⟩ = some (.int .u64 b)) ∧ Y.cell? ⟨gr, 1, none⟩ = some (.slice va m vc))) (by kernel_rfl) (by exact HCE.out _ HBW.out) (fun hHeld => ?_)
        refine wpAnyH_take (i := 0) (v := ?_) rfl (by kernel_rfl) (by kernel_rfl) (by kernel_rfl) (fun _ _ _ h => h) (Or.inl ⟨by rfl, ?_⟩) (by assumption) ?_
        case refine_2 => (intro w hSw; (try dsimp only at hSw); first | (go_simp; done) | (go_simp; with_reducible rfl))
        try simp only [Act.put, List.getElem_toArray, List.getElem_cons_succ, List.getElem_cons_zero, List.setIfInBounds_toArray, List.set_cons_zero, List.set_cons_succ]
        refine wpAnyH_take (i := 1) (v := ?_) rfl (by kernel_rfl) (by kernel_rfl) (by kernel_rfl) (fun _ _ _ h => h) (Or.inl ⟨by rfl, ?_⟩) (by assumption) ?_
        case refine_2 => (intro w hSw; (try dsimp only at hSw); first | (go_simp; done) | (go_simp; with_reducible rfl))
        try simp only [Act.put, List.getElem_toArray, List.getElem_cons_succ, List.getElem_cons_zero, List.setIfInBounds_toArray, List.set_cons_zero, List.set_cons_succ]
        refine wpAnyH_take (i := 2) (v := ?_) rfl (by kernel_rfl) (by kernel_rfl) (by kernel_rfl) (fun _ _ _ h => h) (Or.inl ⟨by rfl, ?_⟩) (by assumption) ?_
        case refine_2 => (intro w hSw; (try dsimp only at hSw); first | (go_simp; done) | (go_simp; with_reducible rfl))
        try simp only [Act.put, List.getElem_toArray, List.getElem_cons_succ, List.getElem_cons_zero, List.setIfInBounds_toArray, List.set_cons_zero, List.set_cons_succ]
        refine wpAnyH_take (i := 3) (v := ?_) rfl (by kernel_rfl) (by kernel_rfl) (by kernel_rfl) (fun _ _ _ h => h) (Or.inl ⟨by rfl, ?_⟩) (by assumption) ?_
        case refine_2 => (intro w hSw; (try dsimp only at hSw); first | (go_simp; done) | (go_simp; with_reducible rfl))
        try simp only [Act.put, List.getElem_toArray, List.getElem_cons_succ, List.getElem_cons_zero, List.setIfInBounds_toArray, List.set_cons_zero, List.set_cons_succ]
        refine wpAnyH_take (i := 4) (v := ?_) rfl (by kernel_rfl) (by kernel_rfl) (by kernel_rfl) (fun _ _ _ h => h) (Or.inl ⟨by rfl, ?_⟩) (by assumption) ?_
        case refine_2 => (intro w hSw; (try dsimp only at hSw); first | (go_simp; done) | (go_simp; with_reducible rfl))
        try simp only [Act.put, List.getElem_toArray, List.getElem_cons_succ, List.getElem_cons_zero, List.setIfInBounds_toArray, List.set_cons_zero, List.set_cons_succ]
        refine wpAnyH_take (i := 5) (v := ?_) rfl (by kernel_rfl) (by kernel_rfl) (by kernel_rfl) (fun _ _ _ h => h) (Or.inl ⟨by rfl, ?_⟩) (by assumption) ?_
        case refine_2 => (intro w hSw; (try dsimp only at hSw); first | (go_simp; done) | (go_simp; with_reducible rfl))
        try simp only [Act.put, List.getElem_toArray, List.getElem_cons_succ, List.getElem_cons_zero, List.setIfInBounds_toArray, List.set_cons_zero, List.set_cons_succ]
        refine wpAnyH_take (i := 6) (v := ?_) rfl (by kernel_rfl) (by kernel_rfl) (by kernel_rfl) (fun _ _ _ h => h) (Or.inl ⟨by rfl, ?_⟩) (by assumption) ?_
        case refine_2 => (intro w hSw; (try dsimp only at hSw); first | (go_simp; done) | (go_simp; with_reducible rfl))
        try simp only [Act.put, List.getElem_toArray, List.getElem_cons_succ, List.getElem_cons_zero, List.setIfInBounds_toArray, List.set_cons_zero, List.set_cons_succ]
        refine wpAnyH_take (i := 8) (v := ?_) rfl (by kernel_rfl) (by kernel_rfl) (by kernel_rfl) (fun _ _ _ h => h) (Or.inl ⟨by rfl, ?_⟩) (by assumption) ?_
        case refine_2 => (intro w hSw; (try dsimp only at hSw); first | (go_simp; done) | (go_simp; with_reducible rfl))
        try simp only [Act.put, List.getElem_toArray, List.getElem_cons_succ, List.getElem_cons_zero, List.setIfInBounds_toArray, List.set_cons_zero, List.set_cons_succ]
        refine wpAnyH_take (i := 9) (v := ?_) rfl (by kernel_rfl) (by kernel_rfl) (by kernel_rfl) (fun _ _ _ h => h) (Or.inl ⟨by rfl, ?_⟩) (by assumption) ?_
        case refine_2 => (intro w hSw; (try dsimp only at hSw); first | (go_simp; done) | (go_simp; with_reducible rfl))
        try simp only [Act.put, List.getElem_toArray, List.getElem_cons_succ, List.getElem_cons_zero, List.setIfInBounds_toArray, List.set_cons_zero, List.set_cons_succ]
        refine wpAnyH_take (i := 12) (v := ?_) rfl (by kernel_rfl) (by kernel_rfl) (by kernel_rfl) (fun _ _ _ h => h) (Or.inl ⟨by rfl, ?_⟩) (by assumption) ?_
        case refine_2 => (intro w hSw; (try dsimp only at hSw); first | (go_simp; done) | (go_simp; with_reducible rfl))
        try simp only [Act.put, List.getElem_toArray, List.getElem_cons_succ, List.getElem_cons_zero, List.setIfInBounds_toArray, List.set_cons_zero, List.set_cons_succ]
        refine wpAnyH_ready (rs := [7]) (by kernel_rfl) (by simp) ?_
        refine AllReadyH.cons rfl (fun K hK => ?_) AllReadyH.nil
        go_simp
        go_at_call 50
        refine (refRange_is _ gr 200 _ xs m HM.out (by omega) ((HBW.out.block _ (lt_of_heap HG.out)).trans HG.out) (HSR.out.heap HBW.out) f t).mono ?_
        rintro _ W9 ⟨v9, rfl, ho9⟩
        obtain ⟨a9, c9, rfl⟩ := ho9.form
        rw [HZ1.out]
        have HB9 := hid (HBW.out.trans (ho9.below.mono HBW.out.size))
        have HR9 := hid (HR8.out.trans (ho9.below.mono HR8.out.size))
        have HN9 := hid ((ho9.below.block _ (lt_of_heap HN8.out)).trans HN8.out)
        clear ho9
        refine hK.out _ _ (by exact HCE.out _ HB9.out) (fun hHeld => ?_)
        clear hK K
        try simp only [Act.put, List.getElem_toArray, List.getElem_cons_succ, List.getElem_cons_zero, List.setIfInBounds_toArray, List.set_cons_zero, List.set_cons_succ]
        refine wpAnyH_ready (rs := [10]) (by kernel_rfl) (by simp) ?_
        refine AllReadyH.cons rfl (fun K hK => ?_) AllReadyH.nil
        go_simp
        go_at_call 41
        refine (refArc_is _ gr 200 _ xs m HM.out (by omega) HSM.out ((HB9.out.block _ (lt_of_heap HG.out)).trans HG.out) (HSR.out.heap HB9.out) a b ha ha2 hb hb2).mono ?_
        rintro _ W10 ⟨v10, rfl, ho10⟩
        obtain ⟨a10, c10, rfl⟩ := ho10.form
        rw [HZ2.out]
        have HB10 := hid (HB9.out.trans (ho10.below.mono HB9.out.size))
        have HR10 := hid (HR9.out.trans (ho10.below.mono HR9.out.size))
        have HN10 := hid ((ho10.below.block _ (lt_of_heap HN9.out)).trans HN9.out)
        clear ho10
        refine hK.out _ _ (by exact HCE.out _ HB10.out) (fun hHeld => ?_)
        clear hK K
        try simp only [Act.put, List.getElem_toArray, List.getElem_cons_succ, List.getElem_cons_zero, List.setIfInBounds_toArray, List.set_cons_zero, List.set_cons_succ]
        refine wpAnyH_ready (rs := [11]) (by kernel_rfl) (by simp) ?_
        refine AllReadyH.cons rfl (fun K hK => ?_) AllReadyH.nil
        go_simp
        refine hK.out _ _ (by exact HCE.out _ (HB10.out.alloc HB10.out.size _)) (fun hHeld => ?_)
        clear hK K
        try simp only [Act.put, List.getElem_toArray, List.getElem_cons_succ, List.getElem_cons_zero, List.setIfInBounds_toArray, List.set_cons_zero, List.set_cons_succ]
        refine wpAnyH_take (i := 13) (v := ?_) rfl (by kernel_rfl) (by kernel_rfl) (by kernel_rfl) (fun _ _ _ h => h) (Or.inl ⟨by rfl, ?_⟩) (by assumption) ?_
        case refine_2 => (intro w hSw; (try dsimp only at hSw); first | (go_simp; done) | (go_simp; with_reducible rfl))
        try simp only [Act.put, List.getElem_toArray, List.getElem_cons_succ, List.getElem_cons_zero, List.setIfInBounds_toArray, List.set_cons_zero, List.set_cons_succ]
        refine wpAnyH_ready (rs := [14]) (by kernel_rfl) (by simp) ?_
        refine AllReadyH.cons rfl (fun K hK => ?_) AllReadyH.nil
        go_simp
        refine hK.out _ _ (by exact HCE.out _ (HB10.out.alloc HB10.out.size _)) (fun hHeld => ?_)
        clear hK K
        try simp only [Act.put, List.getElem_toArray, List.getElem_cons_succ, List.getElem_cons_zero, List.setIfInBounds_toArray, List.set_cons_zero, List.set_cons_succ]
        refine wpAnyH_take (i := 15) (v := ?_) rfl (by kernel_rfl) (by kernel_rfl) (by kernel_rfl) (fun _ _ _ h => h) (Or.inl ⟨by rfl, ?_⟩) (by assumption) ?_
        case refine_2 => (intro w hSw; (try dsimp only at hSw); first | (go_simp; done) | (go_simp; with_reducible rfl))
        try simp only [Act.put, List.getElem_toArray, List.getElem_cons_succ, List.getElem_cons_zero, List.setIfInBounds_toArray, List.set_cons_zero, List.set_cons_succ]
        refine wpAnyH_done (by kernel_rfl) ?_ _
        refine NoPanic.normal ?_
        have en := fun i => cell_of_row W10 wr.heap.size i _ _ (0, 0) HN10.out
        have ln := lt_of_heap HN10.out
        have hcm := HCC.out
        have hbx := hid (show ∀ o, Below W6.heap.size W6 (W10.alloc o) from fun o => HR10.out.alloc HR10.out.size o)
        go_wp2_with fail
        exact ⟨⟨1, by omega, by go_num, hbx.out _⟩, by simp [intOf]⟩
      · go_wp2_with fail
        have hbw : Below wr.heap.size wr (wr.alloc (numO 0)) := (by repeat' (first | exact Below.refl _ _ | with_reducible assumption | omega | with_reducible refine below_put_fut ?_ ?_ _ | with_reducible refine below_to_put ?_ | with_reducible refine Below.alloc ?_ ?_ _ | with_reducible refine Below.fut ?_ ?_ _ | with_reducible refine Below.drew ?_ | with_reducible refine Below.setCell ?_ ?_ _ | with_reducible refine Below.atPut ?_ ?_ _ | (simp [go_sem]; done) | (simp [go_sem]; omega)))
        have hnb : (wr.alloc (numO 0)).heap[wr.heap.size]? = some (numO 0) := heap_alloc_at _ _ _ rfl
        have hbw2 := hid (HBR.out.trans (hbw.mono HBR.out.size))
        have hrw := hid (HRW.out.trans (hbw.mono HRW.out.size))
        refine (rangeStop_is (xs := xs) ((HSH.out.on hbw2.out HSH.out.ge).gives (by rw [HM.out]; omega)) (by rw [HM.out]; omega) HRI.out HSM.out W3.heap.size (W3.heap.size + 1) (W3.heap.size + 1 + 1) wr.heap.size ((hrw.out.block _ (lt_of_heap KD0.out)).trans KD0.out) f t (by unfold maxLen; omega) (by unfold maxLen; omega) ((hrw.out.block _ (lt_of_heap KD1.out)).trans KD1.out) ((hrw.out.block _ (lt_of_heap KD2.out)).trans KD2.out) hnb (by have := lt_of_heap KD1.out; have := HRW.out.size; omega) (by have := lt_of_heap KD2.out; have := HRW.out.size; omega)).mono ?_
        rintro _ W7 ⟨⟨rv, rfl⟩, hor⟩
        obtain ⟨cc, hcc, hW7, hn7⟩ : ∃ cc : Nat, min (z1 : Int) 1 = (cc : Int) ∧ Below wr.heap.size wr W7 ∧ W7.heap[wr.heap.size]? = some (numO cc) := by
          have hsz : wr.heap.size < (wr.alloc (numO 0)).heap.size := by simp
          rcases hor with ⟨h1, h2⟩ | ⟨h1, h2⟩
          · exact ⟨0, by have := HM.out; have := HZ1.out; have := HZ2.out; omega, hbw.trans (h2.mono (by omega)), (h2.block _ hsz).trans hnb⟩
          · exact ⟨1, by have := HM.out; have := HZ1.out; have := HZ2.out; omega, (Below.atPut hbw (Nat.le_refl _) (numO 1)).trans (h2.mono (by omega)), (h2.block _ hsz).trans (heap_put_at _ _ _ hsz)⟩
        have HCC := hid hcc
        have HN7 := hid hn7
        have HB7 := hid (HBR.out.trans (hW7.mono HBR.out.size))
        have HR7 := hid (HRW.out.trans (hW7.mono HRW.out.size))
        have HBW := hid (show Below W1.heap.size W1 W7.drew from HB7.out.drew)
        have h7l := lt_of_heap hn7
        clear hor hbw hnb hbw2 hrw hcc hn7 hW7 heg1 heg2 heg3 HBR HRW es
        have HR8 := hid (show Below W6.heap.size W6 W7.drew from HR7.out.drew)
        have HN8 := hid (show W7.drew.heap[wr.heap.size]? = some (numO cc) from HN7.out)
        clear HB7 HR7 HN7
        go_wp2_with fail
        refine wp_region_noPanic ?_
        refine wp_region_held_drew (S := (fun Y => (Y.cell? ⟨w.heap.size, 0, none⟩ = some (.int .u64 a) ∧ Y.cell? ⟨w.heap.size, 1, none⟩ = some (.int .u64 b)) ∧ Y.cell? ⟨gr, 1, none⟩ = some (.slice va m vc))) (by kernel_rfl) (by exact HCE.out _ HBW.out) (fun hHeld => ?_)
        refine wpAnyH_take (i := 0) (v := ?_) rfl (by kernel_rfl) (by kernel_rfl) (by kernel_rfl) (fun _ _ _ h => h) (Or.inl ⟨by rfl, ?_⟩) (by assumption) ?_
        case refine_2 => (intro w hSw; (try dsimp only at hSw); first | (go_simp; done) | (go_simp; with_reducible rfl))
        try simp only [Act.put, List.getElem_toArray, List.getElem_cons_succ, List.getElem_cons_zero, List.setIfInBounds_toArray, List.set_cons_zero, List.set_cons_succ]
        refine wpAnyH_take (i := 1) (v := ?_) rfl (by kernel_rfl) (by kernel_rfl) (by kernel_rfl) (fun _ _ _ h => h) (Or.inl ⟨by rfl, ?_⟩) (by assumption) ?_
        case refine_2 => (intro w hSw; (try dsimp only at hSw); first | (go_simp; done) | (go_simp; with_reducible rfl))
        try simp only [Act.put, List.getElem_toArray, List.getElem_cons_succ, List.getElem_cons_zero, List.setIfInBounds_toArray, List.set_cons_zero, List.set_cons_succ]
        refine wpAnyH_take (i := 2) (v := ?_) rfl (by kernel_rfl) (by kernel_rfl) (by kernel_rfl) (fun _ _ _ h => h) (Or.inl ⟨by rfl, ?_⟩) (by assumption) ?_
        case refine_2 => (intro w hSw; (try dsimp only at hSw); first | (go_simp; done) | (go_simp; with_reducible rfl))
        try simp only [Act.put, List.getElem_toArray, List.getElem_cons_succ, List.getElem_cons_zero, List.setIfInBounds_toArray, List.set_cons_zero, List.set_cons_succ]
        refine wpAnyH_take (i := 3) (v := ?_) rfl (by kernel_rfl) (by kernel_rfl) (by kernel_rfl) (fun _ _ _ h => h) (Or.inl ⟨by rfl, ?_⟩) (by assumption) ?_
        case refine_2 => (intro w hSw; (try dsimp only at hSw); first | (go_simp; done) | (go_simp; with_reducible rfl))
        try simp only [Act.put, List.getElem_toArray, List.getElem_cons_succ, List.getElem_cons_zero, List.setIfInBounds_toArray, List.set_cons_zero, List.set_cons_succ]
        refine wpAnyH_take (i := 4) (v := ?_) rfl (by kernel_rfl) (by kernel_rfl) (by kernel_rfl) (fun _ _ _ h => h) (Or.inl ⟨by rfl, ?_⟩) (by assumption) ?_
        case refine_2 => (intro w hSw; (try dsimp only at hSw); first | (go_simp; done) | (go_simp; with_reducible rfl))
        try simp only [Act.put, List.getElem_toArray, List.getElem_cons_succ, List.getElem_cons_zero, List.setIfInBounds_toArray, List.set_cons_zero, List.set_cons_succ]
        refine wpAnyH_take (i := 5) (v := ?_) rfl (by kernel_rfl) (by kernel_rfl) (by kernel_rfl) (fun _ _ _ h => h) (Or.inl ⟨by rfl, ?_⟩) (by assumption) ?_
        case refine_2 => (intro w hSw; (try dsimp only at hSw); first | (go_simp; done) | (go_simp; with_reducible rfl))
        try simp only [Act.put, List.getElem_toArray, List.getElem_cons_succ, List.getElem_cons_zero, List.setIfInBounds_toArray, List.set_cons_zero, List.set_cons_succ]
        refine wpAnyH_take (i := 6) (v := ?_) rfl (by kernel_rfl) (by kernel_rfl) (by kernel_rfl) (fun _ _ _ h => h) (Or.inl ⟨by rfl, ?_⟩) (by assumption) ?_
        case refine_2 => (intro w hSw; (try dsimp only at hSw); first | (go_simp; done) | (go_simp; with_reducible rfl))
        try simp only [Act.put, List.getElem_toArray, List.getElem_cons_succ, List.getElem_cons_zero, List.setIfInBounds_toArray, List.set_cons_zero, List.set_cons_succ]
        refine wpAnyH_take (i := 8) (v := ?_) rfl (by kernel_rfl) (by kernel_rfl) (by kernel_rfl) (fun _ _ _ h => h) (Or.inl ⟨by rfl, ?_⟩) (by assumption) ?_
        case refine_2 => (intro w hSw; (try dsimp only at hSw); first | (go_simp; done) | (go_simp; with_reducible rfl))
        try simp only [Act.put, List.getElem_toArray, List.getElem_cons_succ, List.getElem_cons_zero, List.setIfInBounds_toArray, List.set_cons_zero, List.set_cons_succ]
        refine wpAnyH_take (i := 9) (v := ?_) rfl (by kernel_rfl) (by kernel_rfl) (by kernel_rfl) (fun _ _ _ h => h) (Or.inl ⟨by rfl, ?_⟩) (by assumption) ?_
        case refine_2 => (intro w hSw; (try dsimp only at hSw); first | (go_simp; done) | (go_simp; with_reducible rfl))
        try simp only [Act.put, List.getElem_toArray, List.getElem_cons_succ, List.getElem_cons_zero, List.setIfInBounds_toArray, List.set_cons_zero, List.set_cons_succ]
        refine wpAnyH_take (i := 12) (v := ?_) rfl (by kernel_rfl) (by kernel_rfl) (by kernel_rfl) (fun _ _ _ h => h) (Or.inl ⟨by rfl, ?_⟩) (by assumption) ?_
        case refine_2 => (intro w hSw; (try dsimp only at hSw); first | (go_simp; done) | (go_simp; with_reducible rfl))
        try simp only [Act.put, List.getElem_toArray, List.getElem_cons_succ, List.getElem_cons_zero, List.setIfInBounds_toArray, List.set_cons_zero, List.set_cons_succ]
        refine wpAnyH_ready (rs := [7]) (by kernel_rfl) (by simp) ?_
        refine AllReadyH.cons rfl (fun K hK => ?_) AllReadyH.nil
        go_simp
        go_at_call 50
        refine (refRange_is _ gr 200 _ xs m HM.out (by omega) ((HBW.out.block _ (lt_of_heap HG.out)).trans HG.out) (HSR.out.heap HBW.out) f t).mono ?_
        rintro _ W9 ⟨v9, rfl, ho9⟩
        obtain ⟨a9, c9, rfl⟩ := ho9.form
        rw [HZ1.out]
        have HB9 := hid (HBW.out.trans (ho9.below.mono HBW.out.size))
        have HR9 := hid (HR8.out.trans (ho9.below.mono HR8.out.size))
        have HN9 := hid ((ho9.below.block _ (lt_of_heap HN8.out)).trans HN8.out)
        clear ho9
        refine hK.out _ _ (by exact HCE.out _ HB9.out) (fun hHeld => ?_)
        clear hK K
        try simp only [Act.put, List.getElem_toArray, List.getElem_cons_succ, List.getElem_cons_zero, List.setIfInBounds_toArray, List.set_cons_zero, List.set_cons_succ]
        refine wpAnyH_ready (rs := [10]) (by kernel_rfl) (by simp) ?_
        refine AllReadyH.cons rfl (fun K hK => ?_) AllReadyH.nil
        go_simp
        go_at_call 41
        refine (refArc_is _ gr 200 _ xs m HM.out (by omega) HSM.out ((HB9.out.block _ (lt_of_heap HG.out)).trans HG.out) (HSR.out.heap HB9.out) a b ha ha2 hb hb2).mono ?_
        rintro _ W10 ⟨v10, rfl, ho10⟩
        obtain ⟨a10, c10, rfl⟩ := ho10.form
        rw [HZ2.out]
        have HB10 := hid (HB9.out.trans (ho10.below.mono HB9.out.size))
        have HR10 := hid (HR9.out.trans (ho10.below.mono HR9.out.size))
        have HN10 := hid ((ho10.below.block _ (lt_of_heap HN9.out)).trans HN9.out)
        clear ho10
        refine hK.out _ _ (by exact HCE.out _ HB10.out) (fun hHeld => ?_)
        clear hK K
        try simp only [Act.put, List.getElem_toArray, List.getElem_cons_succ, List.getElem_cons_zero, List.setIfInBounds_toArray, List.set_cons_zero, List.set_cons_succ]
        refine wpAnyH_ready (rs := [11]) (by kernel_rfl) (by simp) ?_
        refine AllReadyH.cons rfl (fun K hK => ?_) AllReadyH.nil
        go_simp
        refine hK.out _ _ (by exact HCE.out _ (HB10.out.alloc HB10.out.size _)) (fun hHeld => ?_)
        clear hK K
        try simp only [Act.put, List.getElem_toArray, List.getElem_cons_succ, List.getElem_cons_zero, List.setIfInBounds_toArray, List.set_cons_zero, List.set_cons_succ]
        refine wpAnyH_take (i := 13) (v := ?_) rfl (by kernel_rfl) (by kernel_rfl) (by kernel_rfl) (fun _ _ _ h => h) (Or.inl ⟨by rfl, ?_⟩) (by assumption) ?_
        case refine_2 => (intro w hSw; (try dsimp only at hSw); first | (go_simp; done) | (go_simp; with_reducible rfl))
        try simp only [Act.put, List.getElem_toArray, List.getElem_cons_succ, List.getElem_cons_zero, List.setIfInBounds_toArray, List.set_cons_zero, List.set_cons_succ]
        refine wpAnyH_ready (rs := [14]) (by kernel_rfl) (by simp) ?_
        refine AllReadyH.cons rfl (fun K hK => ?_) AllReadyH.nil
        go_simp
        refine hK.out _ _ (by exact HCE.out _ (HB10.out.alloc HB10.out.size _)) (fun hHeld => ?_)
        clear hK K
        try simp only [Act.put, List.getElem_toArray, List.getElem_cons_succ, List.getElem_cons_zero, List.setIfInBounds_toArray, List.set_cons_zero, List.set_cons_succ]
        refine wpAnyH_take (i := 15) (v := ?_) rfl (by kernel_rfl) (by kernel_rfl) (by kernel_rfl) (fun _ _ _ h => h) (Or.inl ⟨by rfl, ?_⟩) (by assumption) ?_
        case refine_2 => (intro w hSw; (try dsimp only at hSw); first | (go_simp; done) | (go_simp; with_reducible rfl))
        try simp only [Act.put, List.getElem_toArray, List.getElem_cons_succ, List.getElem_cons_zero, List.setIfInBounds_toArray, List.set_cons_zero, List.set_cons_succ]
        refine wpAnyH_done (by kernel_rfl) ?_ _
        refine NoPanic.normal ?_
        have en := fun i => cell_of_row W10 wr.heap.size i _ _ (0, 0) HN10.out
        have ln := lt_of_heap HN10.out
        have hcm := HCC.out
        have hbx := hid (show ∀ o, Below W6.heap.size W6 (W10.alloc o) from fun o => HR10.out.alloc HR10.out.size o)
        go_wp2_with fail
        exact ⟨⟨2, by omega, by go_num, hbx.out _⟩, by simp [intOf]⟩
      · go_wp2_with fail
        have hbw : Below wr.heap.size wr (wr.alloc (numO 0)) := (by repeat' (first | exact Below.refl _ _ | with_reducible assumption | omega | with_reducible refine below_put_fut ?_ ?_ _ | with_reducible refine below_to_put ?_ | with_reducible refine Below.alloc ?_ ?_ _ | with_reducible refine Below.fut ?_ ?_ _ | with_reducible refine Below.drew ?_ | with_reducible refine Below.setCell ?_ ?_ _ | with_reducible refine Below.atPut ?_ ?_ _ | (simp [go_sem]; done) | (simp [go_sem]; omega)))
        have hnb : (wr.alloc (numO 0)).heap[wr.heap.size]? = some (numO 0) := heap_alloc_at _ _ _ rfl
        have hbw2 := hid (HBR.out.trans (hbw.mono HBR.out.size))
        have hrw := hid (HRW.out.trans (hbw.mono HRW.out.size))
        refine (arcStop_is (xs := xs) ((HSH.out.on hbw2.out HSH.out.ge).gives (by rw [HM.out]; omega)) (by rw [HM.out]; omega) HSM.out W4.heap.size wr.heap.size ((hrw.out.block _ (lt_of_heap KC0.out)).trans KC0.out) a b hb ((hrw.out.block _ (lt_of_heap KC1.out)).trans KC1.out) hnb).mono ?_
        rintro _ W7 ⟨⟨rv, rfl⟩, hor⟩
        obtain ⟨cc, hcc, hW7, hn7⟩ : ∃ cc : Nat, min (z2 : Int) 1 = (cc : Int) ∧ Below wr.heap.size wr W7 ∧ W7.heap[wr.heap.size]? = some (numO cc) := by
          have hsz : wr.heap.size < (wr.alloc (numO 0)).heap.size := by simp
          rcases hor with ⟨h1, h2⟩ | ⟨h1, h2⟩
          · exact ⟨0, by have := HM.out; have := HZ1.out; have := HZ2.out; omega, hbw.trans (h2.mono (by omega)), (h2.block _ hsz).trans hnb⟩
          · exact ⟨1, by have := HM.out; have := HZ1.out; have := HZ2.out; omega, (Below.atPut hbw (Nat.le_refl _) (numO 1)).trans (h2.mono (by omega)), (h2.block _ hsz).trans (heap_put_at _ _ _ hsz)⟩
        have HCC := hid hcc
        have HN7 := hid hn7
        have HB7 := hid (HBR.out.trans (hW7.mono HBR.out.size))
        have HR7 := hid (HRW.out.trans (hW7.mono HRW.out.size))
        have HBW := hid (show Below W1.heap.size W1 W7.drew from HB7.out.drew)
        have h7l := lt_of_heap hn7
        clear hor hbw hnb hbw2 hrw hcc hn7 hW7 heg1 heg2 heg3 HBR HRW es
        have HR8 := hid (show Below W6.heap.size W6 W7.drew from HR7.out.drew)
        have HN8 := hid (show W7.drew.heap[wr.heap.size]? = some (numO cc) from HN7.out)
        clear HB7 HR7 HN7
        go_wp2_with fail
        refine wp_region_noPanic ?_
        refine wp_region_held_drew (S := (fun Y => (Y.cell? ⟨w.heap.size, 0, none⟩ = some (.int .u64 a) ∧ Y.cell? ⟨w.heap.size, 1, none⟩ = some (.int .u64 b)) ∧ Y.cell? ⟨gr, 1, none⟩ = some (.slice va m vc))) (by kernel_rfl) (by exact HCE.out _ HBW.out) (fun hHeld => ?_)
        refine wpAnyH_take (i := 0) (v := ?_) rfl (by kernel_rfl) (by kernel_rfl) (by kernel_rfl) (fun _ _ _ h => h) (Or.inl ⟨by rfl, ?_⟩) (by assumption) ?_
        case refine_2 => (intro w hSw; (try dsimp only at hSw); first | (go_simp; done) | (go_simp; with_reducible rfl))
        try simp only [Act.put, List.getElem_toArray, List.getElem_cons_succ, List.getElem_cons_zero, List.setIfInBounds_toArray, List.set_cons_zero, List.set_cons_succ]
        refine wpAnyH_take (i := 1) (v := ?_) rfl (by kernel_rfl) (by kernel_rfl) (by kernel_rfl) (fun _ _ _ h => h) (Or.inl ⟨by rfl, ?_⟩) (by assumption) ?_
        case refine_2 => (intro w hSw; (try dsimp only at hSw); first | (go_simp; done) | (go_simp; with_reducible rfl))
        try simp only [Act.put, List.getElem_toArray, List.getElem_cons_succ, List.getElem_cons_zero, List.setIfInBounds_toArray, List.set_cons_zero, List.set_cons_succ]
        refine wpAnyH_take (i := 2) (v := ?_) rfl (by kernel_rfl) (by kernel_rfl) (by kernel_rfl) (fun _ _ _ h => h) (Or.inl ⟨by rfl, ?_⟩) (by assumption) ?_
        case refine_2 => (intro w hSw; (try dsimp only at hSw); first | (go_simp; done) | (go_simp; with_reducible rfl))
        try simp only [Act.put, List.getElem_toArray, List.getElem_cons_succ, List.getElem_cons_zero, List.setIfInBounds_toArray, List.set_cons_zero, List.set_cons_succ]
        refine wpAnyH_take (i := 3) (v := ?_) rfl (by kernel_rfl) (by kernel_rfl) (by kernel_rfl) (fun _ _ _ h => h) (Or.inl ⟨by rfl, ?_⟩) (by assumption) ?_
        case refine_2 => (intro w hSw; (try dsimp only at hSw); first | (go_simp; done) | (go_simp; with_reducible rfl))
        try simp only [Act.put, List.getElem_toArray, List.getElem_cons_succ, List.getElem_cons_zero, List.setIfInBounds_toArray, List.set_cons_zero, List.set_cons_succ]
        refine wpAnyH_take (i := 4) (v := ?_) rfl (by kernel_rfl) (by kernel_rfl) (by kernel_rfl) (fun _ _ _ h => h) (Or.inl ⟨by rfl, ?_⟩) (by assumption) ?_
        case refine_2 => (intro w hSw; (try dsimp only at hSw); first | (go_simp; done) | (go_simp; with_reducible rfl))
        try simp only [Act.put, List.getElem_toArray, List.getElem_cons_succ, List.getElem_cons_zero, List.setIfInBounds_toArray, List.set_cons_zero, List.set_cons_succ]
        refine wpAnyH_take (i := 5) (v := ?_) rfl (by kernel_rfl) (by kernel_rfl) (by kernel_rfl) (fun _ _ _ h => h) (Or.inl ⟨by rfl, ?_⟩) (by assumption) ?_
        case refine_2 => (intro w hSw; (try dsimp only at hSw); first | (go_simp; done) | (go_simp; with_reducible rfl))
        try simp only [Act.put, List.getElem_toArray, List.getElem_cons_succ, List.getElem_cons_zero, List.setIfInBounds_toArray, List.set_cons_zero, List.set_cons_succ]
        refine wpAnyH_take (i := 6) (v := ?_) rfl (by kernel_rfl) (by kernel_rfl) (by kernel_rfl) (fun _ _ _ h => h) (Or.inl ⟨by rfl, ?_⟩) (by assumption) ?_
        case refine_2 => (intro w hSw; (try dsimp only at hSw); first | (go_simp; done) | (go_simp; with_reducible rfl))
        try simp only [Act.put, List.getElem_toArray, List.getElem_cons_succ, List.getElem_cons_zero, List.setIfInBounds_toArray, List.set_cons_zero, List.set_cons_succ]
        refine wpAnyH_take (i := 8) (v := ?_) rfl (by kernel_rfl) (by kernel_rfl) (by kernel_rfl) (fun _ _ _ h => h) (Or.inl ⟨by rfl, ?_⟩) (by assumption) ?_
        case refine_2 => (intro w hSw; (try dsimp only at hSw); first | (go_simp; done) | (go_simp; with_reducible rfl))
        try simp only [Act.put, List.getElem_toArray, List.getElem_cons_succ, List.getElem_cons_zero, List.setIfInBounds_toArray, List.set_cons_zero, List.set_cons_succ]
        refine wpAnyH_take (i := 9) (v := ?_) rfl (by kernel_rfl) (by kernel_rfl) (by kernel_rfl) (fun _ _ _ h => h) (Or.inl ⟨by rfl, ?_⟩) (by assumption) ?_
        case refine_2 => (intro w hSw; (try dsimp only at hSw); first | (go_simp; done) | (go_simp; with_reducible rfl))
        try simp only [Act.put, List.getElem_toArray, List.getElem_cons_succ, List.getElem_cons_zero, List.setIfInBounds_toArray, List.set_cons_zero, List.set_cons_succ]
        refine wpAnyH_take (i := 12) (v := ?_) rfl (by kernel_rfl) (by kernel_rfl) (by kernel_rfl) (fun _ _ _ h => h) (Or.inl ⟨by rfl, ?_⟩) (by assumption) ?_
        case refine_2 => (intro w hSw; (try dsimp only at hSw); first | (go_simp; done) | (go_simp; with_reducible rfl))
        try simp only [Act.put, List.getElem_toArray, List.getElem_cons_succ, List.getElem_cons_zero, List.setIfInBounds_toArray, List.set_cons_zero, List.set_cons_succ]
        refine wpAnyH_ready (rs := [7]) (by kernel_rfl) (by simp) ?_
        refine AllReadyH.cons rfl (fun K hK => ?_) AllReadyH.nil
        go_simp
        go_at_call 50
        refine (refRange_is _ gr 200 _ xs m HM.out (by omega) ((HBW.out.block _ (lt_of_heap HG.out)).trans HG.out) (HSR.out.heap HBW.out) f t).mono ?_
        rintro _ W9 ⟨v9, rfl, ho9⟩
        obtain ⟨a9, c9, rfl⟩ := ho9.form
        rw [HZ1.out]
        have HB9 := hid (HBW.out.trans (ho9.below.mono HBW.out.size))
        have HR9 := hid (HR8.out.trans (ho9.below.mono HR8.out.size))
        have HN9 := hid ((ho9.below.block _ (lt_of_heap HN8.out)).trans HN8.out)
        clear ho9
        refine hK.out _ _ (by exact HCE.out _ HB9.out) (fun hHeld => ?_)
        clear hK K
        try simp only [Act.put, List.getElem_toArray, List.getElem_cons_succ, List.getElem_cons_zero, List.setIfInBounds_toArray, List.set_cons_zero, List.set_cons_succ]
        refine wpAnyH_ready (rs := [10]) (by kernel_rfl) (by simp) ?_
        refine AllReadyH.cons rfl (fun K hK => ?_) AllReadyH.nil
        go_simp
        go_at_call 41
        refine (refArc_is _ gr 200 _ xs m HM.out (by omega) HSM.out ((HB9.out.block _ (lt_of_heap HG.out)).trans HG.out) (HSR.out.heap HB9.out) a b ha ha2 hb hb2).mono ?_
        rintro _ W10 ⟨v10, rfl, ho10⟩
        obtain ⟨a10, c10, rfl⟩ := ho10.form
        rw [HZ2.out]
        have HB10 := hid (HB9.out.trans (ho10.below.mono HB9.out.size))
        have HR10 := hid (HR9.out.trans (ho10.below.mono HR9.out.size))
        have HN10 := hid ((ho10.below.block _ (lt_of_heap HN9.out)).trans HN9.out)
        clear ho10
        refine hK.out _ _ (by exact HCE.out _ HB10.out) (fun hHeld => ?_)
        clear hK K
        try simp only [Act.put, List.getElem_toArray, List.getElem_cons_succ, List.getElem_cons_zero, List.setIfInBounds_toArray, List.set_cons_zero, List.set_cons_succ]
        refine wpAnyH_ready (rs := [11]) (by kernel_rfl) (by simp) ?_
        refine AllReadyH.cons rfl (fun K hK => ?_) AllReadyH.nil
        go_simp
        refine hK.out _ _ (by exact HCE.out _ (HB10.out.alloc HB10.out.size _)) (fun hHeld => ?_)
        clear hK K
        try simp only [Act.put, List.getElem_toArray, List.getElem_cons_succ, List.getElem_cons_zero, List.setIfInBounds_toArray, List.set_cons_zero, List.set_cons_succ]
        refine wpAnyH_take (i := 13) (v := ?_) rfl (by kernel_rfl) (by kernel_rfl) (by kernel_rfl) (fun _ _ _ h => h) (Or.inl ⟨by rfl, ?_⟩) (by assumption) ?_
        case refine_2 => (intro w hSw; (try dsimp only at hSw); first | (go_simp; done) | (go_simp; with_reducible rfl))
        try simp only [Act.put, List.getElem_toArray, List.getElem_cons_succ, List.getElem_cons_zero, List.setIfInBounds_toArray, List.set_cons_zero, List.set_cons_succ]
        refine wpAnyH_ready (rs := [14]) (by kernel_rfl) (by simp) ?_
        refine AllReadyH.cons rfl (fun K hK => ?_) AllReadyH.nil
        go_simp
        refine hK.out _ _ (by exact HCE.out _ (HB10.out.alloc HB10.out.size _)) (fun hHeld => ?_)
        clear hK K
        try simp only [Act.put, List.getElem_toArray, List.getElem_cons_succ, List.getElem_cons_zero, List.setIfInBounds_toArray, List.set_cons_zero, List.set_cons_succ]
        refine wpAnyH_take (i := 15) (v := ?_) rfl (by kernel_rfl) (by kernel_rfl) (by kernel_rfl) (fun _ _ _ h => h) (Or.inl ⟨by rfl, ?_⟩) (by assumption) ?_
        case refine_2 => (intro w hSw; (try dsimp only at hSw); first | (go_simp; done) | (go_simp; with_reducible rfl))
        try simp only [Act.put, List.getElem_toArray, List.getElem_cons_succ, List.getElem_cons_zero, List.setIfInBounds_toArray, List.set_cons_zero, List.set_cons_succ]
        refine wpAnyH_done (by kernel_rfl) ?_ _
        refine NoPanic.normal ?_
        have en := fun i => cell_of_row W10 wr.heap.size i _ _ (0, 0) HN10.out
        have ln := lt_of_heap HN10.out
        have hcm := HCC.out
        have hbx := hid (show ∀ o, Below W6.heap.size W6 (W10.alloc o) from fun o => HR10.out.alloc HR10.out.size o)
        go_wp2_with fail
        exact ⟨⟨3, by omega, by go_num, hbx.out _⟩, by simp [intOf]⟩
    · obtain rfl : k = 3 := by omega
      have hbw : Below w.heap.size w wr := HSH.out.1.trans (HBR.out.mono HSH.out.ge)
      go_wp2_with fail
      go_ret
      exact .mk rfl hbw
theorem walkStops_walk (W : World) (sl : Value) (l : List It) (hl : ItemsAt W sl l) (f : ByteArray) (hf : f.size ≤ maxLen) (t : ByteArray) (ht : t.size ≤ maxLen) (a : Int) (wa : (Lit.int .u64 a).wf = true) (b : Int) (wb : (Lit.int .u64 b).wf = true) :
    Calls Try.prog 11 #[sl, .string f, .string t, .agg #[.int .u64 a, .int .u64 b]] W (Makes (.bool true) W) := by
  have hs := hl.src
  have ha := U64.bd wa
  have hb := U64.bd wb
  obtain ⟨n, hn⟩ : ∃ n, l.length = n := ⟨_, rfl⟩
  rw [hn] at hs
  obtain ⟨ao, cap, rfl⟩ := hs.slice_of
  clear wa wb hl
  rcases Nat.lt_or_ge 60 n with c | c
  · have d1 : decide ((60 : Int) < n) = true := by simp; omega
    clear c hn hs ha hb hf ht
    go_enter Try.func11, Try.ntmps11
    go_wp2_with (first | (go_at_call 33; ((with_reducible refine (wkAlive_any _).mono ?_)); rintro _ _ ⟨rfl, u, rfl⟩; (try (rw [Fut.put_self u (by first | assumption | (simp [go_sem]; done) | (simp [go_sem]; omega))]))) | (((with_reducible refine wp_region_fut_lit (by kernel_rfl) (by kernel_rfl) ?_)); (repeat (go_big_quiet_step ((first | (go_at_call 33; with_reducible exact Calls.fut_of (wkAlive_any _)))))); ((with_reducible refine wpQuiet_nil ?_)); rintro _ ⟨u, rfl⟩; (try (rw [Fut.put_self u (by first | assumption | (simp [go_sem]; done) | (simp [go_sem]; omega))]))))
    go_ret; exact .mk (by first | rfl | (simp; done) | (simp; omega)) (by repeat' (first | exact Below.refl _ _ | with_reducible assumption | omega | with_reducible refine below_put_fut ?_ ?_ _ | with_reducible refine below_to_put ?_ | with_reducible refine Below.alloc ?_ ?_ _ | with_reducible refine Below.fut ?_ ?_ _ | with_reducible refine Below.drew ?_ | with_reducible refine Below.setCell ?_ ?_ _ | with_reducible refine Below.atPut ?_ ?_ _ | (simp [go_sem]; done) | (simp [go_sem]; omega)))
  have d1 : decide ((60 : Int) < n) = false := by simp; omega
  rcases Nat.lt_or_ge 40 f.size with c2 | c2
  · have d2 : decide ((40 : Int) < f.size) = true := by simp; omega
    clear c c2 hn hs ha hb hf ht
    go_enter Try.func11, Try.ntmps11
    go_wp2_with (first | (go_at_call 33; ((with_reducible refine (wkAlive_any _).mono ?_)); rintro _ _ ⟨rfl, u, rfl⟩; (try (rw [Fut.put_self u (by first | assumption | (simp [go_sem]; done) | (simp [go_sem]; omega))]))) | (((with_reducible refine wp_region_fut_lit (by kernel_rfl) (by kernel_rfl) ?_)); (repeat (go_big_quiet_step ((first | (go_at_call 33; with_reducible exact Calls.fut_of (wkAlive_any _)))))); ((with_reducible refine wpQuiet_nil ?_)); rintro _ ⟨u, rfl⟩; (try (rw [Fut.put_self u (by first | assumption | (simp [go_sem]; done) | (simp [go_sem]; omega))]))))
    go_ret; exact .mk (by first | rfl | (simp; done) | (simp; omega)) (by repeat' (first | exact Below.refl _ _ | with_reducible assumption | omega | with_reducible refine below_put_fut ?_ ?_ _ | with_reducible refine below_to_put ?_ | with_reducible refine Below.alloc ?_ ?_ _ | with_reducible refine Below.fut ?_ ?_ _ | with_reducible refine Below.drew ?_ | with_reducible refine Below.setCell ?_ ?_ _ | with_reducible refine Below.atPut ?_ ?_ _ | (simp [go_sem]; done) | (simp [go_sem]; omega)))
  have d2 : decide ((40 : Int) < f.size) = false := by simp; omega
  rcases Nat.lt_or_ge 40 t.size with c3 | c3
  · have d3 : decide ((40 : Int) < t.size) = true := by simp; omega
    clear c c2 c3 hn hs ha hb hf ht
    go_enter Try.func11, Try.ntmps11
    go_wp2_with (first | (go_at_call 33; ((with_reducible refine (wkAlive_any _).mono ?_)); rintro _ _ ⟨rfl, u, rfl⟩; (try (rw [Fut.put_self u (by first | assumption | (simp [go_sem]; done) | (simp [go_sem]; omega))]))) | (((with_reducible refine wp_region_fut_lit (by kernel_rfl) (by kernel_rfl) ?_)); (repeat (go_big_quiet_step ((first | (go_at_call 33; with_reducible exact Calls.fut_of (wkAlive_any _)))))); ((with_reducible refine wpQuiet_nil ?_)); rintro _ ⟨u, rfl⟩; (try (rw [Fut.put_self u (by first | assumption | (simp [go_sem]; done) | (simp [go_sem]; omega))]))))
    go_ret; exact .mk (by first | rfl | (simp; done) | (simp; omega)) (by repeat' (first | exact Below.refl _ _ | with_reducible assumption | omega | with_reducible refine below_put_fut ?_ ?_ _ | with_reducible refine below_to_put ?_ | with_reducible refine Below.alloc ?_ ?_ _ | with_reducible refine Below.fut ?_ ?_ _ | with_reducible refine Below.drew ?_ | with_reducible refine Below.setCell ?_ ?_ _ | with_reducible refine Below.atPut ?_ ?_ _ | (simp [go_sem]; done) | (simp [go_sem]; omega)))
  exact walkStops_good W _ l n hn c hs f t c2 c3 a b ha.1 (by omega) hb.1 (by omega)
end Go.Proofs.Ythknenhcnpgkcaa
