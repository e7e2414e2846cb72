/- WalkArcs answers true for every list of items, every arc and every point: the walk. -/
import Derived.Test.YthknenhcnpgkcaaMv
import Derived.Test.YthknenhcnpgkcaaMi
import Derived.Test.YthknenhcnpgkcaaMb
import Derived.Test.YthknenhcnpgkcaaMt
import Derived.Test.YthknenhcnpgkcaaWkRgW
import Derived.Test.YthknenhcnpgkcaaMd
import Derived.Deep.RegionHeld3
namespace Go.Proofs.Ythknenhcnpgkcaa
open Go.RowKit Go.Shelf
set_option linter.unusedVariables false
set_option linter.unusedSimpArgs false
theorem alloc4 (W : World) (o0 o1 o2 o3 : Obj) : ((((W.alloc o0).alloc o1).alloc o2).alloc o3).heap[W.heap.size]? = some o0 ∧ ((((W.alloc o0).alloc o1).alloc o2).alloc o3).heap[W.heap.size + 1]? = some o1 ∧ ((((W.alloc o0).alloc o1).alloc o2).alloc o3).heap[W.heap.size + 1 + 1]? = some o2 ∧ ((((W.alloc o0).alloc o1).alloc o2).alloc o3).heap[W.heap.size + 1 + 1 + 1]? = some o3 :=
  ⟨(heap_alloc_other _ _ _ (by simp only [World.size_alloc]; omega)).trans ((heap_alloc_other _ _ _ (by simp only [World.size_alloc]; omega)).trans ((heap_alloc_other _ _ _ (by simp only [World.size_alloc]; omega)).trans (heap_alloc_at _ _ _ (by simp)))), (heap_alloc_other _ _ _ (by simp only [World.size_alloc]; omega)).trans ((heap_alloc_other _ _ _ (by simp only [World.size_alloc]; omega)).trans (heap_alloc_at _ _ _ (by simp))), (heap_alloc_other _ _ _ (by simp only [World.size_alloc]; omega)).trans (heap_alloc_at _ _ _ (by simp)), heap_alloc_at _ _ _ (by simp)⟩
theorem inB_inArc (a b x : Int) : inB a b x = inArc a b x := by
  unfold inB inArc
  rw [IntKind.wrap_u64, IntKind.wrap_u64]
  congr 1
/-- What Split gives: its first part, its second part, whether it may be. -/
def splitR (a b x : Int) : (Int × Int) × (Int × Int) × Bool := if splitB a b x = true then ((a, x), (x, b), true) else ((0, 0), (0, 0), false)
theorem split_any (a b x : Int) (p q : Int × Int) (ok : Bool) (hr : splitR a b x = (p, q, ok)) (w : World) :
    Calls Try.prog 45 #[.agg #[.int .u64 a, .int .u64 b], .int .u64 x] w (Makes (.tuple #[.agg #[.int .u64 p.1, .int .u64 p.2], .agg #[.int .u64 q.1, .int .u64 q.2], .bool ok]) w) := by
  unfold splitR at hr
  by_cases h : splitB a b x = true
  · rw [if_pos h] at hr
    obtain ⟨rfl, h2⟩ := Prod.mk.inj hr
    obtain ⟨rfl, rfl⟩ := Prod.mk.inj h2
    exact split_yes a b x h w
  · rw [if_neg h] at hr
    obtain ⟨rfl, h2⟩ := Prod.mk.inj hr
    obtain ⟨rfl, rfl⟩ := Prod.mk.inj h2
    exact split_no a b x (by simpa using h) w
theorem splitR_true {a b x : Int} {p q : Int × Int} (h : splitR a b x = (p, q, true)) : p = (a, x) ∧ q = (x, b) ∧ x ≠ a ∧ inArc a b x = true := by
  unfold splitR at h
  by_cases c : splitB a b x = true
  · rw [if_pos c] at h
    obtain ⟨rfl, h2⟩ := Prod.mk.inj h
    obtain ⟨rfl, _⟩ := Prod.mk.inj h2
    unfold splitB at c
    rw [inB_inArc] at c
    simp only [Bool.and_eq_true, Bool.not_eq_true', beq_eq_false_iff_ne] at c
    exact ⟨rfl, rfl, c.1, c.2⟩
  · rw [if_neg c] at h
    obtain ⟨_, h2⟩ := Prod.mk.inj h
    obtain ⟨_, h3⟩ := Prod.mk.inj h2
    cases h3
section
variable {B0 : Nat} {w0 : World} {most : Int} {xs : List It} {g : Nat} {W : World}
theorem sh_collectArc99 (h : Sh B0 w0 most xs g W) (hn : xs.length ≤ 99) {a b : Int} (ha : 0 ≤ a) (ha2 : a < 18446744073709551616) (hb : 0 ≤ b) (hb2 : b < 18446744073709551616) (s t : Nat) (ht : t = s + 1) (hS : W.heap[s]? = some (.cells #[.pointer (some ⟨g, 0, none⟩)] 23)) (hab : W.heap[t]? = some (.cells #[.int .u64 a, .int .u64 b] 38)) (n : Nat) (hl : (arcL a b xs).length = n) :
    Calls Try.prog 46 #[.func (.func 80) #[] #[.pointer (some ⟨s, 0, none⟩), .pointer (some ⟨t, 0, none⟩)], .int .i64 99] W fun e W' => ∃ ao c, e = .returned (.slice ao n c) ∧ Out W (arcL a b xs) (.slice ao n c) W' := by
  subst ht
  have hle := arcL_len_le ha ha2 hb hb2 xs
  refine (sh_collectArc h (by omega) ha ha2 hb hb2 s hS hab 99 (by omega) (by omega)).mono ?_
  rintro _ W' ⟨ao, k, c, rfl, hr, hk, hb', hf⟩
  rw [List.take_of_length_le (by omega)] at hr
  obtain rfl : k = n := by omega
  exact ⟨ao, c, rfl, ⟨⟨ao, c, by rw [hl]⟩, by rw [hl]; exact hr, hb', hf⟩⟩
end
set_option maxRecDepth 100000 in
set_option maxHeartbeats 4000000 in
theorem walkArcs_good (w : World) (sl : Value) (l : List It) (n : Nat) (hl : l.length = n) (hn : n ≤ 60) (hs : Src w 2 sl n (flat l)) (a b : Int) (ha : 0 ≤ a) (ha2 : a < 18446744073709551616) (hb : 0 ≤ b) (hb2 : b < 18446744073709551616) (x : Int) (hx : 0 ≤ x) (hx2 : x < 18446744073709551616) :
    Calls Try.prog 9 #[sl, .agg #[.int .u64 a, .int .u64 b], .int .u64 x] w (Makes (.bool true) w) := by
  obtain ⟨ao, cap, rfl⟩ := hs.slice_of
  have d1 : decide ((60 : Int) < n) = false := by simp; omega
  have HS := hid hs
  have HL := hid hl
  clear hs hl
  go_enter Try.func9, Try.ntmps9
  go_wp2_with (first | (go_at_call 33; ((with_reducible refine (wkAlive_any _).mono ?_)); rintro _ _ ⟨rfl, u, rfl⟩; (try (rw [Fut.put_self u (by first | assumption | (simp [go_sem]; done) | (simp [go_sem]; omega))]))) | (((with_reducible refine wp_region_fut_lit (by kernel_rfl) (by kernel_rfl) ?_)); (repeat (go_big_quiet_step ((first | (go_at_call 33; with_reducible exact Calls.fut_of (wkAlive_any _)))))); ((with_reducible refine wpQuiet_nil ?_)); rintro _ ⟨u, rfl⟩; (try (rw [Fut.put_self u (by first | assumption | (simp [go_sem]; done) | (simp [go_sem]; omega))]))))
  clear d1
  have hbX : Below w.heap.size w u.val := (by repeat' (first | exact Below.refl _ _ | with_reducible assumption | omega | with_reducible refine below_put_fut ?_ ?_ _ | with_reducible refine below_to_put ?_ | with_reducible refine Below.alloc ?_ ?_ _ | with_reducible refine Below.fut ?_ ?_ _ | with_reducible refine Below.drew ?_ | with_reducible refine Below.setCell ?_ ?_ _ | with_reducible refine Below.atPut ?_ ?_ _ | (simp [go_sem]; done) | (simp [go_sem]; omega)))
  have hzX := hbX.size
  have hc7 := hid ((u.below.block w.heap.size (by simp)).trans (heap_alloc_at w (.cells #[.int .u64 a, .int .u64 b] 38) _ rfl))
  generalize u.val = X at hbX hzX hc7 ⊢
  refine (filled_is X _ l n HL.out hn (HS.out.heap hbX)).mono ?_
  rintro _ W1 ⟨gs, gr, rfl, hb1⟩
  have hcW : W1.heap[w.heap.size]? = some (.cells #[.int .u64 a, .int .u64 b] 38) := (hb1.1.block _ (lt_of_heap hc7.out)).trans hc7.out
  have H1 := hid (hb1.base hbX hzX).sh
  have hxl := fillL_len l
  generalize fillL l = xs at H1 hxl
  obtain ⟨m, hm⟩ : ∃ m, xs.length = m := ⟨_, rfl⟩
  have HM := hid hm
  rw [hm, HL.out] at hxl
  have hm60 : m ≤ 60 := by omega
  have HRS := hid (sh_rises H1.out)
  have e1 := fun i => cell_of_row W1 w.heap.size i _ _ (0, 0) hcW
  have l1 := lt_of_heap hcW
  have HC := hid hcW
  obtain ⟨na, hna⟩ : ∃ na, (arcL a b xs).length = na := ⟨_, rfl⟩
  have HNA := hid hna
  have hna60 : na ≤ 60 := by rw [← hna]; have := arcL_len_le ha ha2 hb hb2 xs; omega
  clear hb1 hbX hzX HS HL hxl hm hc7 hcW hna
  go_wp2_with fail
  obtain ⟨p, q, ok, hsp⟩ : ∃ p q ok, splitR a b x = (p, q, ok) := ⟨_, _, _, rfl⟩
  (((with_reducible refine (split_any a b x p q ok hsp _).mono ?_)); rintro _ _ ⟨rfl, u2, rfl⟩)
  have HSP := hid hsp
  have H2 := hid (H1.out.on u2.below H1.out.ge)
  have hc2 := (u2.below.block _ (lt_of_heap HC.out)).trans HC.out
  generalize u2.val = W2 at H2 hc2 ⊢
  have e2 := fun i => cell_of_row W2 w.heap.size i _ _ (0, 0) hc2
  have l2 := lt_of_heap hc2
  have HC2 := hid hc2
  obtain ⟨p1, p2⟩ := p
  obtain ⟨q1, q2⟩ := q
  clear H1 HC e1 l1 hc2 hsp
  go_wp2_with fail
  (((with_reducible refine (walkArc_is (some ⟨gs, 0, none⟩) a b _).mono ?_)); rintro _ _ ⟨rfl, rfl⟩)
  have hw := H2.out.1.size
  obtain ⟨k0, k1, k2, k3⟩ := alloc4 W2 (.cells #[.int .u64 p1, .int .u64 p2] 38) (.cells #[.int .u64 q1, .int .u64 q2] 38) (.cells #[.pointer (some ⟨gs, 0, none⟩)] 23) (.cells #[.int .u64 a, .int .u64 b] 38)
  have hb3 : Below W2.heap.size W2 ((((W2.alloc (.cells #[.int .u64 p1, .int .u64 p2] 38)).alloc (.cells #[.int .u64 q1, .int .u64 q2] 38)).alloc (.cells #[.pointer (some ⟨gs, 0, none⟩)] 23)).alloc (.cells #[.int .u64 a, .int .u64 b] 38)) := (by repeat' (first | exact Below.refl _ _ | with_reducible assumption | omega | with_reducible refine below_put_fut ?_ ?_ _ | with_reducible refine below_to_put ?_ | with_reducible refine Below.alloc ?_ ?_ _ | with_reducible refine Below.fut ?_ ?_ _ | with_reducible refine Below.drew ?_ | with_reducible refine Below.setCell ?_ ?_ _ | with_reducible refine Below.atPut ?_ ?_ _ | (simp [go_sem]; done) | (simp [go_sem]; omega)))
  have H3 := hid (H2.out.on hb3 H2.out.ge)
  have hc3 := (hb3.block _ (lt_of_heap HC2.out)).trans HC2.out
  simp only [World.size_alloc] at k2 k3 ⊢
  generalize ((((W2.alloc (.cells #[.int .u64 p1, .int .u64 p2] 38)).alloc (.cells #[.int .u64 q1, .int .u64 q2] 38)).alloc (.cells #[.pointer (some ⟨gs, 0, none⟩)] 23)).alloc (.cells #[.int .u64 a, .int .u64 b] 38)) = W3 at k0 k1 k2 k3 hb3 H3 hc3 ⊢
  generalize W2.heap.size = B at k0 k1 k2 k3 ⊢
  have K0 := hid k0
  have K1 := hid k1
  have K2 := hid k2
  have K3 := hid k3
  have HC3 := hid hc3
  clear H2 HC2 e2 l2 hb3 k0 k1 k2 k3 hc3
  go_wp2_with fail
  refine (sh_collectArc99 H3.out (by rw [HM.out]; omega) ha ha2 hb hb2 (B + 1 + 1) _ rfl K2.out K3.out na HNA.out).mono ?_
  rintro _ W4 ⟨a4, c4, rfl, ho4⟩
  have H4 := hid (H3.out.on ho4.below H3.out.ge)
  have hc4 := (ho4.below.block _ (lt_of_heap HC3.out)).trans HC3.out
  have K04 := hid ((ho4.below.block _ (lt_of_heap K0.out)).trans K0.out)
  have K14 := hid ((ho4.below.block _ (lt_of_heap K1.out)).trans K1.out)
  have HO4 := hid ho4.row
  have e4 := fun i => cell_of_row W4 w.heap.size i _ _ (0, 0) hc4
  have l4 := lt_of_heap hc4
  clear H3 HC3 K0 K1 K2 K3 ho4 hc4
  go_wp2_with fail
  (((with_reducible refine (sh_count H4.out (by rw [HM.out]; omega) ha ha2 hb hb2 na HNA.out).mono ?_)); rintro _ _ ⟨rfl, u5, rfl⟩)
  have H5 := hid (H4.out.on u5.below H4.out.ge)
  have K05 := hid ((u5.below.block _ (lt_of_heap K04.out)).trans K04.out)
  have K15 := hid ((u5.below.block _ (lt_of_heap K14.out)).trans K14.out)
  have HO5 := hid (HO4.out.keep fun k hk => u5.below.block k (HO4.out.lt hk))
  generalize u5.val = W5 at H5 K05 K15 HO5 ⊢
  have hbw := H5.out.1
  clear H4 K04 K14 HO4 e4 l4
  cases ok with
  | false =>
    go_wp2_with fail
    go_ret
    exact .mk rfl hbw
  | true =>
    obtain ⟨h1, h2, h3, h4⟩ := splitR_true HSP.out
    obtain ⟨rfl, rfl⟩ := Prod.mk.inj h1.symm
    obtain ⟨rfl, rfl⟩ := Prod.mk.inj h2.symm
    have HSL := hid (arcL_split ha ha2 hb hb2 hx hx2 h4 h3 HRS.out)
    clear h1 h2 h3 h4
    obtain ⟨n1, hn1⟩ : ∃ n1, (arcL a x xs).length = n1 := ⟨_, rfl⟩
    obtain ⟨n2, hn2⟩ : ∃ n2, (arcL x b xs).length = n2 := ⟨_, rfl⟩
    have h12 : n1 + n2 = na := by rw [← hn1, ← hn2, ← HNA.out, ← HSL.out, List.length_append]
    have HN1 := hid hn1
    have HN2 := hid hn2
    have H12 := hid h12
    have hs12 : n1 + n2 ≤ 60 := by omega
    have ew : IntKind.i64.wrap ((n1 : Int) + (n2 : Int)) = (na : Int) := by rw [show (n1 : Int) + (n2 : Int) = (na : Int) by omega]; exact IntWalk.i64_in _ (by omega)
    have lB0 := lt_of_heap K05.out
    have lB1 := lt_of_heap K15.out
    have HCE := hid (fun (Y : World) (hY : Below W5.heap.size W5 Y) => show Y.cell? ⟨B, 0, none⟩ = some (.int .u64 a) ∧ Y.cell? ⟨B, 1, none⟩ = some (.int .u64 x) ∧ Y.cell? ⟨B + 1, 0, none⟩ = some (.int .u64 x) ∧ Y.cell? ⟨B + 1, 1, none⟩ = some (.int .u64 b) from
      ⟨(hY.cell lB0).trans (cell_of_row W5 B 0 _ _ (0, 0) K05.out), (hY.cell lB0).trans (cell_of_row W5 B 1 _ _ (0, 0) K05.out), (hY.cell lB1).trans (cell_of_row W5 (B + 1) 0 _ _ (0, 0) K15.out), (hY.cell lB1).trans (cell_of_row W5 (B + 1) 1 _ _ (0, 0) K15.out)⟩)
    clear hn1 hn2 h12
    go_wp2_with fail
    first | (go_region_held3 (fun Y => Y.cell? ⟨B, 0, none⟩ = some (.int .u64 a) ∧ Y.cell? ⟨B, 1, none⟩ = some (.int .u64 x) ∧ Y.cell? ⟨B + 1, 0, none⟩ = some (.int .u64 x) ∧ Y.cell? ⟨B + 1, 1, none⟩ = some (.int .u64 b)) ((refine HCE.out _ ?_; first | exact HB10.out | exact HB9.out | exact HB7.out | ((repeat' (first | exact Below.refl _ _ | with_reducible assumption | omega | with_reducible refine below_put_fut ?_ ?_ _ | with_reducible refine below_to_put ?_ | with_reducible refine Below.alloc ?_ ?_ _ | with_reducible refine Below.fut ?_ ?_ _ | with_reducible refine Below.drew ?_ | with_reducible refine Below.setCell ?_ ?_ _ | with_reducible refine Below.atPut ?_ ?_ _ | (simp [go_sem]; done) | (simp [go_sem]; omega))); done) | (refine HB10.out.trans (Below.mono (show Below W10.heap.size W10 _ from ?_) HB10.out.size); ((repeat' (first | exact Below.refl _ _ | with_reducible assumption | omega | with_reducible refine below_put_fut ?_ ?_ _ | with_reducible refine below_to_put ?_ | with_reducible refine Below.alloc ?_ ?_ _ | with_reducible refine Below.fut ?_ ?_ _ | with_reducible refine Below.drew ?_ | with_reducible refine Below.setCell ?_ ?_ _ | with_reducible refine Below.atPut ?_ ?_ _ | (simp [go_sem]; done) | (simp [go_sem]; omega))); done)) | (refine HB7.out.trans (Below.mono (show Below W7.heap.size W7 _ from ?_) HB7.out.size); ((repeat' (first | exact Below.refl _ _ | with_reducible assumption | omega | with_reducible refine below_put_fut ?_ ?_ _ | with_reducible refine below_to_put ?_ | with_reducible refine Below.alloc ?_ ?_ _ | with_reducible refine Below.fut ?_ ?_ _ | with_reducible refine Below.drew ?_ | with_reducible refine Below.setCell ?_ ?_ _ | with_reducible refine Below.atPut ?_ ?_ _ | (simp [go_sem]; done) | (simp [go_sem]; omega))); done)))) (first
      | (go_at_call 47; ((with_reducible refine (walkArc_is (some ⟨gs, 0, none⟩) a x _).mono ?_)); rintro _ _ ⟨rfl, rfl⟩)
      | (go_at_call 47; ((with_reducible refine (walkArc_is (some ⟨gs, 0, none⟩) x b _).mono ?_)); rintro _ _ ⟨rfl, rfl⟩)
      | (go_at_call 46; refine (sh_collectArc99 (H5.out.on HB7.out H5.out.ge |>.on (W' := ((W7.alloc (.cells #[.pointer (some ⟨gs, 0, none⟩)] 23)).alloc (.cells #[.int .u64 x, .int .u64 b] 38))) (by repeat' (first | exact Below.refl _ _ | with_reducible assumption | omega | with_reducible refine below_put_fut ?_ ?_ _ | with_reducible refine below_to_put ?_ | with_reducible refine Below.alloc ?_ ?_ _ | with_reducible refine Below.fut ?_ ?_ _ | with_reducible refine Below.drew ?_ | with_reducible refine Below.setCell ?_ ?_ _ | with_reducible refine Below.atPut ?_ ?_ _ | (simp [go_sem]; done) | (simp [go_sem]; omega))) HG7.out) (by rw [HM.out]; omega) hx hx2 hb hb2 W7.heap.size _ rfl (by repeat' (first | rfl | assumption | (with_reducible refine (heap_drew_eq _ _).trans ?_) | (refine (Fut.heap _ _ ?_).trans ?_ ; focus (first | assumption | omega | (simp [go_sem]; done) | (simp [go_sem]; omega))) | (refine (heap_put_at _ _ _ ?_).trans ?_ ; focus (first | assumption | omega | (simp [go_sem]; done) | (simp [go_sem]; omega))) | (refine (heap_put_other _ _ _ _ ?_).trans ?_ ; focus (first | assumption | omega | (simp [go_sem]; done) | (simp [go_sem]; omega))) | (refine (heap_alloc_other _ _ _ ?_).trans ?_ ; focus (first | assumption | omega | (simp [go_sem]; done) | (simp [go_sem]; omega))) | (refine (heap_alloc_at _ _ _ ?_).trans ?_ ; focus (first | assumption | omega | (simp [go_sem]; done) | (simp [go_sem]; omega))) | (simp [go_sem]; done) | (simp [go_sem]; omega))) (by repeat' (first | rfl | assumption | (with_reducible refine (heap_drew_eq _ _).trans ?_) | (refine (Fut.heap _ _ ?_).trans ?_ ; focus (first | assumption | omega | (simp [go_sem]; done) | (simp [go_sem]; omega))) | (refine (heap_put_at _ _ _ ?_).trans ?_ ; focus (first | assumption | omega | (simp [go_sem]; done) | (simp [go_sem]; omega))) | (refine (heap_put_other _ _ _ _ ?_).trans ?_ ; focus (first | assumption | omega | (simp [go_sem]; done) | (simp [go_sem]; omega))) | (refine (heap_alloc_other _ _ _ ?_).trans ?_ ; focus (first | assumption | omega | (simp [go_sem]; done) | (simp [go_sem]; omega))) | (refine (heap_alloc_at _ _ _ ?_).trans ?_ ; focus (first | assumption | omega | (simp [go_sem]; done) | (simp [go_sem]; omega))) | (simp [go_sem]; done) | (simp [go_sem]; omega))) n2 HN2.out).mono ?_; rintro _ W9 ⟨a9, c9, rfl, ho9⟩; have HO9 := hid ho9; have HB9 := hid (show Below W5.heap.size W5 W9 from HB7.out.trans (((show Below W7.heap.size W7 ((W7.alloc (.cells #[.pointer (some ⟨gs, 0, none⟩)] 23)).alloc (.cells #[.int .u64 x, .int .u64 b] 38)) from (by repeat' (first | exact Below.refl _ _ | with_reducible assumption | omega | with_reducible refine below_put_fut ?_ ?_ _ | with_reducible refine below_to_put ?_ | with_reducible refine Below.alloc ?_ ?_ _ | with_reducible refine Below.fut ?_ ?_ _ | with_reducible refine Below.drew ?_ | with_reducible refine Below.setCell ?_ ?_ _ | with_reducible refine Below.atPut ?_ ?_ _ | (simp [go_sem]; done) | (simp [go_sem]; omega)))).trans (ho9.below.mono (by simp; omega))).mono HB7.out.size)); have HR9 := hid (show Row W9 34 2 (.slice a9 n2 c9) n2 (flat (arcL x b xs)) from by have := ho9.row; rwa [HN2.out] at this); have HB79 := hid (show Below W7.heap.size W7 W9 from (show Below W7.heap.size W7 ((W7.alloc (.cells #[.pointer (some ⟨gs, 0, none⟩)] 23)).alloc (.cells #[.int .u64 x, .int .u64 b] 38)) from (by repeat' (first | exact Below.refl _ _ | with_reducible assumption | omega | with_reducible refine below_put_fut ?_ ?_ _ | with_reducible refine below_to_put ?_ | with_reducible refine Below.alloc ?_ ?_ _ | with_reducible refine Below.fut ?_ ?_ _ | with_reducible refine Below.drew ?_ | with_reducible refine Below.setCell ?_ ?_ _ | with_reducible refine Below.atPut ?_ ?_ _ | (simp [go_sem]; done) | (simp [go_sem]; omega)))).trans (ho9.below.mono (by simp; omega))); clear ho9)
      | (go_at_call 46; refine (sh_collectArc99 (H5.out.on (by repeat' (first | exact Below.refl _ _ | with_reducible assumption | omega | with_reducible refine below_put_fut ?_ ?_ _ | with_reducible refine below_to_put ?_ | with_reducible refine Below.alloc ?_ ?_ _ | with_reducible refine Below.fut ?_ ?_ _ | with_reducible refine Below.drew ?_ | with_reducible refine Below.setCell ?_ ?_ _ | with_reducible refine Below.atPut ?_ ?_ _ | (simp [go_sem]; done) | (simp [go_sem]; omega))) H5.out.ge) (by rw [HM.out]; omega) ha ha2 hx hx2 _ _ rfl (by repeat' (first | rfl | assumption | (with_reducible refine (heap_drew_eq _ _).trans ?_) | (refine (Fut.heap _ _ ?_).trans ?_ ; focus (first | assumption | omega | (simp [go_sem]; done) | (simp [go_sem]; omega))) | (refine (heap_put_at _ _ _ ?_).trans ?_ ; focus (first | assumption | omega | (simp [go_sem]; done) | (simp [go_sem]; omega))) | (refine (heap_put_other _ _ _ _ ?_).trans ?_ ; focus (first | assumption | omega | (simp [go_sem]; done) | (simp [go_sem]; omega))) | (refine (heap_alloc_other _ _ _ ?_).trans ?_ ; focus (first | assumption | omega | (simp [go_sem]; done) | (simp [go_sem]; omega))) | (refine (heap_alloc_at _ _ _ ?_).trans ?_ ; focus (first | assumption | omega | (simp [go_sem]; done) | (simp [go_sem]; omega))) | (simp [go_sem]; done) | (simp [go_sem]; omega))) (by repeat' (first | rfl | assumption | (with_reducible refine (heap_drew_eq _ _).trans ?_) | (refine (Fut.heap _ _ ?_).trans ?_ ; focus (first | assumption | omega | (simp [go_sem]; done) | (simp [go_sem]; omega))) | (refine (heap_put_at _ _ _ ?_).trans ?_ ; focus (first | assumption | omega | (simp [go_sem]; done) | (simp [go_sem]; omega))) | (refine (heap_put_other _ _ _ _ ?_).trans ?_ ; focus (first | assumption | omega | (simp [go_sem]; done) | (simp [go_sem]; omega))) | (refine (heap_alloc_other _ _ _ ?_).trans ?_ ; focus (first | assumption | omega | (simp [go_sem]; done) | (simp [go_sem]; omega))) | (refine (heap_alloc_at _ _ _ ?_).trans ?_ ; focus (first | assumption | omega | (simp [go_sem]; done) | (simp [go_sem]; omega))) | (simp [go_sem]; done) | (simp [go_sem]; omega))) n1 HN1.out).mono ?_; rintro _ W7 ⟨a7, c7, rfl, ho7⟩; have HO7 := hid ho7; have HB7 := hid (show Below W5.heap.size W5 W7 from Below.trans (by repeat' (first | exact Below.refl _ _ | with_reducible assumption | omega | with_reducible refine below_put_fut ?_ ?_ _ | with_reducible refine below_to_put ?_ | with_reducible refine Below.alloc ?_ ?_ _ | with_reducible refine Below.fut ?_ ?_ _ | with_reducible refine Below.drew ?_ | with_reducible refine Below.setCell ?_ ?_ _ | with_reducible refine Below.atPut ?_ ?_ _ | (simp [go_sem]; done) | (simp [go_sem]; omega))) (ho7.below.mono (by simp; omega))); have HG7 := hid ((H5.out.on HB7.out H5.out.ge).ge); have HR7 := hid (show Row W7 34 2 (.slice a7 n1 c7) n1 (flat (arcL a x xs)) from by have := ho7.row; rwa [HN1.out] at this); have HF7 := hid (show ∀ k, blk (.slice a7 n1 c7) k ≠ 0 → W5.heap.size ≤ k from fun k hk => Nat.le_of_not_lt fun e => hk (ho7.fresh k (Nat.lt_of_lt_of_le e (by simp; omega)))); clear ho7)
      | (refine step_append_ex (by rfl) _ _ _ (by rfl) _ _ (by rfl) (by rfl) (append_to HR7.out HB79.out (HR9.out.src (flat_one _)) (by omega)) ?_; rintro v10 W10 ⟨⟨a10, c10, rfl⟩, hr10, hc10, -⟩; rw [H12.out, HSL.out] at hr10; rw [H12.out]; have HB10 := hid (show Below W5.heap.size W5 W10 from HB7.out.trans (hc10.below HB7.out.size HF7.out)); have HR10 := hid hr10; have HA10 := hid (show Row W10 34 2 (.slice a4 na c4) na (flat (arcL a b xs)) from by have := HO5.out.keep (W' := W10) (fun k hk => HB10.out.block k (HO5.out.lt hk)); rwa [HNA.out] at this); clear hr10 hc10)
      | (go_at_call 29; ((with_reducible refine (same_is _ _ _ (arcL a b xs) na HNA.out (by omega) (HR10.out.src (flat_one _)) (HA10.out.src (flat_one _))).mono ?_)); rintro _ _ ⟨rfl, u11, rfl⟩)
      | (go_at_call 40; ((with_reducible refine (sh_count (H5.out.on (by first | ((repeat' (first | exact Below.refl _ _ | with_reducible assumption | omega | with_reducible refine below_put_fut ?_ ?_ _ | with_reducible refine below_to_put ?_ | with_reducible refine Below.alloc ?_ ?_ _ | with_reducible refine Below.fut ?_ ?_ _ | with_reducible refine Below.drew ?_ | with_reducible refine Below.setCell ?_ ?_ _ | with_reducible refine Below.atPut ?_ ?_ _ | (simp [go_sem]; done) | (simp [go_sem]; omega))); done) | (refine HB10.out.trans (Below.mono (show Below W10.heap.size W10 _ from ?_) HB10.out.size); ((repeat' (first | exact Below.refl _ _ | with_reducible assumption | omega | with_reducible refine below_put_fut ?_ ?_ _ | with_reducible refine below_to_put ?_ | with_reducible refine Below.alloc ?_ ?_ _ | with_reducible refine Below.fut ?_ ?_ _ | with_reducible refine Below.drew ?_ | with_reducible refine Below.setCell ?_ ?_ _ | with_reducible refine Below.atPut ?_ ?_ _ | (simp [go_sem]; done) | (simp [go_sem]; omega))); done))) H5.out.ge) (by rw [HM.out]; omega) ha ha2 hx hx2 n1 HN1.out).mono ?_)); rintro _ _ ⟨rfl, u12, rfl⟩)
      | (go_at_call 40; ((with_reducible refine (sh_count (H5.out.on (by first | ((repeat' (first | exact Below.refl _ _ | with_reducible assumption | omega | with_reducible refine below_put_fut ?_ ?_ _ | with_reducible refine below_to_put ?_ | with_reducible refine Below.alloc ?_ ?_ _ | with_reducible refine Below.fut ?_ ?_ _ | with_reducible refine Below.drew ?_ | with_reducible refine Below.setCell ?_ ?_ _ | with_reducible refine Below.atPut ?_ ?_ _ | (simp [go_sem]; done) | (simp [go_sem]; omega))); done) | (refine HB10.out.trans (Below.mono (show Below W10.heap.size W10 _ from ?_) HB10.out.size); ((repeat' (first | exact Below.refl _ _ | with_reducible assumption | omega | with_reducible refine below_put_fut ?_ ?_ _ | with_reducible refine below_to_put ?_ | with_reducible refine Below.alloc ?_ ?_ _ | with_reducible refine Below.fut ?_ ?_ _ | with_reducible refine Below.drew ?_ | with_reducible refine Below.setCell ?_ ?_ _ | with_reducible refine Below.atPut ?_ ?_ _ | (simp [go_sem]; done) | (simp [go_sem]; omega))); done))) H5.out.ge) (by rw [HM.out]; omega) hx hx2 hb hb2 n2 HN2.out).mono ?_)); rintro _ _ ⟨rfl, u13, rfl⟩))) | fail "held3"
    go_wp2_with fail
    go_ret
    exact .mk rfl (hbw.trans (Below.mono (show Below W5.heap.size W5 _ from (by first | ((repeat' (first | exact Below.refl _ _ | with_reducible assumption | omega | with_reducible refine below_put_fut ?_ ?_ _ | with_reducible refine below_to_put ?_ | with_reducible refine Below.alloc ?_ ?_ _ | with_reducible refine Below.fut ?_ ?_ _ | with_reducible refine Below.drew ?_ | with_reducible refine Below.setCell ?_ ?_ _ | with_reducible refine Below.atPut ?_ ?_ _ | (simp [go_sem]; done) | (simp [go_sem]; omega))); done) | (refine HB10.out.trans (Below.mono (show Below W10.heap.size W10 _ from ?_) HB10.out.size); ((repeat' (first | exact Below.refl _ _ | with_reducible assumption | omega | with_reducible refine below_put_fut ?_ ?_ _ | with_reducible refine below_to_put ?_ | with_reducible refine Below.alloc ?_ ?_ _ | with_reducible refine Below.fut ?_ ?_ _ | with_reducible refine Below.drew ?_ | with_reducible refine Below.setCell ?_ ?_ _ | with_reducible refine Below.atPut ?_ ?_ _ | (simp [go_sem]; done) | (simp [go_sem]; omega))); done)))) H5.out.ge))
theorem walkArcs_walk (W : World) (sl : Value) (l : List It) (hl : ItemsAt W sl l) (a : Int) (wa : (Lit.int .u64 a).wf = true) (b : Int) (wb : (Lit.int .u64 b).wf = true) (x : Int) (wx : (Lit.int .u64 x).wf = true) :
    Calls Try.prog 9 #[sl, .agg #[.int .u64 a, .int .u64 b], .int .u64 x] W (Makes (.bool true) W) := by
  have hs := hl.src
  have ha := U64.bd wa
  have hb := U64.bd wb
  have hx := U64.bd wx
  obtain ⟨n, hn⟩ : ∃ n, l.length = n := ⟨_, rfl⟩
  rw [hn] at hs
  obtain ⟨ao, cap, rfl⟩ := hs.slice_of
  clear wa wb wx hl
  rcases Nat.lt_or_ge 60 n with c | c
  · have d1 : decide ((60 : Int) < n) = true := by simp; omega
    clear c hn hs ha hb hx
    go_enter Try.func9, Try.ntmps9
    go_wp2_with (first | (go_at_call 33; ((with_reducible refine (wkAlive_any _).mono ?_)); rintro _ _ ⟨rfl, u, rfl⟩; (try (rw [Fut.put_self u (by first | assumption | (simp [go_sem]; done) | (simp [go_sem]; omega))]))) | (((with_reducible refine wp_region_fut_lit (by kernel_rfl) (by kernel_rfl) ?_)); (repeat (go_big_quiet_step ((first | (go_at_call 33; with_reducible exact Calls.fut_of (wkAlive_any _)))))); ((with_reducible refine wpQuiet_nil ?_)); rintro _ ⟨u, rfl⟩; (try (rw [Fut.put_self u (by first | assumption | (simp [go_sem]; done) | (simp [go_sem]; omega))]))))
    go_ret; exact .mk (by first | rfl | (simp; done) | (simp; omega)) (by repeat' (first | exact Below.refl _ _ | with_reducible assumption | omega | with_reducible refine below_put_fut ?_ ?_ _ | with_reducible refine below_to_put ?_ | with_reducible refine Below.alloc ?_ ?_ _ | with_reducible refine Below.fut ?_ ?_ _ | with_reducible refine Below.drew ?_ | with_reducible refine Below.setCell ?_ ?_ _ | with_reducible refine Below.atPut ?_ ?_ _ | (simp [go_sem]; done) | (simp [go_sem]; omega)))
  exact walkArcs_good W _ l n hn c hs a b ha.1 (by omega) hb.1 (by omega) x hx.1 (by omega)
end Go.Proofs.Ythknenhcnpgkcaa
