/- CutAll answers true for every list of items, arc, point and Bool: the walk. -/
import Derived.Test.YthknenhcnpgkcaaCut7
import Derived.Deep.RegionHeld3
namespace Go.Proofs.Ythknenhcnpgkcaa
open Go.RowKit Go.Shelf
set_option linter.unusedVariables false
set_option linter.unusedSimpArgs false
theorem Pair.sub {w X : World} {F G : Nat → Prop} {xs ys : List It} {ga gb : Nat} (h : Pair w X F xs ys ga gb) (hg : ∀ k, G k → F k) : Pair w X G xs ys ga gb := by
  obtain ⟨h0, cb, tb, h1, h2, h3, h4⟩ := h
  exact ⟨h0, cb, tb, h1, h2.sub (fun k hk => hk.elim (fun h => .inl (hg k h)) .inr), fun k hk => h3 k (hg k hk), h4⟩
theorem Pair.turn {w X Y : World} {F : Nat → Prop} {xs ys : List It} {ga gb : Nat} (h : Pair w X F xs ys ga gb) (hc : Chg (fun k => F k ∧ w.heap.size ≤ k) X Y) : Pair w Y F xs ys ga gb := by
  obtain ⟨h0, cb, tb, h1, h2, h3, h4⟩ := h
  refine ⟨h0, cb, tb, h1.keep fun k hk => hc.block k (h1.lt k hk) fun e => hk (h3 k e.1), h2.turn (hc.mono fun k _ hk => ⟨.inl hk.1, hk.2⟩) fun k hk => ⟨?_, fun _ => hk⟩, h3, h4⟩
  obtain ⟨_, _, _, c', top, _, q, _⟩ := h2
  exact Nat.lt_of_lt_of_le (q k hk).2 hc.size
set_option maxRecDepth 100000 in
set_option maxHeartbeats 4000000 in
theorem cutAll_good (w : World) (sl : Value) (l : List It) (n : Nat) (hl : l.length = n) (hn : n ≤ 60) (hs : Src w 2 sl n (flat l)) (a b : Int) (ha : 0 ≤ a) (ha2 : a < 18446744073709551616) (hb : 0 ≤ b) (hb2 : b < 18446744073709551616) (x : Int) (hx : 0 ≤ x) (hx2 : x < 18446744073709551616) (fst : Bool) :
    Calls Try.prog 20 #[sl, .agg #[.int .u64 a, .int .u64 b], .int .u64 x, .bool fst] w (Makes (.bool true) w) := by
  obtain ⟨ao, cap, rfl⟩ := hs.slice_of
  have d1 : decide ((60 : Int) < n) = false := by simp; omega
  have HS := hid hs
  have HL := hid hl
  clear hs hl
  go_enter Try.func20, Try.ntmps20
  go_wp2_with (first | (go_at_call 60; ((with_reducible refine (cutAlive_any _).mono ?_)); rintro _ _ ⟨rfl, u, rfl⟩; (try (rw [Fut.put_self u (by first | assumption | (simp [go_sem]; done) | (simp [go_sem]; omega))]))) | (((with_reducible refine wp_region_fut_lit (by kernel_rfl) (by kernel_rfl) ?_)); (repeat (go_big_quiet_step ((first | (go_at_call 60; with_reducible exact Calls.fut_of (cutAlive_any _)))))); ((with_reducible refine wpQuiet_nil ?_)); rintro _ ⟨u, rfl⟩; (try (rw [Fut.put_self u (by first | assumption | (simp [go_sem]; done) | (simp [go_sem]; omega))]))))
  clear d1
  have hbX : Below w.heap.size w u.val := (by repeat' (first | exact Below.refl _ _ | with_reducible assumption | omega | with_reducible refine below_put_fut ?_ ?_ _ | with_reducible refine below_to_put ?_ | with_reducible refine Below.alloc ?_ ?_ _ | with_reducible refine Below.fut ?_ ?_ _ | with_reducible refine Below.drew ?_ | with_reducible refine Below.setCell ?_ ?_ _ | with_reducible refine Below.atPut ?_ ?_ _ | (simp [go_sem]; done) | (simp [go_sem]; omega)))
  have hzX := hbX.size
  have hc7 := (u.below.block w.heap.size (by simp)).trans (heap_alloc_at w (.cells #[.int .u64 a, .int .u64 b] 38) _ rfl)
  generalize u.val = X at hbX hzX hc7 ⊢
  have e1 := fun i => cell_of_row X w.heap.size i _ _ (0, 0) hc7
  have l1 := lt_of_heap hc7
  obtain ⟨p, q, ok, hsp⟩ : ∃ p q ok, splitR a b x = (p, q, ok) := ⟨_, _, _, rfl⟩
  go_wp2_with fail
  (((with_reducible refine (split_any a b x p q ok hsp _).mono ?_)); rintro _ _ ⟨rfl, u2, rfl⟩)
  have HSP := hid hsp
  have hb2' := u2.below
  have hc2 := (hb2'.block _ l1).trans hc7
  have hbX2 : Below w.heap.size w u2.val := hbX.trans (hb2'.mono hzX)
  generalize u2.val = X2 at hb2' hc2 hbX2 ⊢
  obtain ⟨p1, p2⟩ := p
  obtain ⟨q1, q2⟩ := q
  have hzX2 := hbX2.size
  clear e1 l1 hc7 hb2' hbX hzX hsp
  go_wp2_with fail
  have k0 : ((X2.alloc (.cells #[.int .u64 p1, .int .u64 p2] 38)).alloc (.cells #[.int .u64 q1, .int .u64 q2] 38)).heap[X2.heap.size]? = some (.cells #[.int .u64 p1, .int .u64 p2] 38) := (by repeat' (first | rfl | assumption | (with_reducible refine (heap_drew_eq _ _).trans ?_) | (refine (Fut.heap _ _ ?_).trans ?_ ; focus (first | assumption | omega | (simp [go_sem]; done) | (simp [go_sem]; omega))) | (refine (heap_put_at _ _ _ ?_).trans ?_ ; focus (first | assumption | omega | (simp [go_sem]; done) | (simp [go_sem]; omega))) | (refine (heap_put_other _ _ _ _ ?_).trans ?_ ; focus (first | assumption | omega | (simp [go_sem]; done) | (simp [go_sem]; omega))) | (refine (heap_alloc_other _ _ _ ?_).trans ?_ ; focus (first | assumption | omega | (simp [go_sem]; done) | (simp [go_sem]; omega))) | (refine (heap_alloc_at _ _ _ ?_).trans ?_ ; focus (first | assumption | omega | (simp [go_sem]; done) | (simp [go_sem]; omega))) | (simp [go_sem]; done) | (simp [go_sem]; omega)))
  have k1 : ((X2.alloc (.cells #[.int .u64 p1, .int .u64 p2] 38)).alloc (.cells #[.int .u64 q1, .int .u64 q2] 38)).heap[X2.heap.size + 1]? = some (.cells #[.int .u64 q1, .int .u64 q2] 38) := (by repeat' (first | rfl | assumption | (with_reducible refine (heap_drew_eq _ _).trans ?_) | (refine (Fut.heap _ _ ?_).trans ?_ ; focus (first | assumption | omega | (simp [go_sem]; done) | (simp [go_sem]; omega))) | (refine (heap_put_at _ _ _ ?_).trans ?_ ; focus (first | assumption | omega | (simp [go_sem]; done) | (simp [go_sem]; omega))) | (refine (heap_put_other _ _ _ _ ?_).trans ?_ ; focus (first | assumption | omega | (simp [go_sem]; done) | (simp [go_sem]; omega))) | (refine (heap_alloc_other _ _ _ ?_).trans ?_ ; focus (first | assumption | omega | (simp [go_sem]; done) | (simp [go_sem]; omega))) | (refine (heap_alloc_at _ _ _ ?_).trans ?_ ; focus (first | assumption | omega | (simp [go_sem]; done) | (simp [go_sem]; omega))) | (simp [go_sem]; done) | (simp [go_sem]; omega)))
  have hb3 : Below X2.heap.size X2 ((X2.alloc (.cells #[.int .u64 p1, .int .u64 p2] 38)).alloc (.cells #[.int .u64 q1, .int .u64 q2] 38)) := (by repeat' (first | exact Below.refl _ _ | with_reducible assumption | omega | with_reducible refine below_put_fut ?_ ?_ _ | with_reducible refine below_to_put ?_ | with_reducible refine Below.alloc ?_ ?_ _ | with_reducible refine Below.fut ?_ ?_ _ | with_reducible refine Below.drew ?_ | with_reducible refine Below.setCell ?_ ?_ _ | with_reducible refine Below.atPut ?_ ?_ _ | (simp [go_sem]; done) | (simp [go_sem]; omega)))
  have hc3 := (hb3.block _ (lt_of_heap hc2)).trans hc2
  have hbX3 : Below w.heap.size w ((X2.alloc (.cells #[.int .u64 p1, .int .u64 p2] 38)).alloc (.cells #[.int .u64 q1, .int .u64 q2] 38)) := hbX2.trans (hb3.mono hzX2)
  try simp only [World.size_alloc]
  generalize ((X2.alloc (.cells #[.int .u64 p1, .int .u64 p2] 38)).alloc (.cells #[.int .u64 q1, .int .u64 q2] 38)) = X3 at k0 k1 hb3 hc3 hbX3 ⊢
  generalize hB : X2.heap.size = B at k0 k1 ⊢
  have hzX3 := hbX3.size
  have hwB : w.heap.size < B := by have := lt_of_heap hc2; omega
  clear hb3 hc2 hbX2
  refine (filled_is X3 _ l n HL.out (by omega) (HS.out.heap hbX3)).mono ?_
  rintro _ W1 ⟨gs, gr, rfl, hb1⟩
  have hxl := fillL_len l
  have hbW1 := hb1.1
  obtain ⟨v1, _, _, _, _, hh1⟩ := hb1.held (by rw [HL.out] at hxl; omega)
  have H1 := hid (((held_base hh1 hbX3 hzX3)).sub (G := fun k => k = w.heap.size ∨ k = B ∨ k = B + 1) (fun k hk => .inr (by have := lt_of_heap hc3; have := lt_of_heap k0; have := lt_of_heap k1; omega)))
  have j0 := (hbW1.block _ (lt_of_heap k0)).trans k0
  have j1 := (hbW1.block _ (lt_of_heap k1)).trans k1
  have jc := (hbW1.block _ (lt_of_heap hc3)).trans hc3
  have HSW := hid (HS.out.heap (hbX3.trans (hbW1.mono hzX3)))
  clear hb1 hh1 k0 k1 hc3
  go_wp2_with fail
  refine (filled_is W1 _ l n HL.out (by omega) HSW.out).mono ?_
  rintro _ W5 ⟨gt, gr2, rfl, hb5⟩
  have H5 := hid (Pair.of_both H1.out hb5 (by rw [HL.out] at hxl; omega))
  have hb5' := hb5.1
  have KP := hid ((hb5'.block _ (lt_of_heap j0)).trans j0)
  have KQ := hid ((hb5'.block _ (lt_of_heap j1)).trans j1)
  have KC := hid ((hb5'.block _ (lt_of_heap jc)).trans jc)
  generalize fillL l = xs at H5 hxl
  rw [HL.out] at hxl
  have lB0 := lt_of_heap KP.out
  have lB1 := lt_of_heap KQ.out
  have lC := lt_of_heap KC.out
  have HR5 := hid (H5.out.left.rises)
  have hbw5 := H5.out.left.1
  have hzw5 := H5.out.left.2.1
  clear hb5 hb5' j0 j1 jc H1 HSW HS HL hbW1 hbX3 hzX3 hzX2 hB
  cases ok with
  | false =>
    go_wp2_with fail
    go_ret
    exact .mk rfl hbw5
  | true =>
    obtain ⟨h1, h2, h3, h4⟩ := splitR_true HSP.out
    obtain ⟨rfl, rfl⟩ := Prod.mk.inj h1.symm
    obtain ⟨rfl, rfl⟩ := Prod.mk.inj h2.symm
    have H34 := hid (And.intro h3 h4)
    clear h1 h2 h3 h4
    cases fst with
    | false =>
      obtain ⟨n1, hn1⟩ : ∃ n1, (arcL a x xs).length = n1 := ⟨_, rfl⟩
      obtain ⟨n2, hn2⟩ : ∃ n2, (arcL x b (outL a x xs)).length = n2 := ⟨_, rfl⟩
      obtain ⟨n3, hn3⟩ : ∃ n3, (arcL a b xs).length = n3 := ⟨_, rfl⟩
      have h123 : n1 + n2 = n3 := by rw [← hn1, ← hn2, ← hn3]; exact out_count ha ha2 hb hb2 hx hx2 H34.out.2 H34.out.1 xs
      have h3l : n3 ≤ 60 := by have := arcL_len_le ha ha2 hb hb2 xs; omega
      have HN1 := hid hn1
      have HN2 := hid hn2
      have HN3 := hid hn3
      have HOL := hid (outL_split ha ha2 hb hb2 hx hx2 H34.out.2 H34.out.1 xs)
      have ew : IntKind.i64.wrap ((n1 : Int) + (n2 : Int)) = (n3 : Int) := by rw [show (n1 : Int) + (n2 : Int) = (n3 : Int) by omega]; exact IntWalk.i64_in _ (by omega)
      clear hn1 hn2 hn3
      go_wp2_with fail
      have HCE := hid (fun (Y : World) (hY : ∀ k, (k = w.heap.size ∨ k = B ∨ k = B + 1) → Y.heap[k]? = W5.heap[k]?) => show Y.cell? ⟨B, 0, none⟩ = some (.int .u64 a) ∧ Y.cell? ⟨B, 1, none⟩ = some (.int .u64 x) ∧ Y.cell? ⟨B + 1, 0, none⟩ = some (.int .u64 x) ∧ Y.cell? ⟨B + 1, 1, none⟩ = some (.int .u64 b) from
        ⟨cell_of_row Y B 0 _ _ (0, 0) ((hY B (.inr (.inl rfl))).trans KP.out), cell_of_row Y B 1 _ _ (0, 0) ((hY B (.inr (.inl rfl))).trans KP.out), cell_of_row Y (B + 1) 0 _ _ (0, 0) ((hY (B + 1) (.inr (.inr rfl))).trans KQ.out), cell_of_row Y (B + 1) 1 _ _ (0, 0) ((hY (B + 1) (.inr (.inr rfl))).trans KQ.out)⟩)
      have HW5 := hid (show ∀ k, (k = w.heap.size ∨ k = B ∨ k = B + 1) → W5.drew.heap[k]? = W5.heap[k]? from fun _ _ => rfl)
      first | (go_region_held3 (fun Y => Y.cell? ⟨B, 0, none⟩ = some (.int .u64 a) ∧ Y.cell? ⟨B, 1, none⟩ = some (.int .u64 x) ∧ Y.cell? ⟨B + 1, 0, none⟩ = some (.int .u64 x) ∧ Y.cell? ⟨B + 1, 1, none⟩ = some (.int .u64 b)) ((first | exact HCE.out _ HW7.out | exact HCE.out _ HW6.out | exact HCE.out _ HW5.out)) (first | (go_at_call 63; refine (pair_out HP6.out x b hx hx2 hb hb2 n2 HN2.out).mono ?_; rintro _ W7 ⟨a7, c7, rfl, -, hp7, hk7, -⟩; have HP7 := hid (hp7.sub (G := fun k => k = w.heap.size ∨ k = B ∨ k = B + 1) (fun k hk => .inl hk)); have HW7 := hid (fun k hk => (hk7 k hk).trans (HW6.out k hk)); clear hp7 hk7) | (go_at_call 63; refine (pair_out (H5.out.on (Below.refl _ W5).drew) a x ha ha2 hx hx2 n1 HN1.out).mono ?_; rintro _ W6 ⟨a6, c6, rfl, -, hp6, hk6, -⟩; have HP6 := hid (hp6.sub (G := fun k => k = w.heap.size ∨ k = B ∨ k = B + 1) (fun k hk => .inl hk)); have HW6 := hid (fun k hk => (hk6 k hk).trans (HW5.out k hk)); clear hp6 hk6))) | fail "held3"
      have HP := hid (show Pair w W7 (fun k => k = w.heap.size ∨ k = B ∨ k = B + 1) (outL a b xs) xs gs gt from by rw [← HOL.out]; exact HP7.out)
      have kc7 := (HW7.out _ (.inl rfl)).trans KC.out
      have ec7 := fun i => cell_of_row W7 w.heap.size i _ _ (0, 0) kc7
      have lc7 := lt_of_heap kc7
      go_wp2_with fail
      refine (pair_out HP.out.swap a b ha ha2 hb hb2 n3 HN3.out).mono ?_
      rintro _ W8 ⟨a8, c8, rfl, -, hp8, hk8, -⟩
      have HP8 := hid (hp8.sub (G := fun k => k = w.heap.size) (fun k hk => .inl (.inl hk)))
      have HK8 := hid ((hk8 _ (.inl rfl)).trans kc7)
      clear hp8 hk8 ec7 lc7 kc7
      obtain ⟨m, hm⟩ : ∃ m, (outL a b xs).length = m := ⟨_, rfl⟩
      have hm60 : m ≤ 60 := by have : (outL a b xs).length ≤ xs.length := List.length_filter_le _ _; omega
      have HM := hid hm
      clear hm
      go_wp2_with fail
      refine (sh_items HP8.out.swap.left.sh (by rw [HM.out]; omega)).mono ?_
      rintro _ W9 ⟨a9, c9, rfl, hr9, hb9, -⟩
      rw [HM.out] at hr9 ⊢
      have HP9 := hid (HP8.out.on hb9)
      have HK9 := hid ((hb9.block _ (lt_of_heap HK8.out)).trans HK8.out)
      have S9 := hid (hr9.src (flat_one _))
      clear hr9 hb9
      go_wp2_with fail
      refine (sh_items HP9.out.left.sh (by rw [HM.out]; omega)).mono ?_
      rintro _ W10 ⟨a10, c10, rfl, hr10, hb10, -⟩
      rw [HM.out] at hr10 ⊢
      have HP10 := hid (HP9.out.on hb10)
      have HK10 := hid ((hb10.block _ (lt_of_heap HK9.out)).trans HK9.out)
      have S9' := hid (S9.out.heap hb10)
      have S10 := hid (hr10.src (flat_one _))
      clear hr10 hb10
      go_wp2_with fail
      (((with_reducible refine (same_is _ _ _ (outL a b xs) m HM.out (by omega) S9'.out S10.out).mono ?_)); rintro _ _ ⟨rfl, u11, rfl⟩)
      have HP11 := hid (HP10.out.on u11.below)
      have hk11 := (u11.below.block _ (lt_of_heap HK10.out)).trans HK10.out
      generalize u11.val = W11 at HP11 hk11 ⊢
      have ec11 := fun i => cell_of_row W11 w.heap.size i _ _ (0, 0) hk11
      have lc11 := lt_of_heap hk11
      go_wp2_with fail
      refine (pair_out HP11.out a b ha ha2 hb hb2 0 (arc_outL ha ha2 hb hb2 xs)).mono ?_
      rintro _ W12 ⟨a12, c12, rfl, -, hp12, -, -⟩
      have hbw12 := hp12.left.1
      clear hp12
      go_wp2_with fail
      go_ret
      exact .mk rfl hbw12
    | true =>
      obtain ⟨n1, hn1⟩ : ∃ n1, (arcL x b xs).length = n1 := ⟨_, rfl⟩
      obtain ⟨n2, hn2⟩ : ∃ n2, (arcL a x (outL x b xs)).length = n2 := ⟨_, rfl⟩
      obtain ⟨n3, hn3⟩ : ∃ n3, (arcL a b xs).length = n3 := ⟨_, rfl⟩
      have h123 : n1 + n2 = n3 := by rw [← hn1, ← hn2, ← hn3]; exact out_count' ha ha2 hb hb2 hx hx2 H34.out.2 H34.out.1 xs
      have h3l : n3 ≤ 60 := by have := arcL_len_le ha ha2 hb hb2 xs; omega
      have HN1 := hid hn1
      have HN2 := hid hn2
      have HN3 := hid hn3
      have HOL := hid (outL_split' ha ha2 hb hb2 hx hx2 H34.out.2 H34.out.1 xs)
      have ew : IntKind.i64.wrap ((n1 : Int) + (n2 : Int)) = (n3 : Int) := by rw [show (n1 : Int) + (n2 : Int) = (n3 : Int) by omega]; exact IntWalk.i64_in _ (by omega)
      clear hn1 hn2 hn3
      have hneB : ((⟨B, 0, none⟩ : Addr) = ⟨B + 1, 0, none⟩) = False := by simp
      have ep := fun i => cell_of_row W5 B i _ _ (0, 0) KP.out
      have eq' := fun i => cell_of_row W5 (B + 1) i _ _ (0, 0) KQ.out
      have fp := fun i => frozen_of KP.out i
      have fq := fun i => frozen_of KQ.out i
      go_wp2_with fail
      have ew2 : ((((W5.setCell ⟨B, 0, none⟩ (.int .u64 x)).setCell ⟨B, 1, none⟩ (.int .u64 b)).setCell ⟨B + 1, 0, none⟩ (.int .u64 a)).setCell ⟨B + 1, 1, none⟩ (.int .u64 x)) = put (put W5 B (.cells #[.int .u64 x, .int .u64 b] 38)) (B + 1) (.cells #[.int .u64 a, .int .u64 x] 38) := by
        rw [setCell_row KP.out, setCell_row (heap_put_at _ _ _ lB0), put_put, setCell_row ((heap_put_other _ _ _ _ (by omega)).trans KQ.out), setCell_row (heap_put_at _ _ _ (by rw [size_put]; exact lB1)), put_put]
        rfl
      rw [ew2]
      have hch : Chg (fun k => k = B ∨ k = B + 1) W5 (put (put W5 B (.cells #[.int .u64 x, .int .u64 b] 38)) (B + 1) (.cells #[.int .u64 a, .int .u64 x] 38)) := ((Chg.refl _ W5).put (fun _ => .inl rfl) _).put (fun _ => .inr rfl) _
      have HV5 := hid (H5.out.turn (hch.mono fun k _ hk => ⟨by rcases hk with h | h <;> simp [h], by omega⟩))
      have KP' := hid (show (put (put W5 B (.cells #[.int .u64 x, .int .u64 b] 38)) (B + 1) (.cells #[.int .u64 a, .int .u64 x] 38)).heap[B]? = some (.cells #[.int .u64 x, .int .u64 b] 38) from (heap_put_other _ _ _ _ (by omega)).trans (heap_put_at _ _ _ lB0))
      have KQ' := hid (show (put (put W5 B (.cells #[.int .u64 x, .int .u64 b] 38)) (B + 1) (.cells #[.int .u64 a, .int .u64 x] 38)).heap[B + 1]? = some (.cells #[.int .u64 a, .int .u64 x] 38) from heap_put_at _ _ _ (by rw [size_put]; exact lB1))
      have KC' := hid ((hch.block w.heap.size lC (by rintro (h | h) <;> omega)).trans KC.out)
      generalize put (put W5 B (.cells #[.int .u64 x, .int .u64 b] 38)) (B + 1) (.cells #[.int .u64 a, .int .u64 x] 38) = V5 at HV5 KP' KQ' KC' ⊢
      clear ep eq' fp fq ew2 hch H5 KP KQ KC lB0 lB1 lC HR5 hbw5 hzw5
      have KP := KP'
      have KQ := KQ'
      have KC := KC'
      have H5 := HV5
      clear KP' KQ' KC' HV5
      have HCE := hid (fun (Y : World) (hY : ∀ k, (k = w.heap.size ∨ k = B ∨ k = B + 1) → Y.heap[k]? = V5.heap[k]?) => show Y.cell? ⟨B, 0, none⟩ = some (.int .u64 x) ∧ Y.cell? ⟨B, 1, none⟩ = some (.int .u64 b) ∧ Y.cell? ⟨B + 1, 0, none⟩ = some (.int .u64 a) ∧ Y.cell? ⟨B + 1, 1, none⟩ = some (.int .u64 x) from
        ⟨cell_of_row Y B 0 _ _ (0, 0) ((hY B (.inr (.inl rfl))).trans KP.out), cell_of_row Y B 1 _ _ (0, 0) ((hY B (.inr (.inl rfl))).trans KP.out), cell_of_row Y (B + 1) 0 _ _ (0, 0) ((hY (B + 1) (.inr (.inr rfl))).trans KQ.out), cell_of_row Y (B + 1) 1 _ _ (0, 0) ((hY (B + 1) (.inr (.inr rfl))).trans KQ.out)⟩)
      have HW5 := hid (show ∀ k, (k = w.heap.size ∨ k = B ∨ k = B + 1) → V5.drew.heap[k]? = V5.heap[k]? from fun _ _ => rfl)
      first | (go_region_held3 (fun Y => Y.cell? ⟨B, 0, none⟩ = some (.int .u64 x) ∧ Y.cell? ⟨B, 1, none⟩ = some (.int .u64 b) ∧ Y.cell? ⟨B + 1, 0, none⟩ = some (.int .u64 a) ∧ Y.cell? ⟨B + 1, 1, none⟩ = some (.int .u64 x)) ((first | exact HCE.out _ HW7.out | exact HCE.out _ HW6.out | exact HCE.out _ HW5.out)) (first | (go_at_call 63; refine (pair_out HP6.out a x ha ha2 hx hx2 n2 HN2.out).mono ?_; rintro _ W7 ⟨a7, c7, rfl, -, hp7, hk7, -⟩; have HP7 := hid (hp7.sub (G := fun k => k = w.heap.size ∨ k = B ∨ k = B + 1) (fun k hk => .inl hk)); have HW7 := hid (fun k hk => (hk7 k hk).trans (HW6.out k hk)); clear hp7 hk7) | (go_at_call 63; refine (pair_out (H5.out.on (Below.refl _ V5).drew) x b hx hx2 hb hb2 n1 HN1.out).mono ?_; rintro _ W6 ⟨a6, c6, rfl, -, hp6, hk6, -⟩; have HP6 := hid (hp6.sub (G := fun k => k = w.heap.size ∨ k = B ∨ k = B + 1) (fun k hk => .inl hk)); have HW6 := hid (fun k hk => (hk6 k hk).trans (HW5.out k hk)); clear hp6 hk6))) | fail "held3"
      have HP := hid (show Pair w W7 (fun k => k = w.heap.size ∨ k = B ∨ k = B + 1) (outL a b xs) xs gs gt from by rw [← HOL.out]; exact HP7.out)
      have kc7 := (HW7.out _ (.inl rfl)).trans KC.out
      have ec7 := fun i => cell_of_row W7 w.heap.size i _ _ (0, 0) kc7
      have lc7 := lt_of_heap kc7
      go_wp2_with fail
      refine (pair_out HP.out.swap a b ha ha2 hb hb2 n3 HN3.out).mono ?_
      rintro _ W8 ⟨a8, c8, rfl, -, hp8, hk8, -⟩
      have HP8 := hid (hp8.sub (G := fun k => k = w.heap.size) (fun k hk => .inl (.inl hk)))
      have HK8 := hid ((hk8 _ (.inl rfl)).trans kc7)
      clear hp8 hk8 ec7 lc7 kc7
      obtain ⟨m, hm⟩ : ∃ m, (outL a b xs).length = m := ⟨_, rfl⟩
      have hm60 : m ≤ 60 := by have : (outL a b xs).length ≤ xs.length := List.length_filter_le _ _; omega
      have HM := hid hm
      clear hm
      go_wp2_with fail
      refine (sh_items HP8.out.swap.left.sh (by rw [HM.out]; omega)).mono ?_
      rintro _ W9 ⟨a9, c9, rfl, hr9, hb9, -⟩
      rw [HM.out] at hr9 ⊢
      have HP9 := hid (HP8.out.on hb9)
      have HK9 := hid ((hb9.block _ (lt_of_heap HK8.out)).trans HK8.out)
      have S9 := hid (hr9.src (flat_one _))
      clear hr9 hb9
      go_wp2_with fail
      refine (sh_items HP9.out.left.sh (by rw [HM.out]; omega)).mono ?_
      rintro _ W10 ⟨a10, c10, rfl, hr10, hb10, -⟩
      rw [HM.out] at hr10 ⊢
      have HP10 := hid (HP9.out.on hb10)
      have HK10 := hid ((hb10.block _ (lt_of_heap HK9.out)).trans HK9.out)
      have S9' := hid (S9.out.heap hb10)
      have S10 := hid (hr10.src (flat_one _))
      clear hr10 hb10
      go_wp2_with fail
      (((with_reducible refine (same_is _ _ _ (outL a b xs) m HM.out (by omega) S9'.out S10.out).mono ?_)); rintro _ _ ⟨rfl, u11, rfl⟩)
      have HP11 := hid (HP10.out.on u11.below)
      have hk11 := (u11.below.block _ (lt_of_heap HK10.out)).trans HK10.out
      generalize u11.val = W11 at HP11 hk11 ⊢
      have ec11 := fun i => cell_of_row W11 w.heap.size i _ _ (0, 0) hk11
      have lc11 := lt_of_heap hk11
      go_wp2_with fail
      refine (pair_out HP11.out a b ha ha2 hb hb2 0 (arc_outL ha ha2 hb hb2 xs)).mono ?_
      rintro _ W12 ⟨a12, c12, rfl, -, hp12, -, -⟩
      have hbw12 := hp12.left.1
      clear hp12
      go_wp2_with fail
      go_ret
      exact .mk rfl hbw12
theorem cutAll_walk (W : World) (sl : Value) (l : List It) (hl : ItemsAt W sl l) (a : Int) (wa : (Lit.int .u64 a).wf = true) (b : Int) (wb : (Lit.int .u64 b).wf = true) (x : Int) (wx : (Lit.int .u64 x).wf = true) (fst : Bool) :
    Calls Try.prog 20 #[sl, .agg #[.int .u64 a, .int .u64 b], .int .u64 x, .bool fst] W (Makes (.bool true) W) := by
  have hs := hl.src
  have ha := U64.bd wa
  have hb := U64.bd wb
  have hx := U64.bd wx
  obtain ⟨n, hn⟩ : ∃ n, l.length = n := ⟨_, rfl⟩
  rw [hn] at hs
  obtain ⟨ao, cap, rfl⟩ := hs.slice_of
  clear wa wb wx hl
  rcases Nat.lt_or_ge 60 n with c | c
  · have d1 : decide ((60 : Int) < n) = true := by simp; omega
    clear c hn hs ha hb hx
    go_enter Try.func20, Try.ntmps20
    go_wp2_with (first | (go_at_call 60; ((with_reducible refine (cutAlive_any _).mono ?_)); rintro _ _ ⟨rfl, u, rfl⟩; (try (rw [Fut.put_self u (by first | assumption | (simp [go_sem]; done) | (simp [go_sem]; omega))]))) | (((with_reducible refine wp_region_fut_lit (by kernel_rfl) (by kernel_rfl) ?_)); (repeat (go_big_quiet_step ((first | (go_at_call 60; with_reducible exact Calls.fut_of (cutAlive_any _)))))); ((with_reducible refine wpQuiet_nil ?_)); rintro _ ⟨u, rfl⟩; (try (rw [Fut.put_self u (by first | assumption | (simp [go_sem]; done) | (simp [go_sem]; omega))]))))
    go_ret; exact .mk (by first | rfl | (simp; done) | (simp; omega)) (by repeat' (first | exact Below.refl _ _ | with_reducible assumption | omega | with_reducible refine below_put_fut ?_ ?_ _ | with_reducible refine below_to_put ?_ | with_reducible refine Below.alloc ?_ ?_ _ | with_reducible refine Below.fut ?_ ?_ _ | with_reducible refine Below.drew ?_ | with_reducible refine Below.setCell ?_ ?_ _ | with_reducible refine Below.atPut ?_ ?_ _ | (simp [go_sem]; done) | (simp [go_sem]; omega)))
  exact cutAll_good W _ l n hn c hs a b ha.1 (by omega) hb.1 (by omega) x hx.1 (by omega) fst
end Go.Proofs.Ythknenhcnpgkcaa
