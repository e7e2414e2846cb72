/- WalkTells: one of its ways, whichever it is. -/
import Derived.Test.YthknenhcnpgkcaaGreatWy2
import Derived.Test.YthknenhcnpgkcaaGreatCo1
import Derived.Test.YthknenhcnpgkcaaGreatBkA
import Derived.Test.YthknenhcnpgkcaaGreatRefD
import Derived.Test.YthknenhcnpgkcaaGreatMv
namespace Go.Proofs.YthknenhcnpgkcaaGreat
open Go.RowKit Go.Shelf
set_option linter.unusedVariables false
set_option linter.unusedSimpArgs false
@[go_sem] theorem run_store_func {P : Program} {w : World} {a : Addr} {m : Mode} (f : Fn) (x y : Array Value) : (store a (.func f x y) m).run P w = stored P w a (.func f x y) m := run_store P w a _ m rfl
theorem colAny {L : List It} {gf : Nat} {lb : Array Value} {W : World} (most : Int) (h : ∀ m : Nat, 1 ≤ m → Calls Tryz.prog 14 #[.func (.func gf) #[] lb, .int .i64 m] W (Col L m W)) :
    Calls Tryz.prog 14 #[.func (.func gf) #[] lb, .int .i64 most] W (Col L most.toNat W) := by
  by_cases c : 0 < most
  · have := h most.toNat (by omega)
    rwa [Int.toNat_of_nonneg (by omega)] at this
  · refine (colNone _ W most (by omega) gf lb rfl).mono ?_
    rintro _ _ ⟨rfl, u, rfl⟩
    have e : most.toNat = 0 := by omega
    rw [e]
    exact ⟨none, 0, 0, rfl, World.ownsRow_nil _ _ _ _, by simp, u.below, fun k _ => blk_nil _ _ _⟩
/-- A list's first ones. -/
theorem first_is (W : World) (ao : Option Addr) (n c : Nat) (most : Int) (hn : n ≤ c) (hn9 : n ≤ 900) (k : Nat) (hk : min (max most 0) (n : Int) = (k : Int)) : Calls Tryz.prog 13 #[.slice ao n c, .int .i64 most] W (Makes (.slice ao k c) W) := by
  have s1 := fun W => slice_to ao n c k (by omega) W
  go_enter Tryz.func13, Tryz.ntmps13
  go_wp2_with (first | (((with_reducible refine wp_region_fut_lit (by kernel_rfl) (by kernel_rfl) ?_)); (repeat (go_big_quiet_step ((first | fail)))); ((with_reducible refine wpQuiet_nil ?_)); rintro _ ⟨u, rfl⟩; (try (rw [Fut.put_self u (by first | assumption | (simp [go_sem]; done) | (simp [go_sem]; omega))]))))
  go_ret; exact .mk (by first | rfl | (simp; done) | (simp; omega)) (by repeat' (first | exact Below.refl _ _ | with_reducible assumption | omega | with_reducible refine below_put_fut ?_ ?_ _ | with_reducible refine below_to_put ?_ | with_reducible refine Below.alloc ?_ ?_ _ | with_reducible refine Below.fut ?_ ?_ _ | with_reducible refine Below.drew ?_ | with_reducible refine Below.setCell ?_ ?_ _ | with_reducible refine Below.atPut ?_ ?_ _ | (simp [go_sem]; done) | (simp [go_sem]; omega)))
/-- What is known of the way at place k. -/
structure Goes (bk AW k : Nat) (W8 : World) (gf : Nat) (lb : Array Value) (wa : Option Addr) (wn wc : Nat) (L : List It) : Prop where
  c0 : ∀ Y, Chg (fun j => j = bk) W8 Y → Y.cell? ⟨AW, k * 2, none⟩ = some (.func (.func gf) #[] lb)
  c1 : ∀ Y, Chg (fun j => j = bk) W8 Y → Y.cell? ⟨AW, k * 2 + 1, none⟩ = some (.slice wa wn wc)
  src : ∀ Y, Chg (fun j => j = bk) W8 Y → Src Y 2 (.slice wa wn wc) wn (flat L)
  len : L.length = wn
  le : wn ≤ 900
  cap : wn ≤ wc
  ways : ∀ Y, Chg (fun j => j = bk) W8 Y → ∀ m : Nat, 1 ≤ m → Calls Tryz.prog 11 #[.func (.func gf) #[] lb, .int .i64 m] Y (Wayed L m Y)
  col : ∀ Y, Chg (fun j => j = bk) W8 Y → ∀ m : Int, Calls Tryz.prog 14 #[.func (.func gf) #[] lb, .int .i64 m] Y (Col L m.toNat Y)
theorem row_le {W : World} {e : TypeId} {size n c : Nat} {ao : Option Addr} {xs : List Value} (h : Row W e size (.slice ao n c) n xs) : n ≤ c := by
  rcases h.2 with ⟨hv, h0⟩ | ⟨g, cap, cur, hv, _, _, hnc, _⟩
  · omega
  · injection hv with _ _ h3; omega
theorem goes_mk {bk AW k : Nat} {W8 : World} {gf : Nat} {lb : Array Value} {wa : Option Addr} {wn wc : Nat} {L : List It} {arr : Array Value} {ty : TypeId} {fr : Nat × Nat} (hA : W8.heap[AW]? = some (.cells arr ty fr)) (hne : AW ≠ bk) (h0 : arr[k * 2]? = some (.func (.func gf) #[] lb)) (h1 : arr[k * 2 + 1]? = some (.slice wa wn wc))
    (hrow : Row W8 59 2 (.slice wa wn wc) wn (flat L)) (hbk : blk (.slice wa wn wc) bk = 0) (hl : L.length = wn) (hle : wn ≤ 900)
    (hw : ∀ Y, Chg (fun j => j = bk) W8 Y → ∀ m : Nat, 1 ≤ m → Calls Tryz.prog 11 #[.func (.func gf) #[] lb, .int .i64 m] Y (Wayed L m Y)) (hc : ∀ Y, Chg (fun j => j = bk) W8 Y → ∀ m : Nat, 1 ≤ m → Calls Tryz.prog 14 #[.func (.func gf) #[] lb, .int .i64 m] Y (Col L m Y)) : Goes bk AW k W8 gf lb wa wn wc L := by
  have key : ∀ Y, Chg (fun j => j = bk) W8 Y → Y.heap[AW]? = some (.cells arr ty fr) := fun Y hY => (hY.block AW (lt_of_heap hA) hne).trans hA
  exact ⟨fun Y hY => by rw [cell_of_row Y AW (k * 2) _ _ _ (key Y hY)]; exact h0, fun Y hY => by rw [cell_of_row Y AW (k * 2 + 1) _ _ _ (key Y hY)]; exact h1, fun Y hY => (Row.chg hrow hY (fun j hj e => by subst e; exact hj hbk)).src (flat_one _), hl, hle, row_le hrow, hw, fun Y hY m => colAny m (hc Y hY)⟩
/-- The book, behind W8. -/
def BkAt (T : Nat → Prop) (W8 : World) (bk n : Nat) (wr : World) : Prop := Chg T W8 wr ∧ ∃ iv wv es cb, Bk wr bk iv wv es cb ∧ es.length = n ∧ ∀ j, j < W8.heap.size → cb j ≠ 0 → T j
theorem BkAt.on {T : Nat → Prop} {W8 : World} {bk n : Nat} {wr X : World} (h : BkAt T W8 bk n wr) (hb : Below wr.heap.size wr X) : BkAt T W8 bk n X := by
  obtain ⟨h1, iv, wv, es, cb, h2, h3, h4⟩ := h
  exact ⟨h1.trans (Chg.of_below (S := T) hb) (fun _ _ h => h), iv, wv, es, cb, h2.below hb, h3, h4⟩
/-- The book, with the first list in it, and the second one apart. -/
def BkMid (T : Nat → Prop) (W8 : World) (bk n : Nat) (c d : Value) (mc md : Nat) (xs ys : List It) (W : World) : Prop :=
  Chg T W8 W ∧ ∃ iv wv es cb, Bk W bk iv wv es cb ∧ es.length = n ∧ (∀ j, j < W8.heap.size → cb j ≠ 0 → T j) ∧ (∃ q ∈ es, q.v = c ∧ q.xs = xs ∧ xs.length = mc) ∧ Row W 59 2 d md (flat ys) ∧ ∀ k, blk d k ≠ 0 → cb k = 0
theorem book_first {T : Nat → Prop} {W8 X0 Xc X : World} {bk n mc md : Nat} {c d : Value} {xs ys : List It} (h : BkAt T W8 bk n X0) (hn : n < 250) (hc : Below X0.heap.size X0 Xc) (vc : Row Xc 59 2 c mc (flat xs)) (lc : xs.length = mc) (mc9 : mc ≤ 900) (fc : ∀ k, k < X0.heap.size → blk c k = 0)
    (hd : Below Xc.heap.size Xc X) (vd : Row X 59 2 d md (flat ys)) (fd : ∀ k, k < Xc.heap.size → blk d k = 0) :
    Calls Tryz.prog 15 #[.pointer (some ⟨bk, 0, none⟩), c] X fun e W' => e = .returned (.tuple #[]) ∧ BkMid T W8 bk (n + 1) c d mc md xs ys W' := by
  have z1 := hc.size
  have z2 := hd.size
  obtain ⟨g1, iv, wv, es, cb, g2, g3, g4⟩ := h
  have z0 := g1.size
  have hx : Below X0.heap.size X0 X := hc.trans (hd.mono z1)
  have b2 := g2.below hx
  have cbl : ∀ k, cb k ≠ 0 → k < X0.heap.size := fun k hk => g2.lt hk
  have cdis : ∀ k, blk c k ≠ 0 → cb k = 0 := fun k hk => by
    rcases Nat.eq_zero_or_pos (cb k) with z | z
    · exact z
    · exact absurd (fc k (cbl k (by omega))) hk
  refine (bookItems_is b2 (by omega) (owns_below vc hd) lc mc9 cdis).mono ?_
  rintro _ W' ⟨rfl, iv', wv', w', cb', k1, k2, k3⟩
  have ddis : ∀ k, blk d k ≠ 0 → cb' k = 0 := fun k hk => by
    have hkx := vd.lt hk
    have hkc : ¬ k < Xc.heap.size := fun e => hk (fd k e)
    have h1 := k3 k hkx
    have h2 : cb k = 0 := by
      rcases Nat.eq_zero_or_pos (cb k) with z | z
      · exact z
      · have := cbl k (by omega); omega
    have h3 : blk c k = 0 := by
      rcases Nat.eq_zero_or_pos (blk c k) with z | z
      · exact z
      · have := vc.lt (k := k) (by omega); omega
    omega
  refine ⟨rfl, (g1.trans (Chg.of_below (S := T) hx) (fun _ _ h => h)).trans k2 (fun j hj h => g4 j hj h), iv', wv', _, cb', k1, by rw [List.length_append, g3]; rfl, fun j hj h => ?_, ⟨⟨c, w', xs⟩, by simp, rfl, rfl, lc⟩, vd.chg k2 (fun k hk h => ?_), ddis⟩
  · have h1 := k3 j (by omega)
    have h2 := fc j (by omega)
    exact g4 j hj (by omega)
  · have h1 := cbl k h
    exact hk (fd k (by omega))
theorem book_second {T : Nat → Prop} {W8 X : World} {bk n mc md : Nat} {c d : Value} {xs ys : List It} (h : BkMid T W8 bk n c d mc md xs ys X) (hn : n < 250) (ld : ys.length = md) (md9 : md ≤ 900) (hnew : ∀ j, j < W8.heap.size → blk d j = 0) :
    Calls Tryz.prog 15 #[.pointer (some ⟨bk, 0, none⟩), d] X fun e W' => e = .returned (.tuple #[]) ∧ BkAt T W8 bk (n + 1) W' ∧ Src W' 2 c mc (flat xs) ∧ Src W' 2 d md (flat ys) := by
  obtain ⟨g1, iv, wv, es, cb, g2, g3, g4, ⟨q, q1, q2, q3, q4⟩, g6, g8⟩ := h
  have z0 := g1.size
  refine (bookItems_is g2 (by omega) g6 ld md9 g8).mono ?_
  rintro _ W' ⟨rfl, iv', wv', w', cb', k1, k2, k3⟩
  have r1 := (k1.each q (by simp [q1])).2.1
  rw [q2, q3, q4] at r1
  have r2 := (k1.each ⟨d, w', ys⟩ (by simp)).2.1
  dsimp only at r2
  rw [ld] at r2
  refine ⟨rfl, ⟨g1.trans k2 (fun j hj h => g4 j hj h), iv', wv', _, cb', k1, by rw [List.length_append, g3]; rfl, fun j hj h => ?_⟩, r1.src (flat_one _), r2.src (flat_one _)⟩
  have h1 := k3 j (by omega)
  by_cases e : blk d j = 0
  · exact g4 j hj (by omega)
  · have := hnew j hj
    omega
/-- From now on, and back. -/
theorem BkAt.rebase {T : Nat → Prop} {W8 : World} {bk n : Nat} {wr X : World} (h : BkAt T W8 bk n wr) (hb : Below wr.heap.size wr X) : ∃ T', BkAt T' X bk n X ∧ ∀ j, T' j → j < wr.heap.size ∧ (j < W8.heap.size → T j) := by
  obtain ⟨h1, iv, wv, es, cb, h2, h3, h4⟩ := h
  exact ⟨fun j => cb j ≠ 0, ⟨Chg.refl _ _, iv, wv, es, cb, h2.below hb, h3, fun j _ hj => hj⟩, fun j hj => ⟨h2.lt hj, fun hw => h4 j hw hj⟩⟩
theorem BkAt.back {T T' : Nat → Prop} {W8 X : World} {bk n : Nat} {wr : World} (h : BkAt T' X bk n wr) (hc : Chg T W8 X) (hT : ∀ j, j < W8.heap.size → T' j → T j) : BkAt T W8 bk n wr := by
  obtain ⟨h1, iv, wv, es, cb, h2, h3, h4⟩ := h
  exact ⟨hc.trans h1 hT, iv, wv, es, cb, h2, h3, fun j hj h => hT j hj (h4 j (Nat.lt_of_lt_of_le hj hc.size) h)⟩
theorem bk_apart {T : Nat → Prop} {W8 : World} {bk n : Nat} {wr : World} (h : BkAt T W8 bk n wr) (hn : n ≤ 250) : Calls Tryz.prog 16 #[.pointer (some ⟨bk, 0, none⟩)] wr fun e W' => e = .returned (.bool true) ∧ Chg T W8 W' := by
  obtain ⟨h1, iv, wv, es, cb, h2, h3, h4⟩ := h
  refine (apart_is h2 (by omega)).mono ?_
  rintro _ W' ⟨rfl, k⟩
  exact ⟨rfl, h1.trans k (fun j hj e => h4 j hj e)⟩
theorem eql_nil_nil (w : World) : (binOp .eql 41 .nilFunc .nilFunc).run Tryz.prog w = .ok (.bool true) w := by
  kernel_rfl
set_option maxRecDepth 100000 in
theorem collect_nilf (W : World) (m : Int) : Calls Tryz.prog 14 #[.nilFunc, .int .i64 m] W (Makes (.slice none 0 0) W) := by
  go_enter Tryz.func14, Tryz.ntmps14
  have hnf := eql_nil_nil
  go_wp2_with fail
  go_ret; exact .mk (by first | rfl | (simp; done) | (simp; omega)) (by repeat' (first | exact Below.refl _ _ | with_reducible assumption | omega | with_reducible refine below_put_fut ?_ ?_ _ | with_reducible refine below_to_put ?_ | with_reducible refine Below.alloc ?_ ?_ _ | with_reducible refine Below.fut ?_ ?_ _ | with_reducible refine Below.drew ?_ | with_reducible refine Below.setCell ?_ ?_ _ | with_reducible refine Below.atPut ?_ ?_ _ | (simp [go_sem]; done) | (simp [go_sem]; omega)))
theorem collect_nilb (W : World) (m : Int) : Calls Tryz.prog 14 #[.nilFunc, .int .i64 m] W (fun e W' => e = .returned (.slice none 0 0) ∧ Below W.heap.size W W') :=
  (collect_nilf W m).mono fun _ _ ⟨h, u, hu⟩ => ⟨h, by rw [hu]; exact u.below⟩
theorem Col.zero {L : List It} {m : Nat} {W : World} {e : Ending} {W' : World} (h : Col L m W e W') (hl : L.length = 0) : ∃ ao c, e = .returned (.slice ao 0 c) ∧ Below W.heap.size W W' := by
  obtain ⟨ao, n, c, rfl, _, h2, h3, _⟩ := h
  obtain rfl : n = 0 := by omega
  exact ⟨ao, c, rfl, h3⟩
theorem nilAll_is (W : World) (s : Nat) (hS : W.heap[s]? = some (.cells #[.pointer none] 27)) : Calls Tryz.prog 14 #[.func (.func 24) #[] #[.pointer (some ⟨s, 0, none⟩)], .int .i64 5] W fun e W' => ∃ ao c, e = .returned (.slice ao 0 c) ∧ Below W.heap.size W W' :=
  (colAll (gives_nil W) (by simp) s hS 5 (by omega)).mono fun _ _ h => h.zero rfl
theorem nilRange_is (W : World) (s t r : Nat) (hS : W.heap[s]? = some (.cells #[.pointer none] 27)) (hU : W.heap[t]? = some (.cells #[.string ⟨#[]⟩] 9)) (hV : W.heap[r]? = some (.cells #[.string ⟨#[]⟩] 9)) : Calls Tryz.prog 14 #[.func (.func 26) #[] #[.pointer (some ⟨s, 0, none⟩), .pointer (some ⟨t, 0, none⟩), .pointer (some ⟨r, 0, none⟩)], .int .i64 5] W fun e W' => ∃ ao c, e = .returned (.slice ao 0 c) ∧ Below W.heap.size W W' :=
  (colRange (gives_nil W) (by simp) (by simp [Rises]) (by simp) ⟨#[]⟩ ⟨#[]⟩ (by decide) (by decide) s t r hS hU hV 5 (by omega)).mono fun _ _ h => h.zero rfl
theorem nilArc_is (W : World) (s : Nat) (a b : Int) (ha : 0 ≤ a) (ha2 : a < 18446744073709551616) (hb : 0 ≤ b) (hb2 : b < 18446744073709551616) (hS : W.heap[s]? = some (.cells #[.pointer none] 27)) (hab : W.heap[s + 1]? = some (.cells #[.int .u64 a, .int .u64 b] 25)) : Calls Tryz.prog 14 #[.func (.func 28) #[] #[.pointer (some ⟨s, 0, none⟩), .pointer (some ⟨s + 1, 0, none⟩)], .int .i64 5] W fun e W' => ∃ ao c, e = .returned (.slice ao 0 c) ∧ Below W.heap.size W W' :=
  (colArc (gives_nil W) (by simp) (by simp) ha ha2 hb hb2 s hS hab 5 (by omega)).mono fun _ _ h => h.zero (by have := arcL_len_le ha ha2 hb hb2 ([] : List It); simpa using this)
theorem take_min {α : Type} (L : List α) (m : Nat) : L.take m = L.take (min L.length m) := by
  rcases Nat.le_total L.length m with c | c
  · rw [Nat.min_eq_left c, List.take_length, List.take_of_length_le c]
  · rw [Nat.min_eq_right c]
end Go.Proofs.YthknenhcnpgkcaaGreat
