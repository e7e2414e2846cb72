/- BagWays answers true for every two numbers, and leaves its arguments as they were. No condition. -/
import Derived.Test.YthgajbfgolcpkaaBag8
import Derived.Test.YthgajbfgolcpkaaAcks
import Derived.Test.YthgajbfgolcpkaaFrame
namespace Go.Proofs.Ythgajbfgolcpkaa
open Go.ChangeShapes Go.WideShapes Go.ChangeAt Go.RowKit Go.Joins
set_option linter.unusedVariables false
set_option linter.unusedSimpArgs false
set_option maxRecDepth 100000 in
set_option maxHeartbeats 4000000 in
theorem bagWays_good (n stop : Nat) (h1 : n ≤ 50) (h2 : 1 ≤ stop) (h3 : stop ≤ 60) (w : World) :
    Calls Try.prog 3 #[.int .i64 n, .int .i64 stop] w (Makes (.bool true) w) := by
  have d1 : decide ((n : Int) < 0) = false := by simp
  have d2 : decide ((50 : Int) < n) = false := by simp; omega
  have d3 : decide ((stop : Int) < 1) = false := by simp; omega
  have d4 : decide ((60 : Int) < stop) = false := by simp; omega
  go_enter Try.func3, Try.ntmps3
  go_wp2_with (first | (go_at_call 17; ((with_reducible refine (bagAlive_any _).mono ?_)); rintro _ _ ⟨rfl, u, rfl⟩; (try (rw [Fut.put_self u (by first | assumption | (simp [go_sem]; done) | (simp [go_sem]; omega))]))) | (((with_reducible refine wp_region_fut_lit (by kernel_rfl) (by kernel_rfl) ?_)); (repeat (go_big_quiet_step ((first | (go_at_call 17; with_reducible exact Calls.fut_of (bagAlive_any _)))))); ((with_reducible refine wpQuiet_nil ?_)); rintro _ ⟨u, rfl⟩; (try (rw [Fut.put_self u (by first | assumption | (simp [go_sem]; done) | (simp [go_sem]; omega))]))))
  obtain ⟨B, hB⟩ : ∃ B : Base, B = ⟨w.alloc (.cells #[.int .i64 stop] 3), fun _ => none⟩ := ⟨_, rfl⟩
  have hBk : ∀ k, B.keep k = none := by rw [hB]; exact fun _ => rfl
  have hBw : B.toWorld = w.alloc (.cells #[.int .i64 stop] 3) := by rw [hB]
  have hP0 : B.heap[w.heap.size]? = some (.cells #[.int .i64 stop] 3) := by rw [hBw]; exact heap_alloc_at _ _ _ rfl
  have HBK := hid hBk
  (((with_reducible refine (bag_new 100 100 rfl B HBK _ (by rw [hB]; exact u.below)).mono ?_)); rintro _ W1 ⟨g, rfl, hb1⟩)
  have HB := hid hBw
  have HP0 := hid hP0
  have HB1 := hid hb1
  clear hB hBk hBw hP0 hb1 d1 d2 d3 d4
  go_wp2_with fail
  go_loopw [6] (fun i wr => ∃ m : Nat, m ≤ n ∧ i = .int .i64 m ∧ Hid (Bag 100 B g (acks m) wr)) (fun i _ => n - (intOf i).toNat)
  case atStart => exact ⟨0, Nat.zero_le _, rfl, HB1⟩
  case round =>
    obtain ⟨m, hm, rfl, hb⟩ := hrel
    by_cases hlt : m < n
    · go_wp2_with fail
      (((with_reducible refine (bag_put hb.out (by rw [acks_length]; omega) (by decide) 0 0 0 m).mono ?_)); rintro _ W2 ⟨rfl, hb2⟩)
      rw [acks_succ] at hb2
      have HB2 := hid hb2
      clear hb2
      go_wp2_with fail
      go_roundw
      case rel => exact ⟨m + 1, by omega, by go_num, HB2⟩
      case measure => simp [intOf]; omega
    · obtain rfl : m = n := by omega
      clear HB1 hm
      go_wp2_with fail
      go_loopw [7] (fun i wr => ∃ q : Nat, q ≤ 2 ∧ i = .int .i64 q ∧ Hid (Bag 100 B g (acks m) wr)) (fun i _ => 2 - (intOf i).toNat)
      case atStart => exact ⟨0, by omega, rfl, hb⟩
      case round =>
        obtain ⟨q, hq, rfl, hb2⟩ := hrel
        clear hb
        have HB2 := hid (hb2.out.box (.cells #[.int .i64 0] 3))
        have hz := hb2.out.size
        by_cases hlt2 : q < 2
        · go_wp2_with fail
          (((with_reducible refine (bagAll_is g _).mono ?_)); rintro _ _ ⟨rfl, rfl⟩)
          go_wp2_with fail
          obtain ⟨v, hv⟩ := (HB2.out.on (W' := (wr.alloc (.cells #[.int .i64 0] 3)).alloc (.cells #[.pointer (some ⟨g, 0, none⟩)] 23)) (by repeat' (first | exact Below.refl _ _ | with_reducible assumption | omega | with_reducible refine below_put_fut ?_ ?_ _ | with_reducible refine below_to_put ?_ | with_reducible refine Below.alloc ?_ ?_ _ | with_reducible refine Below.fut ?_ ?_ _ | with_reducible refine Below.drew ?_ | with_reducible refine Below.setCell ?_ ?_ _ | with_reducible refine Below.atPut ?_ ?_ _ | (simp [go_sem]; done) | (simp [go_sem]; omega)))).ex
          have hbx : ((wr.alloc (.cells #[.int .i64 0] 3)).alloc (.cells #[.pointer (some ⟨g, 0, none⟩)] 23)).heap[wr.heap.size + 1]? = some (.cells #[.pointer (some ⟨g, 0, none⟩)] 23) := (by repeat' (first | rfl | assumption | (with_reducible refine (heap_drew_eq _ _).trans ?_) | (refine (Fut.heap _ _ ?_).trans ?_ ; focus (first | assumption | omega | (simp [go_sem]; done) | (simp [go_sem]; omega))) | (refine (heap_put_at _ _ _ ?_).trans ?_ ; focus (first | assumption | omega | (simp [go_sem]; done) | (simp [go_sem]; omega))) | (refine (heap_put_other _ _ _ _ ?_).trans ?_ ; focus (first | assumption | omega | (simp [go_sem]; done) | (simp [go_sem]; omega))) | (refine (heap_alloc_other _ _ _ ?_).trans ?_ ; focus (first | assumption | omega | (simp [go_sem]; done) | (simp [go_sem]; omega))) | (refine (heap_alloc_at _ _ _ ?_).trans ?_ ; focus (first | assumption | omega | (simp [go_sem]; done) | (simp [go_sem]; omega))) | (simp [go_sem]; done) | (simp [go_sem]; omega)))
          have hP := lt_of_heap HP0.out
          have hY : ∀ k p X, (acks m)[k]? = some p → (k < stop ∧ Bag 100 (B.with wr.heap.size (.cells #[.int .i64 k] 3)) g (acks m) X) → Calls Try.prog 21 #[.int .i64 k, .agg (pk p.1 p.2.1 p.2.2.1 p.2.2.2), .pointer (some ⟨wr.heap.size, 0, none⟩), .pointer (some ⟨w.heap.size, 0, none⟩)] X fun e X' => (e = .returned (.bool true) ∧ (k + 1 < stop ∧ Bag 100 (B.with wr.heap.size (.cells #[.int .i64 ((k + 1 : Nat) : Int)] 3)) g (acks m) X') ∧ KpS (fun j => j = wr.heap.size) X X') ∨ (e = .returned (.bool false) ∧ (k + 1 = stop ∧ Bag 100 (B.with wr.heap.size (.cells #[.int .i64 ((k + 1 : Nat) : Int)] 3)) g (acks m) X')) := by
            rintro k p X hp ⟨hk, hbag⟩
            have hkm : k < m := by have := (List.getElem?_eq_some_iff.1 hp).1; rwa [acks_length] at this
            rw [acks_at hkm] at hp
            cases hp
            have hM := hbag.kept (Base.with_self _ _ _)
            have hX0 := (hbag.below.block w.heap.size hP).trans HP0.out
            refine (ways_fn k stop (by omega) (by omega) wr.heap.size w.heap.size 0 0 0 X hM hX0 (by omega)).mono ?_
            rintro e X' ⟨rfl, P, rfl⟩
            have hl := lt_of_heap hM
            have hb9 := hbag.rekeep (q' := .cells #[.int .i64 ((k + 1 : Nat) : Int)] 3) (W' := put (X.alloc P) wr.heap.size (.cells #[.int .i64 ((k : Int) + 1)] 3)) hz (by
              rw [show ((k + 1 : Nat) : Int) = (k : Int) + 1 from by omega]
              exact below_to_put ((Below.refl _ _).alloc (Nat.le_refl _) _))
            have hkp : KpS (fun j => j = wr.heap.size) X (put (X.alloc P) wr.heap.size (.cells #[.int .i64 ((k : Int) + 1)] 3)) := KpS.chg (((Chg.refl (fun j => j = wr.heap.size) X).alloc P).put (g := wr.heap.size) (fun _ => rfl) _)
            rcases Nat.lt_or_ge (k + 1) stop with c | c
            · rw [show decide (k + 1 < stop) = true from by simpa using c]
              exact .inl ⟨rfl, ⟨c, hb9⟩, hkp⟩
            · rw [show decide (k + 1 < stop) = false from by simpa using c]
              exact .inr ⟨rfl, by omega, hb9⟩
          have hcall := bagAll1_ways hv (by rw [acks_length]; omega) (wr.heap.size + 1) (cell_of_row _ _ 0 _ _ (0, 0) hbx) (fun j => j = wr.heap.size) (fun j hj => by rw [hj]; simp; omega) wr.heap.size w.heap.size
            (fun k X => k < stop ∧ Bag 100 (B.with wr.heap.size (.cells #[.int .i64 k] 3)) g (acks m) X) (fun k X => k = stop ∧ Bag 100 (B.with wr.heap.size (.cells #[.int .i64 k] 3)) g (acks m) X)
            (fun k X Y hx hb => ⟨hx.1, hx.2.on hb⟩) hY ⟨by omega, HB2.out.on (by repeat' (first | exact Below.refl _ _ | with_reducible assumption | omega | with_reducible refine below_put_fut ?_ ?_ _ | with_reducible refine below_to_put ?_ | with_reducible refine Below.alloc ?_ ?_ _ | with_reducible refine Below.fut ?_ ?_ _ | with_reducible refine Below.drew ?_ | with_reducible refine Below.setCell ?_ ?_ _ | with_reducible refine Below.atPut ?_ ?_ _ | (simp [go_sem]; done) | (simp [go_sem]; omega)))⟩
          clear hbx hv hY
          refine hcall.mono ?_
          clear hcall
          rintro e W5 ⟨⟨v', rfl⟩, hj⟩
          obtain ⟨c, hmin, hb5⟩ : ∃ c : Nat, min (m : Int) stop = (c : Int) ∧ Bag 100 (B.with wr.heap.size (.cells #[.int .i64 c] 3)) g (acks m) W5 := by
            rcases hj with ⟨hlt5, hb5⟩ | ⟨k, hk5, rfl, hb5⟩
            · rw [acks_length] at hlt5 hb5
              exact ⟨m, by omega, hb5⟩
            · rw [acks_length] at hk5
              exact ⟨k, by omega, hb5⟩
          clear hj
          have cM := fun i => cell_of_row W5 wr.heap.size i _ _ (0, 0) (hb5.kept (Base.with_self _ _ _))
          have cP := fun i => cell_of_row W5 w.heap.size i _ _ (0, 0) ((hb5.below.block w.heap.size hP).trans HP0.out)
          have HB5 := hid (hb5.bare HBK.out)
          clear hb5
          go_wp2_with fail
          go_roundw
          case rel => exact ⟨q + 1, by omega, by go_num, HB5⟩
          case measure => simp [intOf]; omega
        · obtain rfl : q = 2 := by omega
          have hbel : Below w.heap.size w wr := by
            have := hb2.out.below
            rw [HB.out] at this
            exact ((Below.refl _ _).alloc (Nat.le_refl _) _).trans (this.mono (by simp))
          go_wp2_with fail
          go_ret
          exact .mk rfl hbel
theorem bagWays_walk (n : Int) (wn : (Lit.int .i64 n).wf = true) (stop : Int) (ws : (Lit.int .i64 stop).wf = true) (w : World) :
    Calls Try.prog 3 #[.int .i64 n, .int .i64 stop] w (Makes (.bool true) w) := by
  clear wn ws
  rcases Int.lt_or_le n 0 with c | c
  · have d1 : decide (n < 0) = true := by simpa using c
    go_enter Try.func3, Try.ntmps3
    go_wp2_with (first | (go_at_call 17; ((with_reducible refine (bagAlive_any _).mono ?_)); rintro _ _ ⟨rfl, u, rfl⟩; (try (rw [Fut.put_self u (by first | assumption | (simp [go_sem]; done) | (simp [go_sem]; omega))]))) | (((with_reducible refine wp_region_fut_lit (by kernel_rfl) (by kernel_rfl) ?_)); (repeat (go_big_quiet_step ((first | (go_at_call 17; with_reducible exact Calls.fut_of (bagAlive_any _)))))); ((with_reducible refine wpQuiet_nil ?_)); rintro _ ⟨u, rfl⟩; (try (rw [Fut.put_self u (by first | assumption | (simp [go_sem]; done) | (simp [go_sem]; omega))]))))
    go_ret; exact .mk (by first | rfl | (simp; done) | (simp; omega)) (by repeat' (first | exact Below.refl _ _ | with_reducible assumption | omega | with_reducible refine below_put_fut ?_ ?_ _ | with_reducible refine below_to_put ?_ | with_reducible refine Below.alloc ?_ ?_ _ | with_reducible refine Below.fut ?_ ?_ _ | with_reducible refine Below.drew ?_ | with_reducible refine Below.setCell ?_ ?_ _ | with_reducible refine Below.atPut ?_ ?_ _ | (simp [go_sem]; done) | (simp [go_sem]; omega)))
  have d1 : decide (n < 0) = false := by simp; omega
  rcases Int.lt_or_le 50 n with c2 | c2
  · have d2 : decide (50 < n) = true := by simpa using c2
    go_enter Try.func3, Try.ntmps3
    go_wp2_with (first | (go_at_call 17; ((with_reducible refine (bagAlive_any _).mono ?_)); rintro _ _ ⟨rfl, u, rfl⟩; (try (rw [Fut.put_self u (by first | assumption | (simp [go_sem]; done) | (simp [go_sem]; omega))]))) | (((with_reducible refine wp_region_fut_lit (by kernel_rfl) (by kernel_rfl) ?_)); (repeat (go_big_quiet_step ((first | (go_at_call 17; with_reducible exact Calls.fut_of (bagAlive_any _)))))); ((with_reducible refine wpQuiet_nil ?_)); rintro _ ⟨u, rfl⟩; (try (rw [Fut.put_self u (by first | assumption | (simp [go_sem]; done) | (simp [go_sem]; omega))]))))
    go_ret; exact .mk (by first | rfl | (simp; done) | (simp; omega)) (by repeat' (first | exact Below.refl _ _ | with_reducible assumption | omega | with_reducible refine below_put_fut ?_ ?_ _ | with_reducible refine below_to_put ?_ | with_reducible refine Below.alloc ?_ ?_ _ | with_reducible refine Below.fut ?_ ?_ _ | with_reducible refine Below.drew ?_ | with_reducible refine Below.setCell ?_ ?_ _ | with_reducible refine Below.atPut ?_ ?_ _ | (simp [go_sem]; done) | (simp [go_sem]; omega)))
  have d2 : decide (50 < n) = false := by simp; omega
  rcases Int.lt_or_le stop 1 with c3 | c3
  · have d3 : decide (stop < 1) = true := by simpa using c3
    go_enter Try.func3, Try.ntmps3
    go_wp2_with (first | (go_at_call 17; ((with_reducible refine (bagAlive_any _).mono ?_)); rintro _ _ ⟨rfl, u, rfl⟩; (try (rw [Fut.put_self u (by first | assumption | (simp [go_sem]; done) | (simp [go_sem]; omega))]))) | (((with_reducible refine wp_region_fut_lit (by kernel_rfl) (by kernel_rfl) ?_)); (repeat (go_big_quiet_step ((first | (go_at_call 17; with_reducible exact Calls.fut_of (bagAlive_any _)))))); ((with_reducible refine wpQuiet_nil ?_)); rintro _ ⟨u, rfl⟩; (try (rw [Fut.put_self u (by first | assumption | (simp [go_sem]; done) | (simp [go_sem]; omega))]))))
    go_ret; exact .mk (by first | rfl | (simp; done) | (simp; omega)) (by repeat' (first | exact Below.refl _ _ | with_reducible assumption | omega | with_reducible refine below_put_fut ?_ ?_ _ | with_reducible refine below_to_put ?_ | with_reducible refine Below.alloc ?_ ?_ _ | with_reducible refine Below.fut ?_ ?_ _ | with_reducible refine Below.drew ?_ | with_reducible refine Below.setCell ?_ ?_ _ | with_reducible refine Below.atPut ?_ ?_ _ | (simp [go_sem]; done) | (simp [go_sem]; omega)))
  have d3 : decide (stop < 1) = false := by simp; omega
  rcases Int.lt_or_le 60 stop with c4 | c4
  · have d4 : decide (60 < stop) = true := by simpa using c4
    go_enter Try.func3, Try.ntmps3
    go_wp2_with (first | (go_at_call 17; ((with_reducible refine (bagAlive_any _).mono ?_)); rintro _ _ ⟨rfl, u, rfl⟩; (try (rw [Fut.put_self u (by first | assumption | (simp [go_sem]; done) | (simp [go_sem]; omega))]))) | (((with_reducible refine wp_region_fut_lit (by kernel_rfl) (by kernel_rfl) ?_)); (repeat (go_big_quiet_step ((first | (go_at_call 17; with_reducible exact Calls.fut_of (bagAlive_any _)))))); ((with_reducible refine wpQuiet_nil ?_)); rintro _ ⟨u, rfl⟩; (try (rw [Fut.put_self u (by first | assumption | (simp [go_sem]; done) | (simp [go_sem]; omega))]))))
    go_ret; exact .mk (by first | rfl | (simp; done) | (simp; omega)) (by repeat' (first | exact Below.refl _ _ | with_reducible assumption | omega | with_reducible refine below_put_fut ?_ ?_ _ | with_reducible refine below_to_put ?_ | with_reducible refine Below.alloc ?_ ?_ _ | with_reducible refine Below.fut ?_ ?_ _ | with_reducible refine Below.drew ?_ | with_reducible refine Below.setCell ?_ ?_ _ | with_reducible refine Below.atPut ?_ ?_ _ | (simp [go_sem]; done) | (simp [go_sem]; omega)))
  · obtain ⟨n, rfl⟩ := Int.eq_ofNat_of_zero_le c
    obtain ⟨stop, rfl⟩ := Int.eq_ofNat_of_zero_le (show 0 ≤ stop by omega)
    exact bagWays_good n stop (by omega) (by omega) (by omega) w
set_option maxRecDepth 100000 in
theorem bagWays_lifted (os : Os) (started : os.Started) (H : Type) (enc : TypeId × Value → H) :
    ReturnsInHanded {} Try.checked os 3 .any (Rows.bagWaysSpec.pre6 enc Try.prog Try.f3 Rows.bagWaysRow.domain false) (Rows.bagWaysSpec.post enc Try.prog Try.f3 false true false false) := by
  refine returnsInHanded_of_change (C := Try.checked) own started (by kernel_rfl) Try.func3
    (ChangeSpec.witness6 (enc := enc) (C := Try.checked) false ⟨#[], #[.int .i64 0, .int .i64 0], []⟩ 8 (by kernel_rfl) (by kernel_rfl) (by kernel_rfl) (by kernel_rfl)) ?_
  intro W base args ds gs before hval0 hW hcnd _
  have hval : ∀ (j : Nat) t v, Try.f3.params[j]? = some t → args[j]? = some v → Value.okWide Try.prog W .any base t v := hval0
  have hW' := hW
  obtain ⟨p, q, hA0, hV, rfl, hfz, hnd⟩ := hW
  have hA : DataW.TrodAll enc Try.prog W 0 (fun _ => true) true Try.f3.params.toList args.toList ds p := hA0
  rw [Try.params3] at hA hval
  obtain ⟨v0, vs0, d0, ds0, p0, q0, hargs, rfl, rfl, h0, r0⟩ := trodAll_cons hA
  obtain ⟨v1, vs1, d1, ds1, p1, q1, rfl, rfl, rfl, h1, r1⟩ := trodAll_cons r0
  obtain ⟨rfl, rfl, rfl⟩ := trodAll_nil r1
  obtain rfl : args = #[v0, v1] := by cases args; simp_all
  obtain ⟨rfl, rfl⟩ := trodVars_none hV
  have k0 := h0
  have lt0 : ∀ x ∈ p0, x.block < W.heap.size := by obtain ⟨m, hm⟩ := k0; exact DataW.trod_lt m _ _ _ hm
  obtain ⟨a0, rfl, -, -, w0⟩ := open_int Try.underlying3 (hval 0 3 v0 rfl rfl) h0
  have k1 := h1
  have lt1 : ∀ x ∈ p1, x.block < W.heap.size := by obtain ⟨m, hm⟩ := k1; exact DataW.trod_lt m _ _ _ hm
  obtain ⟨a1, rfl, -, -, w1⟩ := open_int Try.underlying3 (hval 1 3 v1 rfl rfl) h1
  clear hA0 hval0
  refine (bagWays_walk a0 w0 a1 w1 W).mono fun e W' ⟨he, u, hu⟩ => ?_
  subst he; subst hu
  have bel := u.below
  exact ⟨_, rfl, _, _, _, [], _, [], hW', trodAll_mk1 (shut_bool Try.underlying4 _), (trodAll_cons_mk (Below.trod laidOut (by kernel_rfl) (of_decide_eq_true (by kernel_rfl)) k0 bel lt0) (trodAll_cons_mk (Below.trod laidOut (by kernel_rfl) (of_decide_eq_true (by kernel_rfl)) k1 bel lt1) trodAll_mk0)), rfl, bel.frame _, fun h => by cases h⟩
/-- The statement. -/
theorem bagWays_holds : Rows.BagWaysSaid :=
  OpenClaim.holds_of_wide 3 Try.f3 rfl rfl rfl rfl rfl rfl rfl ⟨rfl, rfl, rfl, rfl, rfl⟩ rfl rfl rfl rfl rfl (by kernel_rfl) Try.func3 (by kernel_rfl)
    (of_decide_eq_true (by kernel_rfl)) (by unfold Func.isWrapper; first | (rw [if_pos (by decide +kernel)]; kernel_rfl) | (rw [if_neg (by decide +kernel)]; exact ⟨rfl, rfl⟩))
    (fun os started H enc _ => bagWays_lifted os started H enc)
#print axioms bagWays_holds
end Go.Proofs.Ythgajbfgolcpkaa
