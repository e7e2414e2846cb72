/- ShelfMany answers true for every four ints: the walk. -/
import Derived.Test.YthknenhcnpgkcaaMap2
import Derived.Test.YthknenhcnpgkcaaMq
import Derived.IntWalk
import Derived.Deep.RegionWith
import Derived.Deep.DeepCutAuto
import Derived.Deep.DeepMust
namespace Go.Proofs.Ythknenhcnpgkcaa
open Go.RowKit
set_option linter.unusedVariables false
set_option linter.unusedSimpArgs false
section
variable {P : Program} {w : World} {ops : Array Oper} {rest : List Oper} {o : Oper} {a : Act} {Q : Exit → Act → World → Prop}
theorem wpList_len_run (hg : o.guard = none) (m : Operand) (t : TypeId) (hop : o.op = Op.call { callee := Callee.builtin Builtin.len, args := #[m], argTypes := #[t] }) (v r : Value) (hm : a.eval m = v) (hrun : (Builtin.len_ #[t] o.type #[v]).run P w = .ok r w)
    (hK : wpList P ops Q rest (a.put o.dst r) w) : wpList P ops Q (o :: rest) a w := by
  refine wpList_plain hg fun K' hK' => ?_
  unfold Oper.wp
  simp [execOp, hop, resolve, invoke, builtin, hm, hrun, Result.andThen]
  exact hK' _ _ hK
theorem wpList_delete_run {w' : World} (hg : o.guard = none) (m x : Operand) (t k : TypeId) (hop : o.op = Op.call { callee := Callee.builtin Builtin.delete, args := #[m, x], argTypes := #[t, k] }) (v y : Value) (hm : a.eval m = v) (hx : a.eval x = y) (hrun : (Builtin.delete_ #[t, k] o.type #[v, y]).run P w = .ok (.tuple #[]) w')
    (hK : wpList P ops Q rest (a.put o.dst (.tuple #[])) w') : wpList P ops Q (o :: rest) a w := by
  refine wpList_plain hg fun K' hK' => ?_
  unfold Oper.wp
  simp [execOp, hop, resolve, invoke, builtin, hm, hx, hrun, Result.andThen]
  exact hK' _ _ hK
theorem wpList_mapUpdate_run {w' : World} (hg : o.guard = none) (m x v : Operand) (t : TypeId) (hop : o.op = Op.mapUpdate t m x v) (vm vx vv : Value) (hm : a.eval m = vm) (hx : a.eval x = vx) (hv : a.eval v = vv) (hrun : (Instr.mapUpdate t vm vx vv).run P w = .ok () w')
    (hK : wpList P ops Q rest (a.put o.dst undef) w') : wpList P ops Q (o :: rest) a w := by
  refine wpList_plain hg fun K' hK' => ?_
  unfold Oper.wp
  simp [execOp, hop, hm, hx, hv, hrun, Result.andThen]
  exact hK' _ _ hK
theorem wpList_lookup_run (hg : o.guard = none) (m x : Operand) (t : TypeId) (hop : o.op = Op.lookup t m x false) (vm vx r : Value) (hm : a.eval m = vm) (hx : a.eval x = vx) (hrun : (Instr.lookup t vm vx false).run P w = .ok r w)
    (hK : wpList P ops Q rest (a.put o.dst r) w) : wpList P ops Q (o :: rest) a w := by
  refine wpList_plain hg fun K' hK' => ?_
  unfold Oper.wp
  simp [execOp, hop, hm, hx, hrun, Result.andThen]
  exact hK' _ _ hK
end
set_option maxRecDepth 100000 in
set_option maxHeartbeats 4000000 in
theorem shelfMany_good (n step less from_ : Nat) (n1 : 1 ≤ n) (n2 : n ≤ 200) (s2 : step ≤ 1000) (l2 : less ≤ n) (f2 : from_ ≤ 1000) (w : World) :
    Calls Try.prog 12 #[.int .i64 n, .int .i64 step, .int .i64 less, .int .i64 from_] w (Makes (.bool true) w) := by
  have d1 : decide ((n : Int) < 1) = false := by simp; omega
  have d2 : decide ((200 : Int) < n) = false := by simp; omega
  have d3 : decide ((less : Int) < 0) = false := by simp
  have d4 : decide ((n : Int) < less) = false := by simp; omega
  have d5 : decide ((step : Int) < 0) = false := by simp
  have d6 : decide ((1000 : Int) < step) = false := by simp; omega
  have d7 : decide ((from_ : Int) < 0) = false := by simp
  have d8 : decide ((1000 : Int) < from_) = false := by simp; omega
  have d4n : ¬ n < less := by omega
  go_enter Try.func12, Try.ntmps12
  go_wp2_with (first | (go_at_call 24; ((with_reducible refine (shAlive_any _).mono ?_)); rintro _ _ ⟨rfl, u, rfl⟩; (try (rw [Fut.put_self u (by first | assumption | (simp [go_sem]; done) | (simp [go_sem]; omega))]))) | (((with_reducible refine wp_region_fut_lit (by kernel_rfl) (by kernel_rfl) ?_)); (repeat (go_big_quiet_step ((first | (go_at_call 24; with_reducible exact Calls.fut_of (shAlive_any _)))))); ((with_reducible refine wpQuiet_nil ?_)); rintro _ ⟨u, rfl⟩; (try (rw [Fut.put_self u (by first | assumption | (simp [go_sem]; done) | (simp [go_sem]; omega))]))))
  clear d1 d2 d3 d4 d5 d6 d7 d8 d4n
  have hbX := u.below
  have hzX := hbX.size
  generalize u.val = X at hbX hzX ⊢
  (((with_reducible refine (sh_new w.heap.size w 200 200 (by decide) _ hbX hzX).mono ?_)); rintro _ W1 ⟨rfl, h1⟩)
  generalize X.heap.size = g at h1 ⊢
  have H1 := hid (ShMap.made h1)
  clear h1 hbX hzX
  have hmm := @run_makeMap Try.prog
  go_wp2_with fail
  generalize W1.heap.size = b at H1 ⊢
  go_loopw [11] (fun i wr => ∃ q : Nat, q ≤ n ∧ i = .int .i64 q ∧ ∃ xs, Hid (Nums q xs) ∧ Hid (ShMap w.heap.size w xs xs g b wr)) (fun i _ => n - (intOf i).toNat)
  case atStart => exact ⟨0, Nat.zero_le _, rfl, [], hid (Nums.nil _), H1⟩
  case round =>
    clear H1 hmm
    obtain ⟨q, hq, rfl, xs, HX, HT⟩ := hrel
    by_cases hlt : q < n
    · obtain ⟨sa, hsa⟩ : ∃ sa, sa = 2 * step := ⟨_, rfl⟩
      obtain ⟨sb, hsb⟩ : ∃ sb, sb = sa + 1 := ⟨_, rfl⟩
      have hm : q * sb ≤ 199 * 2001 := Nat.mul_le_mul (by omega) (by omega)
      obtain ⟨sc, hsc⟩ : ∃ sc, sc = q * sb := ⟨_, rfl⟩
      obtain ⟨sd, hsd⟩ : ∃ sd, sd = from_ + sc := ⟨_, rfl⟩
      obtain ⟨kq, hkq⟩ : ∃ kq, kq = sd % 997 := ⟨_, rfl⟩
      have e1 : IntKind.i64.wrap (2 * (step : Int)) = (sa : Int) := by rw [show 2 * (step : Int) = (sa : Int) by omega]; exact IntWalk.i64_in _ (by omega)
      have e2 : IntKind.i64.wrap ((sa : Int) + 1) = (sb : Int) := by rw [show (sa : Int) + 1 = (sb : Int) by omega]; exact IntWalk.i64_in _ (by omega)
      have e3 : IntKind.i64.wrap ((q : Int) * (sb : Int)) = (sc : Int) := by rw [← Int.natCast_mul, ← hsc]; exact IntWalk.i64_in _ (by omega)
      have e4 : IntKind.i64.wrap ((from_ : Int) + (sc : Int)) = (sd : Int) := by rw [show (from_ : Int) + (sc : Int) = (sd : Int) by omega]; exact IntWalk.i64_in _ (by omega)
      have e5 : (sd : Int).tmod 997 = (kq : Int) := by rw [Int.tmod_eq_emod_of_nonneg (by omega)]; omega
      have hk : kq ≤ 996 := by omega
      obtain ⟨xs', hP, hX'⟩ := HX.out.put (by omega) kq hk
      have HP := hid hP
      have HX' := hid hX'
      obtain ⟨m', hm'⟩ : ∃ m', xs'.length = m' := ⟨_, rfl⟩
      have hml : m' ≤ 200 := by rw [← hm']; have := hX'.len; omega
      have HM := hid hm'
      clear hP hX' hm' hsa hsb hsc hsd hkq hm
      go_wp2_with fail
      (((with_reducible refine (key_is _ kq hk).mono ?_)); rintro _ _ ⟨rfl, u, rfl⟩)
      have HT' := hid (HT.out.on u.below)
      clear HT
      generalize u.val = W2 at HT' ⊢
      go_wp2_with fail
      (((with_reducible refine (map_put HT'.out (by have := HX.out.len; omega) (keyOf kq) ⟨#[118]⟩ 0 xs' HP.out).mono ?_)); rintro _ W3 ⟨rfl, h3⟩)
      obtain ⟨W4, hst, h4⟩ := map_store h3 (by have := HX.out.len; omega) kq hk HP.out
      have H4 := hid h4
      have HST := hid hst
      clear h3 h4 hst HT'
      go_wp2_with (at_mapUpdate; refine wpList_mapUpdate_run (by rfl) _ _ _ _ (by rfl) _ _ _ (by rfl) (by rfl) (by rfl) HST.out ?_)
      (((with_reducible refine (sh_len H4.out.left m' HM.out).mono ?_)); rintro _ _ ⟨rfl, u, rfl⟩)
      have H5 := hid (H4.out.on u.below)
      generalize u.val = W5 at H5 ⊢
      clear H4
      go_wp2_with (at_len; refine wpList_len_run (by rfl) _ _ (by rfl) _ _ (by rfl) (H5.out.had.len m' HM.out _) ?_)
      refine (sh_depth H5.out.left (by have := HM.out; omega)).mono ?_
      rintro _ _ ⟨⟨D, rfl, hD, -, hD2, -⟩, u, rfl⟩
      rw [HM.out] at hD
      have H6 := hid (H5.out.on u.below)
      generalize u.val = W6 at H6 ⊢
      clear H5
      have hlen6 := H6.out.had.len m' HM.out 3
      go_wp2_with fail
      clear hlen6
      (((with_reducible refine (deep_is _ m' (by omega)).mono ?_)); rintro _ _ ⟨rfl, u, rfl⟩)
      have H7 := hid (H6.out.on u.below)
      generalize u.val = W7 at H7 ⊢
      clear H6
      have d6 : decide (deepN m' < D) = false := by simp; omega
      have d6i : decide (((deepN m' : Nat) : Int) < (D : Int)) = false := by simp; omega
      have d6n : ¬ deepN m' < D := by omega
      go_wp2
      go_roundw
      case rel => exact ⟨q + 1, by omega, by go_num, xs', HX', H7⟩
      case measure => simp [intOf]; omega
    · obtain rfl : n = q := by omega
      clear hlt hq
      go_wp2_with fail
      go_loopw [13] (fun i wr => ∃ q : Nat, q ≤ less ∧ i = .int .i64 q ∧ ∃ xs, Hid (Nums n xs) ∧ Hid (ShMap w.heap.size w xs xs g b wr)) (fun i _ => less - (intOf i).toNat)
      case atStart => exact ⟨0, Nat.zero_le _, rfl, xs, HX, HT⟩
      case round =>
        clear HX HT xs
        obtain ⟨q, hq, rfl, xs, HX, HT⟩ := hrel
        by_cases hlt : q < less
        · obtain ⟨qq, hqq⟩ : ∃ qq, qq = q * q := ⟨_, rfl⟩
          obtain ⟨sa, hsa⟩ : ∃ sa, sa = 2 * step := ⟨_, rfl⟩
          obtain ⟨sb, hsb⟩ : ∃ sb, sb = sa + 1 := ⟨_, rfl⟩
          have hm0 : q * q ≤ 199 * 199 := Nat.mul_le_mul (by omega) (by omega)
          have hm : qq * sb ≤ (199 * 199) * 2001 := Nat.mul_le_mul (by omega) (by omega)
          obtain ⟨sc, hsc⟩ : ∃ sc, sc = qq * sb := ⟨_, rfl⟩
          obtain ⟨sd, hsd⟩ : ∃ sd, sd = from_ + sc := ⟨_, rfl⟩
          obtain ⟨kq, hkq⟩ : ∃ kq, kq = sd % 997 := ⟨_, rfl⟩
          have e0 : IntKind.i64.wrap ((q : Int) * (q : Int)) = (qq : Int) := by rw [← Int.natCast_mul, ← hqq]; exact IntWalk.i64_in _ (by omega)
          have e1 : IntKind.i64.wrap (2 * (step : Int)) = (sa : Int) := by rw [show 2 * (step : Int) = (sa : Int) by omega]; exact IntWalk.i64_in _ (by omega)
          have e2 : IntKind.i64.wrap ((sa : Int) + 1) = (sb : Int) := by rw [show (sa : Int) + 1 = (sb : Int) by omega]; exact IntWalk.i64_in _ (by omega)
          have e3 : IntKind.i64.wrap ((qq : Int) * (sb : Int)) = (sc : Int) := by rw [← Int.natCast_mul, ← hsc]; exact IntWalk.i64_in _ (by omega)
          have e4 : IntKind.i64.wrap ((from_ : Int) + (sc : Int)) = (sd : Int) := by rw [show (from_ : Int) + (sc : Int) = (sd : Int) by omega]; exact IntWalk.i64_in _ (by omega)
          have e5 : (sd : Int).tmod 997 = (kq : Int) := by rw [Int.tmod_eq_emod_of_nonneg (by omega)]; omega
          have hk : kq ≤ 996 := by omega
          obtain ⟨bl, hbl⟩ : ∃ bl, (valueOf (keyOf kq) xs).isSome = bl := ⟨_, rfl⟩
          have HBL := hid hbl
          have hxl := HX.out.len
          have HX' := hid (HX.out.del (keyOf kq))
          have HRI := hid HX.out.rises
          obtain ⟨m', hm'⟩ : ∃ m', (delL (keyOf kq) xs).length = m' := ⟨_, rfl⟩
          have hml : m' ≤ 200 := by rw [← hm']; have := HX'.out.len; omega
          have HM := hid hm'
          have K2 := hid (show (keyOf kq).size ≤ maxLen from small_of (v := keyOf kq) (by rw [keyOf_size]; omega))
          clear hm' hsa hsb hsc hsd hkq hm hm0 hqq hbl HX
          go_upto_region 20 with fail
          have hld := (HT.out.on ((Below.refl _ _).drew)).had.look kq hk
          rw [HBL.out] at hld
          cases bl
          all_goals
            go_region_with (first | (go_at_call 27; ((with_reducible refine (key_is _ kq hk).mono ?_)); rintro _ _ ⟨rfl, u, rfl⟩; have HTu := hid (HT.out.on (show Below wr.heap.size wr u.val from (by repeat' (first | exact Below.refl _ _ | with_reducible assumption | omega | with_reducible refine below_put_fut ?_ ?_ _ | with_reducible refine below_to_put ?_ | with_reducible refine Below.alloc ?_ ?_ _ | with_reducible refine Below.fut ?_ ?_ _ | with_reducible refine Below.drew ?_ | with_reducible refine Below.setCell ?_ ?_ _ | with_reducible refine Below.atPut ?_ ?_ _ | (simp [go_sem]; done) | (simp [go_sem]; omega))))); have hlu := HTu.out.had.look kq hk; rw [HBL.out] at hlu) | (go_at_call 51; ((with_reducible refine (map_del HTu.out (by omega) (keyOf kq) K2.out _ HBL.out).mono ?_)); rintro _ W3 ⟨rfl, h3⟩; have hlw := h3.had.look kq hk; rw [HBL.out] at hlw; have H3 := hid h3; clear h3))
            all_goals
              obtain ⟨W4, hst, h4⟩ := map_drop H3.out HRI.out kq hk 0
              have H4 := hid h4
              have HST := hid hst
              clear h4 hst
              go_wp2_with (at_delete; refine wpList_delete_run (by rfl) _ _ _ _ (by rfl) _ _ (by rfl) (by rfl) HST.out ?_)
              (((with_reducible refine (sh_len H4.out.left m' HM.out).mono ?_)); rintro _ _ ⟨rfl, u, rfl⟩)
              have H5 := hid (H4.out.on u.below)
              generalize u.val = W5 at H5 ⊢
              clear H4
              go_wp2_with (at_len; refine wpList_len_run (by rfl) _ _ (by rfl) _ _ (by rfl) (H5.out.had.len m' HM.out _) ?_)
              refine (sh_depth H5.out.left (by have := HM.out; omega)).mono ?_
              rintro _ _ ⟨⟨D, rfl, hD, -, hD2, -⟩, u, rfl⟩
              rw [HM.out] at hD
              have H6 := hid (H5.out.on u.below)
              generalize u.val = W6 at H6 ⊢
              clear H5
              have hlen6 := H6.out.had.len m' HM.out 3
              go_wp2_with fail
              clear hlen6
              (((with_reducible refine (deep_is _ m' (by omega)).mono ?_)); rintro _ _ ⟨rfl, u, rfl⟩)
              have H7 := hid (H6.out.on u.below)
              generalize u.val = W7 at H7 ⊢
              clear H6
              have d6 : decide (deepN m' < D) = false := by simp; omega
              have d6i : decide (((deepN m' : Nat) : Int) < (D : Int)) = false := by simp; omega
              have d6n : ¬ deepN m' < D := by omega
              go_wp2
              go_roundw
              case rel => exact ⟨q + 1, by omega, by go_num, _, HX', H7⟩
              case measure => simp [intOf]; omega
        · obtain rfl : less = q := by omega
          clear hlt hq
          obtain ⟨m', hm'⟩ : ∃ m', xs.length = m' := ⟨_, rfl⟩
          have hml : m' ≤ 200 := by rw [← hm']; have := HX.out.len; omega
          have HM := hid hm'
          clear hm'
          go_wp2_with fail
          refine (sh_items HT.out.left (by have := HM.out; omega)).mono ?_
          rintro _ W5 ⟨a1, c1, rfl, hr1, hb1, -⟩
          rw [HM.out] at hr1 ⊢
          have H5 := hid (HT.out.on hb1)
          have HR1 := hid hr1
          clear hr1 hb1 HT
          go_wp2_with (at_len; refine wpList_len_run (by rfl) _ _ (by rfl) _ _ (by rfl) (H5.out.had.len m' HM.out _) ?_)
          have HCU := hid (Cut.start HX.out)
          have HRI := hid HX.out.rises
          have hlW := H5.out.left.lt
          clear HX
          go_wp2_with fail
          go_loopw [16, 17] (fun x y wr => ∃ a k : Nat, a ≤ m' ∧ k ≤ 997 ∧ x = .int .i64 a ∧ y = .int .i64 k ∧ Hid (Cut k a xs) ∧ ∃ u : Fut W5, wr = u.val) (fun _ y _ => 997 - (intOf y).toNat)
          case atStart => exact ⟨0, 0, Nat.zero_le _, Nat.zero_le _, rfl, rfl, HCU, ⟨⟨_, (by repeat' (first | exact Below.refl _ _ | with_reducible assumption | omega | with_reducible refine below_put_fut ?_ ?_ _ | with_reducible refine below_to_put ?_ | with_reducible refine Below.alloc ?_ ?_ _ | with_reducible refine Below.fut ?_ ?_ _ | with_reducible refine Below.drew ?_ | with_reducible refine Below.setCell ?_ ?_ _ | with_reducible refine Below.atPut ?_ ?_ _ | (simp [go_sem]; done) | (simp [go_sem]; omega)))⟩, rfl⟩⟩
          case round =>
            clear HCU
            obtain ⟨a, k, ha, hk, rfl, rfl, HC, u, rfl⟩ := hrel
            by_cases hlt : k < 997
            · have hll := (H5.out.on u.below).had.look k (by omega)
              have hk6 : k ≤ 996 := by omega
              cases hbl : (valueOf (keyOf k) xs).isSome
              · rw [hbl] at hll
                have HM1 := hid (HC.out.miss hk6 (by cases hv : valueOf (keyOf k) xs with
                  | none => rfl
                  | some v => rw [hv] at hbl; cases hbl))
                clear hbl
                go_wp2_with (at_lookup; refine wpList_lookup_run (by rfl) _ _ _ (by rfl) _ _ _ (by rfl) (by rfl) hll ?_)
                go_roundw
                case rel => exact ⟨a, k + 1, ha, by omega, rfl, by go_num, HM1, ⟨⟨_, (by repeat' (first | exact Below.refl _ _ | with_reducible assumption | omega | with_reducible refine below_put_fut ?_ ?_ _ | with_reducible refine below_to_put ?_ | with_reducible refine Below.alloc ?_ ?_ _ | with_reducible refine Below.fut ?_ ?_ _ | with_reducible refine Below.drew ?_ | with_reducible refine Below.setCell ?_ ?_ _ | with_reducible refine Below.atPut ?_ ?_ _ | (simp [go_sem]; done) | (simp [go_sem]; omega)))⟩, rfl⟩⟩
                case measure => simp [intOf]; omega
              · rw [hbl] at hll
                obtain ⟨x, hx, hxk, hcu⟩ := HC.out.hit HRI.out hk6 hbl
                obtain ⟨rb, rfl, c1, c2, lr⟩ := item_cell HR1.out hx HM.out
                rw [hxk] at c1
                have ham : a < m' := by rw [← HM.out]; exact (List.getElem?_eq_some_iff.1 hx).1
                have hamI : (a : Int) < (m' : Int) := by omega
                have HCUT := hid hcu
                clear hbl hx hxk hcu
                go_wp2_with (at_lookup; refine wpList_lookup_run (by rfl) _ _ _ (by rfl) _ _ _ (by rfl) (by rfl) hll ?_)
                go_region_with (go_at_call 27; ((with_reducible refine (key_is _ k hk6).mono ?_)); rintro _ _ ⟨rfl, u2, rfl⟩)
                all_goals
                  go_wp2_with fail
                  go_roundw
                  case rel => exact ⟨a + 1, k + 1, by omega, by omega, by go_num, by go_num, HCUT, ⟨⟨_, (by repeat' (first | exact Below.refl _ _ | with_reducible assumption | omega | with_reducible refine below_put_fut ?_ ?_ _ | with_reducible refine below_to_put ?_ | with_reducible refine Below.alloc ?_ ?_ _ | with_reducible refine Below.fut ?_ ?_ _ | with_reducible refine Below.drew ?_ | with_reducible refine Below.setCell ?_ ?_ _ | with_reducible refine Below.atPut ?_ ?_ _ | (simp [go_sem]; done) | (simp [go_sem]; omega)))⟩, rfl⟩⟩
                  case measure => simp [intOf]; omega
            · obtain rfl : k = 997 := by omega
              go_wp2_with fail
              go_ret
              exact .mk rfl (H5.out.1.trans (u.below.mono H5.out.left.ge))
theorem shelfMany_walk (n : Int) (wn : (Lit.int .i64 n).wf = true) (step : Int) (ws : (Lit.int .i64 step).wf = true) (less : Int) (wl : (Lit.int .i64 less).wf = true) (from_ : Int) (wf : (Lit.int .i64 from_).wf = true) (w : World) :
    Calls Try.prog 12 #[.int .i64 n, .int .i64 step, .int .i64 less, .int .i64 from_] w (Makes (.bool true) w) := by
  clear wn ws wl wf
  by_cases c : n < 1
  · have d1 : decide (n < 1) = true := by simp; omega
    clear c
    go_enter Try.func12, Try.ntmps12
    go_wp2_with (first | (go_at_call 24; ((with_reducible refine (shAlive_any _).mono ?_)); rintro _ _ ⟨rfl, u, rfl⟩; (try (rw [Fut.put_self u (by first | assumption | (simp [go_sem]; done) | (simp [go_sem]; omega))]))) | (((with_reducible refine wp_region_fut_lit (by kernel_rfl) (by kernel_rfl) ?_)); (repeat (go_big_quiet_step ((first | (go_at_call 24; with_reducible exact Calls.fut_of (shAlive_any _)))))); ((with_reducible refine wpQuiet_nil ?_)); rintro _ ⟨u, rfl⟩; (try (rw [Fut.put_self u (by first | assumption | (simp [go_sem]; done) | (simp [go_sem]; omega))]))))
    go_ret; exact .mk (by first | rfl | (simp; done) | (simp; omega)) (by repeat' (first | exact Below.refl _ _ | with_reducible assumption | omega | with_reducible refine below_put_fut ?_ ?_ _ | with_reducible refine below_to_put ?_ | with_reducible refine Below.alloc ?_ ?_ _ | with_reducible refine Below.fut ?_ ?_ _ | with_reducible refine Below.drew ?_ | with_reducible refine Below.setCell ?_ ?_ _ | with_reducible refine Below.atPut ?_ ?_ _ | (simp [go_sem]; done) | (simp [go_sem]; omega)))
  have d1 : decide (n < 1) = false := by simp; omega
  by_cases c2 : 200 < n
  · have d2 : decide (200 < n) = true := by simp; omega
    clear c c2
    go_enter Try.func12, Try.ntmps12
    go_wp2_with (first | (go_at_call 24; ((with_reducible refine (shAlive_any _).mono ?_)); rintro _ _ ⟨rfl, u, rfl⟩; (try (rw [Fut.put_self u (by first | assumption | (simp [go_sem]; done) | (simp [go_sem]; omega))]))) | (((with_reducible refine wp_region_fut_lit (by kernel_rfl) (by kernel_rfl) ?_)); (repeat (go_big_quiet_step ((first | (go_at_call 24; with_reducible exact Calls.fut_of (shAlive_any _)))))); ((with_reducible refine wpQuiet_nil ?_)); rintro _ ⟨u, rfl⟩; (try (rw [Fut.put_self u (by first | assumption | (simp [go_sem]; done) | (simp [go_sem]; omega))]))))
    go_ret; exact .mk (by first | rfl | (simp; done) | (simp; omega)) (by repeat' (first | exact Below.refl _ _ | with_reducible assumption | omega | with_reducible refine below_put_fut ?_ ?_ _ | with_reducible refine below_to_put ?_ | with_reducible refine Below.alloc ?_ ?_ _ | with_reducible refine Below.fut ?_ ?_ _ | with_reducible refine Below.drew ?_ | with_reducible refine Below.setCell ?_ ?_ _ | with_reducible refine Below.atPut ?_ ?_ _ | (simp [go_sem]; done) | (simp [go_sem]; omega)))
  have d2 : decide (200 < n) = false := by simp; omega
  by_cases c3 : less < 0
  · have d3 : decide (less < 0) = true := by simp; omega
    clear c c2 c3
    go_enter Try.func12, Try.ntmps12
    go_wp2_with (first | (go_at_call 24; ((with_reducible refine (shAlive_any _).mono ?_)); rintro _ _ ⟨rfl, u, rfl⟩; (try (rw [Fut.put_self u (by first | assumption | (simp [go_sem]; done) | (simp [go_sem]; omega))]))) | (((with_reducible refine wp_region_fut_lit (by kernel_rfl) (by kernel_rfl) ?_)); (repeat (go_big_quiet_step ((first | (go_at_call 24; with_reducible exact Calls.fut_of (shAlive_any _)))))); ((with_reducible refine wpQuiet_nil ?_)); rintro _ ⟨u, rfl⟩; (try (rw [Fut.put_self u (by first | assumption | (simp [go_sem]; done) | (simp [go_sem]; omega))]))))
    go_ret; exact .mk (by first | rfl | (simp; done) | (simp; omega)) (by repeat' (first | exact Below.refl _ _ | with_reducible assumption | omega | with_reducible refine below_put_fut ?_ ?_ _ | with_reducible refine below_to_put ?_ | with_reducible refine Below.alloc ?_ ?_ _ | with_reducible refine Below.fut ?_ ?_ _ | with_reducible refine Below.drew ?_ | with_reducible refine Below.setCell ?_ ?_ _ | with_reducible refine Below.atPut ?_ ?_ _ | (simp [go_sem]; done) | (simp [go_sem]; omega)))
  have d3 : decide (less < 0) = false := by simp; omega
  by_cases c4 : n < less
  · have d4 : decide (n < less) = true := by simp; omega
    clear c c2 c3 c4
    go_enter Try.func12, Try.ntmps12
    go_wp2_with (first | (go_at_call 24; ((with_reducible refine (shAlive_any _).mono ?_)); rintro _ _ ⟨rfl, u, rfl⟩; (try (rw [Fut.put_self u (by first | assumption | (simp [go_sem]; done) | (simp [go_sem]; omega))]))) | (((with_reducible refine wp_region_fut_lit (by kernel_rfl) (by kernel_rfl) ?_)); (repeat (go_big_quiet_step ((first | (go_at_call 24; with_reducible exact Calls.fut_of (shAlive_any _)))))); ((with_reducible refine wpQuiet_nil ?_)); rintro _ ⟨u, rfl⟩; (try (rw [Fut.put_self u (by first | assumption | (simp [go_sem]; done) | (simp [go_sem]; omega))]))))
    go_ret; exact .mk (by first | rfl | (simp; done) | (simp; omega)) (by repeat' (first | exact Below.refl _ _ | with_reducible assumption | omega | with_reducible refine below_put_fut ?_ ?_ _ | with_reducible refine below_to_put ?_ | with_reducible refine Below.alloc ?_ ?_ _ | with_reducible refine Below.fut ?_ ?_ _ | with_reducible refine Below.drew ?_ | with_reducible refine Below.setCell ?_ ?_ _ | with_reducible refine Below.atPut ?_ ?_ _ | (simp [go_sem]; done) | (simp [go_sem]; omega)))
  have d4 : decide (n < less) = false := by simp; omega
  by_cases c5 : step < 0
  · have d5 : decide (step < 0) = true := by simp; omega
    clear c c2 c3 c4 c5
    go_enter Try.func12, Try.ntmps12
    go_wp2_with (first | (go_at_call 24; ((with_reducible refine (shAlive_any _).mono ?_)); rintro _ _ ⟨rfl, u, rfl⟩; (try (rw [Fut.put_self u (by first | assumption | (simp [go_sem]; done) | (simp [go_sem]; omega))]))) | (((with_reducible refine wp_region_fut_lit (by kernel_rfl) (by kernel_rfl) ?_)); (repeat (go_big_quiet_step ((first | (go_at_call 24; with_reducible exact Calls.fut_of (shAlive_any _)))))); ((with_reducible refine wpQuiet_nil ?_)); rintro _ ⟨u, rfl⟩; (try (rw [Fut.put_self u (by first | assumption | (simp [go_sem]; done) | (simp [go_sem]; omega))]))))
    go_ret; exact .mk (by first | rfl | (simp; done) | (simp; omega)) (by repeat' (first | exact Below.refl _ _ | with_reducible assumption | omega | with_reducible refine below_put_fut ?_ ?_ _ | with_reducible refine below_to_put ?_ | with_reducible refine Below.alloc ?_ ?_ _ | with_reducible refine Below.fut ?_ ?_ _ | with_reducible refine Below.drew ?_ | with_reducible refine Below.setCell ?_ ?_ _ | with_reducible refine Below.atPut ?_ ?_ _ | (simp [go_sem]; done) | (simp [go_sem]; omega)))
  have d5 : decide (step < 0) = false := by simp; omega
  by_cases c6 : 1000 < step
  · have d6 : decide (1000 < step) = true := by simp; omega
    clear c c2 c3 c4 c5 c6
    go_enter Try.func12, Try.ntmps12
    go_wp2_with (first | (go_at_call 24; ((with_reducible refine (shAlive_any _).mono ?_)); rintro _ _ ⟨rfl, u, rfl⟩; (try (rw [Fut.put_self u (by first | assumption | (simp [go_sem]; done) | (simp [go_sem]; omega))]))) | (((with_reducible refine wp_region_fut_lit (by kernel_rfl) (by kernel_rfl) ?_)); (repeat (go_big_quiet_step ((first | (go_at_call 24; with_reducible exact Calls.fut_of (shAlive_any _)))))); ((with_reducible refine wpQuiet_nil ?_)); rintro _ ⟨u, rfl⟩; (try (rw [Fut.put_self u (by first | assumption | (simp [go_sem]; done) | (simp [go_sem]; omega))]))))
    go_ret; exact .mk (by first | rfl | (simp; done) | (simp; omega)) (by repeat' (first | exact Below.refl _ _ | with_reducible assumption | omega | with_reducible refine below_put_fut ?_ ?_ _ | with_reducible refine below_to_put ?_ | with_reducible refine Below.alloc ?_ ?_ _ | with_reducible refine Below.fut ?_ ?_ _ | with_reducible refine Below.drew ?_ | with_reducible refine Below.setCell ?_ ?_ _ | with_reducible refine Below.atPut ?_ ?_ _ | (simp [go_sem]; done) | (simp [go_sem]; omega)))
  have d6 : decide (1000 < step) = false := by simp; omega
  by_cases c7 : from_ < 0
  · have d7 : decide (from_ < 0) = true := by simp; omega
    clear c c2 c3 c4 c5 c6 c7
    go_enter Try.func12, Try.ntmps12
    go_wp2_with (first | (go_at_call 24; ((with_reducible refine (shAlive_any _).mono ?_)); rintro _ _ ⟨rfl, u, rfl⟩; (try (rw [Fut.put_self u (by first | assumption | (simp [go_sem]; done) | (simp [go_sem]; omega))]))) | (((with_reducible refine wp_region_fut_lit (by kernel_rfl) (by kernel_rfl) ?_)); (repeat (go_big_quiet_step ((first | (go_at_call 24; with_reducible exact Calls.fut_of (shAlive_any _)))))); ((with_reducible refine wpQuiet_nil ?_)); rintro _ ⟨u, rfl⟩; (try (rw [Fut.put_self u (by first | assumption | (simp [go_sem]; done) | (simp [go_sem]; omega))]))))
    go_ret; exact .mk (by first | rfl | (simp; done) | (simp; omega)) (by repeat' (first | exact Below.refl _ _ | with_reducible assumption | omega | with_reducible refine below_put_fut ?_ ?_ _ | with_reducible refine below_to_put ?_ | with_reducible refine Below.alloc ?_ ?_ _ | with_reducible refine Below.fut ?_ ?_ _ | with_reducible refine Below.drew ?_ | with_reducible refine Below.setCell ?_ ?_ _ | with_reducible refine Below.atPut ?_ ?_ _ | (simp [go_sem]; done) | (simp [go_sem]; omega)))
  have d7 : decide (from_ < 0) = false := by simp; omega
  by_cases c8 : 1000 < from_
  · have d8 : decide (1000 < from_) = true := by simp; omega
    clear c c2 c3 c4 c5 c6 c7 c8
    go_enter Try.func12, Try.ntmps12
    go_wp2_with (first | (go_at_call 24; ((with_reducible refine (shAlive_any _).mono ?_)); rintro _ _ ⟨rfl, u, rfl⟩; (try (rw [Fut.put_self u (by first | assumption | (simp [go_sem]; done) | (simp [go_sem]; omega))]))) | (((with_reducible refine wp_region_fut_lit (by kernel_rfl) (by kernel_rfl) ?_)); (repeat (go_big_quiet_step ((first | (go_at_call 24; with_reducible exact Calls.fut_of (shAlive_any _)))))); ((with_reducible refine wpQuiet_nil ?_)); rintro _ ⟨u, rfl⟩; (try (rw [Fut.put_self u (by first | assumption | (simp [go_sem]; done) | (simp [go_sem]; omega))]))))
    go_ret; exact .mk (by first | rfl | (simp; done) | (simp; omega)) (by repeat' (first | exact Below.refl _ _ | with_reducible assumption | omega | with_reducible refine below_put_fut ?_ ?_ _ | with_reducible refine below_to_put ?_ | with_reducible refine Below.alloc ?_ ?_ _ | with_reducible refine Below.fut ?_ ?_ _ | with_reducible refine Below.drew ?_ | with_reducible refine Below.setCell ?_ ?_ _ | with_reducible refine Below.atPut ?_ ?_ _ | (simp [go_sem]; done) | (simp [go_sem]; omega)))
  obtain ⟨n', rfl⟩ := Int.eq_ofNat_of_zero_le (show 0 ≤ n by omega)
  obtain ⟨s', rfl⟩ := Int.eq_ofNat_of_zero_le (show 0 ≤ step by omega)
  obtain ⟨l', rfl⟩ := Int.eq_ofNat_of_zero_le (show 0 ≤ less by omega)
  obtain ⟨f', rfl⟩ := Int.eq_ofNat_of_zero_le (show 0 ≤ from_ by omega)
  exact shelfMany_good n' s' l' f' (by omega) (by omega) (by omega) (by omega) (by omega) w
end Go.Proofs.Ythknenhcnpgkcaa
