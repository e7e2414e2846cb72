/- CutSizes answers true for every number: the walk. -/
import Derived.Test.YthknenhcnpgkcaaCut9
import Derived.Laws.BytesArg
import Derived.BigQuiet
namespace Go.Proofs.Ythknenhcnpgkcaa
open Go.RowKit Go.Shelf
set_option linter.unusedVariables false
set_option linter.unusedSimpArgs false
def zk (i : Nat) : It := (strOfNums [(i : Int)], ⟨#[]⟩)
def zList (n : Nat) : List It := (List.range n).map zk
theorem below_drewN' {B : Nat} {a w : World} (h : Below B a w) (n : Nat) : Below B a (w.drewN n) := h.trans ⟨rfl, rfl, rfl, Nat.le_refl _, fun _ _ => rfl⟩
theorem zList_succ (n : Nat) : zList (n + 1) = zList n ++ [zk n] := by unfold zList; rw [List.range_succ, List.map_append]; rfl
theorem zList_len (n : Nat) : (zList n).length = n := by simp [zList]
theorem zList_at {n i : Nat} (h : i < n) : (zList n)[i]? = some (zk i) := by simp [zList, h]
theorem conv_zk (w : World) (a : Int) : (convert 61 9 (.slice (some ⟨w.heap.size, 0, none⟩) 1 1)).run Try.prog (w.alloc (.cells #[.int .u8 a] 5)) = .ok (.string (strOfNums [a])) (w.alloc (.cells #[.int .u8 a] 5)) := by
  refine run_convert_bytes_arg (P := Try.prog) _ 61 5 Try.underlying61 Try.underlying5 w.heap.size 0 _ _ [a] rfl (fun i hi => ?_) _ Try.underlying9
  rw [World.cell?_alloc_new]
  have hi : i < 1 := hi
  obtain rfl : i = 0 := by omega
  rfl
theorem sl_cell {W : World} {ao : Option Addr} {n c : Nat} {vs : List Value} (h : Row W 28 1 (.slice ao n c) n vs) {i : Nat} {x : Value} (hx : vs[i]? = some x) (hn : vs.length = n) : ∃ r, ao = some ⟨r, 0, none⟩ ∧ W.cell? ⟨r, i, none⟩ = some x ∧ r < W.heap.size := by
  have hi : i < n := by rw [← hn]; exact (List.getElem?_eq_some_iff.1 hx).1
  obtain ⟨r, c', hv, _, hr⟩ := World.ownsRow.form h (by omega)
  obtain rfl : ao = some ⟨r, 0, none⟩ := by injection hv
  refine ⟨r, rfl, ?_, hr⟩
  rw [h.cellAt i (by omega)]
  exact hx
theorem chunk_at {its : List It} {j k : Nat} (hk : k < (chunk its j).length) : (chunk its j)[k]? = its[4 * j + k]? := by
  unfold chunk at hk ⊢
  rw [List.length_take] at hk
  rw [List.getElem?_take_of_lt (by omega), List.getElem?_drop]
theorem chunk_len (its : List It) (j : Nat) : (chunk its j).length = min 4 (its.length - 4 * j) := by
  unfold chunk
  rw [List.length_take, List.length_drop]
set_option maxRecDepth 100000 in
set_option maxHeartbeats 4000000 in
theorem cutSizes_good (n : Nat) (hn : n ≤ 200) (w : World) :
    Calls Try.prog 19 #[.int .i64 n] w (Makes (.bool true) w) := by
  have d0 : decide ((n : Int) < 0) = false := by simp
  have d1 : decide ((200 : Int) < n) = false := by simp; omega
  go_enter Try.func19, Try.ntmps19
  go_wp2_with (first | (go_at_call 60; ((with_reducible refine (cutAlive_any _).mono ?_)); rintro _ _ ⟨rfl, u, rfl⟩; (try (rw [Fut.put_self u (by first | assumption | (simp [go_sem]; done) | (simp [go_sem]; omega))]))) | (((with_reducible refine wp_region_fut_lit (by kernel_rfl) (by kernel_rfl) ?_)); (repeat (go_big_quiet_step ((first | (go_at_call 60; with_reducible exact Calls.fut_of (cutAlive_any _)))))); ((with_reducible refine wpQuiet_nil ?_)); rintro _ ⟨u, rfl⟩; (try (rw [Fut.put_self u (by first | assumption | (simp [go_sem]; done) | (simp [go_sem]; omega))]))))
  clear d0 d1
  have hbX := u.below
  have hzX := hbX.size
  generalize u.val = X at hbX hzX ⊢
  have HBX := hid hbX
  clear hbX
  go_loopw [3, 4] (fun v i wr => ∃ q : Nat, q ≤ n ∧ i = .int .i64 q ∧ Hid (Out X (zList q) v wr)) (fun _ i _ => n - (intOf i).toNat)
  case atStart => exact ⟨0, Nat.zero_le _, rfl, hid (Out.nil X (Below.refl _ _))⟩
  case round =>
    obtain ⟨q, hq, rfl, HO⟩ := hrel
    by_cases hlt : q < n
    · have e2 : IntKind.u8.wrap (q : Int) = (q : Int) := by simp [IntKind.wrap, IntKind.bits, IntKind.signed]; omega
      have hc := conv_zk wr (q : Int)
      go_wp2_with (first | (at_builtin; refine wpList_append_ex (by rfl) _ _ _ (by rfl) _ _ (by rfl) (by rfl) (HO.out.app (x := zk q) (by repeat' (first | exact Below.refl _ _ | with_reducible assumption | omega | with_reducible refine below_put_fut ?_ ?_ _ | with_reducible refine below_to_put ?_ | with_reducible refine Below.alloc ?_ ?_ _ | with_reducible refine Below.fut ?_ ?_ _ | with_reducible refine Below.drew ?_ | with_reducible refine Below.setCell ?_ ?_ _ | with_reducible refine Below.atPut ?_ ?_ _ | (simp [go_sem]; done) | (simp [go_sem]; omega))) (by rw [zList_len]; omega) (by repeat' (first | rfl | assumption | (with_reducible refine (heap_drew_eq _ _).trans ?_) | (refine (Fut.heap _ _ ?_).trans ?_ ; focus (first | assumption | omega | (simp [go_sem]; done) | (simp [go_sem]; omega))) | (refine (heap_put_at _ _ _ ?_).trans ?_ ; focus (first | assumption | omega | (simp [go_sem]; done) | (simp [go_sem]; omega))) | (refine (heap_put_other _ _ _ _ ?_).trans ?_ ; focus (first | assumption | omega | (simp [go_sem]; done) | (simp [go_sem]; omega))) | (refine (heap_alloc_other _ _ _ ?_).trans ?_ ; focus (first | assumption | omega | (simp [go_sem]; done) | (simp [go_sem]; omega))) | (refine (heap_alloc_at _ _ _ ?_).trans ?_ ; focus (first | assumption | omega | (simp [go_sem]; done) | (simp [go_sem]; omega))) | (simp [go_sem]; done) | (simp [go_sem]; omega)))) ?_; rintro v4 w4 ho4; have HO4 := hid ho4; clear ho4))
      go_roundw
      case rel => exact ⟨q + 1, by omega, by go_num, hid (by rw [zList_succ]; exact HO4.out)⟩
      case measure => simp [intOf]; omega
    · obtain rfl : q = n := by omega
      obtain ⟨av, cv, rfl⟩ := HO.out.form
      have hrow := HO.out.row
      rw [zList_len] at hrow ⊢
      have HBW := hid (HBX.out.trans (HO.out.below.mono hzX))
      have HRW := hid hrow
      have HSW := hid (hrow.src (flat_one _))
      obtain ⟨J, hJ⟩ : ∃ J, (q + 3) / 4 = J := ⟨_, rfl⟩
      have HJ := hid hJ
      have hJl : J ≤ 60 := by omega
      have eq1 : ((q : Int) + 4 - 1).tdiv 4 = (J : Int) := by rw [Int.tdiv_eq_ediv_of_nonneg (by omega)]; omega
      clear hrow HO HBX hzX hJ
      go_wp2_with fail
      refine (chunks_is wr _ (zList q) q (zList_len q) (by omega) HSW.out (fun ao' c' h => by injection h with _ _ h3; have := row_cap HRW.out; omega)).mono ?_
      rintro _ W3 ⟨oo, oc, rfl, hci⟩
      rw [HJ.out] at hci ⊢
      obtain ⟨vs, i1, i2, i3, i4, i5⟩ := hci
      have HI1 := hid i1
      have HIS := hid i5
      have HIL := hid i2
      have HB3 := hid (HBW.out.trans (i4.mono HBW.out.size))
      have HRL := hid (HRW.out.keep (W' := W3) fun k hk => i4.block k (HRW.out.lt hk))
      clear i1 i2 i3 i4 i5 HBW HRW HSW
      go_wp2_with fail
      go_loopw [6, 46] (fun a j wr => ∃ jj aa : Nat, jj ≤ J ∧ aa ≤ q ∧ j = .int .i64 jj ∧ a = .int .i64 aa ∧ Hid (aa = min (4 * jj) q) ∧ Hid (Below W3.heap.size W3 wr)) (fun _ j _ => J - (intOf j).toNat)
      case atStart => exact ⟨0, 0, Nat.zero_le _, Nat.zero_le _, rfl, rfl, hid (by simp), hid (Below.refl _ _)⟩
      case round =>
        obtain ⟨jj, aa, hjj, haa, rfl, rfl, HA, HB⟩ := hrel
        by_cases hlt : jj < J
        · obtain ⟨x, hx⟩ : ∃ x, vs[jj]? = some x := ⟨_, List.getElem?_eq_getElem (by rw [HIL.out]; exact hlt)⟩
          obtain ⟨bo, bc, rfl, hrx, -⟩ := HIS.out jj x hx
          obtain ⟨rr, rfl, k1, k2⟩ := sl_cell HI1.out hx HIL.out
          have hcl := chunk_len (zList q) jj
          rw [zList_len] at hcl
          have hca := fun k (hk : k < (chunk (zList q) jj).length) => chunk_at hk
          generalize chunk (zList q) jj = ch at hrx hcl hca hx k1
          obtain ⟨nn, hnn⟩ : ∃ nn, ch.length = nn := ⟨_, rfl⟩
          rw [hnn] at hrx hcl hca hx k1
          have hn4 : nn ≤ 4 := by omega
          have HCL := hid hcl
          have HCA := hid hca
          have HNN := hid hnn
          have HRX := hid hrx
          have er : wr.cell? ⟨rr, jj, none⟩ = some (.slice bo nn bc) := (HB.out.cell k2).trans k1
          have lr := Nat.lt_of_lt_of_le k2 HB.out.size
          clear hrx hcl hca hx hnn k1
          go_wp2_with fail
          go_loopw [6, 52] (fun a i wr => ∃ k ab : Nat, k ≤ nn ∧ i = .int .i64 k ∧ a = .int .i64 ab ∧ Hid (ab = 4 * jj + k) ∧ Hid (Below W3.heap.size W3 wr)) (fun _ i _ => nn - (intOf i).toNat)
          case atStart => exact ⟨0, aa, Nat.zero_le _, rfl, rfl, hid (by have := HA.out; have := HJ.out; omega), HB⟩
          case round =>
            clear HA HB er lr
            obtain ⟨k, ab, hk, rfl, rfl, HA2, HB⟩ := hrel
            have hab : ab = 4 * jj + k := HA2.out
            by_cases hlt2 : k < nn
            · have habq : ab < q := by have := HCL.out; omega
              have hit : ch[k]? = some (zk ab) := by rw [HCA.out k hlt2, ← hab, zList_at habq]
              obtain ⟨r1, rfl, c1, c2, l1⟩ := item_cell (HRX.out.keep (W' := wr) fun k hk => HB.out.block k (HRX.out.lt hk)) hit HNN.out
              obtain ⟨r2, rfl, c3, c4, l2⟩ := item_cell (HRL.out.keep (W' := wr) fun k hk => HB.out.block k (HRL.out.lt hk)) (zList_at habq) (zList_len q)
              have dq : decide ((q : Int) ≤ ab) = false := by simp; omega
              have hab1 : ab + 1 = 4 * jj + (k + 1) := by omega
              have HAB := hid hab1
              generalize zk ab = y at c1 c2 c3 c4
              obtain ⟨s1, t1⟩ := y
              simp only at c1 c2 c3 c4
              clear hab hit HA2 hab1
              go_wp2_with fail
              go_quiet (fail)
              go_wp2_with fail
              go_roundw
              case rel => exact ⟨k + 1, ab + 1, by omega, by go_num, by go_num, HAB, hid (HB.out.trans (Below.mono (below_drewN' (by repeat' (first | exact Below.refl _ _ | with_reducible assumption | omega | with_reducible refine below_put_fut ?_ ?_ _ | with_reducible refine below_to_put ?_ | with_reducible refine Below.alloc ?_ ?_ _ | with_reducible refine Below.fut ?_ ?_ _ | with_reducible refine Below.drew ?_ | with_reducible refine Below.setCell ?_ ?_ _ | with_reducible refine Below.atPut ?_ ?_ _ | (simp [go_sem]; done) | (simp [go_sem]; omega))) _) HB.out.size))⟩
              case measure => simp [intOf]; omega
            · obtain rfl : k = nn := by omega
              clear hab
              go_wp2_with fail
              go_roundw
              case rel => exact ⟨jj + 1, ab, by omega, by have := HCL.out; have := HA2.out; have := HJ.out; omega, by go_num, rfl, hid (by have := HCL.out; have := HA2.out; have := HJ.out; omega), HB⟩
              case measure => simp [intOf]; omega
        · obtain rfl : jj = J := by omega
          obtain rfl : aa = q := by have := HA.out; have := HJ.out; omega
          have hbw := HB3.out.trans (HB.out.mono HB3.out.size)
          go_wp2_with fail
          go_ret
          exact .mk rfl hbw
theorem cutSizes_walk (n : Int) (wn : (Lit.int .i64 n).wf = true) (w : World) : Calls Try.prog 19 #[.int .i64 n] w (Makes (.bool true) w) := by
  clear wn
  by_cases c : n < 0
  · have d0 : decide (n < 0) = true := by simp; omega
    clear c
    go_enter Try.func19, Try.ntmps19
    go_wp2_with (first | (go_at_call 60; ((with_reducible refine (cutAlive_any _).mono ?_)); rintro _ _ ⟨rfl, u, rfl⟩; (try (rw [Fut.put_self u (by first | assumption | (simp [go_sem]; done) | (simp [go_sem]; omega))]))) | (((with_reducible refine wp_region_fut_lit (by kernel_rfl) (by kernel_rfl) ?_)); (repeat (go_big_quiet_step ((first | (go_at_call 60; with_reducible exact Calls.fut_of (cutAlive_any _)))))); ((with_reducible refine wpQuiet_nil ?_)); rintro _ ⟨u, rfl⟩; (try (rw [Fut.put_self u (by first | assumption | (simp [go_sem]; done) | (simp [go_sem]; omega))]))))
    go_ret; exact .mk (by first | rfl | (simp; done) | (simp; omega)) (by repeat' (first | exact Below.refl _ _ | with_reducible assumption | omega | with_reducible refine below_put_fut ?_ ?_ _ | with_reducible refine below_to_put ?_ | with_reducible refine Below.alloc ?_ ?_ _ | with_reducible refine Below.fut ?_ ?_ _ | with_reducible refine Below.drew ?_ | with_reducible refine Below.setCell ?_ ?_ _ | with_reducible refine Below.atPut ?_ ?_ _ | (simp [go_sem]; done) | (simp [go_sem]; omega)))
  have d0 : decide (n < 0) = false := by simp; omega
  by_cases c2 : 200 < n
  · have d1 : decide (200 < n) = true := by simp; omega
    clear c c2
    go_enter Try.func19, Try.ntmps19
    go_wp2_with (first | (go_at_call 60; ((with_reducible refine (cutAlive_any _).mono ?_)); rintro _ _ ⟨rfl, u, rfl⟩; (try (rw [Fut.put_self u (by first | assumption | (simp [go_sem]; done) | (simp [go_sem]; omega))]))) | (((with_reducible refine wp_region_fut_lit (by kernel_rfl) (by kernel_rfl) ?_)); (repeat (go_big_quiet_step ((first | (go_at_call 60; with_reducible exact Calls.fut_of (cutAlive_any _)))))); ((with_reducible refine wpQuiet_nil ?_)); rintro _ ⟨u, rfl⟩; (try (rw [Fut.put_self u (by first | assumption | (simp [go_sem]; done) | (simp [go_sem]; omega))]))))
    go_ret; exact .mk (by first | rfl | (simp; done) | (simp; omega)) (by repeat' (first | exact Below.refl _ _ | with_reducible assumption | omega | with_reducible refine below_put_fut ?_ ?_ _ | with_reducible refine below_to_put ?_ | with_reducible refine Below.alloc ?_ ?_ _ | with_reducible refine Below.fut ?_ ?_ _ | with_reducible refine Below.drew ?_ | with_reducible refine Below.setCell ?_ ?_ _ | with_reducible refine Below.atPut ?_ ?_ _ | (simp [go_sem]; done) | (simp [go_sem]; omega)))
  obtain ⟨n', rfl⟩ := Int.eq_ofNat_of_zero_le (show 0 ≤ n by omega)
  exact cutSizes_good n' (by omega) w
end Go.Proofs.Ythknenhcnpgkcaa
