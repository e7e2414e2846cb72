/- The book of lists: markedItems. -/
import Derived.Test.YthknenhcnpgkcaaGreatBk8
import Derived.Deep.RegionHeld3
namespace Go.Proofs.YthknenhcnpgkcaaGreat
set_option linter.unusedVariables false
set_option linter.unusedSimpArgs false
open Go.RowKit
set_option maxRecDepth 100000 in
set_option maxHeartbeats 4000000 in
theorem markedItems_is {W : World} {ao : Option Addr} {m c : Nat} {gs : List Value} (hr : Row W 22 1 (.slice ao m c) m gs) (hm : m ≤ 250) (hg : ∀ (j : Nat) (g : Value), gs[j]? = some g → ∃ n, n ≤ 990 ∧ Row W 59 2 g n (flat (marks j 0 n))) :
    Calls Tryz.prog 59 #[.slice ao m c] W (Makes (.bool true) W) := by
  have HR := hid hr
  have HG := hid hg
  have HL := hid (show gs.length = m by have := hr.1; omega)
  clear hr hg
  go_enter Tryz.func59, Tryz.ntmps59
  go_wp2_with fail
  go_loopw [3] (fun x wr => ∃ i : Nat, i ≤ m ∧ x = .int .i64 i ∧ ∃ u : Fut W, wr = u.val) (fun x _ => m - (intOf x).toNat)
  case atStart => exact ⟨0, Nat.zero_le _, rfl, ⟨⟨_, (by repeat' (first | exact Below.refl _ _ | with_reducible assumption | omega | with_reducible refine below_put_fut ?_ ?_ _ | with_reducible refine below_to_put ?_ | with_reducible refine Below.alloc ?_ ?_ _ | with_reducible refine Below.fut ?_ ?_ _ | with_reducible refine Below.drew ?_ | with_reducible refine Below.setCell ?_ ?_ _ | with_reducible refine Below.atPut ?_ ?_ _ | (simp [go_sem]; done) | (simp [go_sem]; omega)))⟩, rfl⟩⟩
  case round =>
    obtain ⟨i, hi, rfl, u, rfl⟩ := hrel
    by_cases hlt : i < m
    · obtain ⟨g, hg⟩ : ∃ g, gs[i]? = some g := ⟨_, List.getElem?_eq_getElem (by rw [HL.out]; exact hlt)⟩
      obtain ⟨n, hn, hq⟩ := HG.out i g hg
      obtain ⟨r1, rfl, p1, l1, _⟩ := list_cell HR.out hg
      obtain ⟨vo, vc, rfl⟩ := owns_slice hq
      have HQ := hid (hq.src (flat_one _))
      have HC := hid (fun (Y : World) (hY : Below W.heap.size W Y) => show Y.cell? ⟨r1, i, none⟩ = some (.slice vo n vc) from (hY.cell (p := ⟨r1, i, none⟩) l1).trans p1)
      have HMK := hid (fun (Y : World) => show Calls Tryz.prog 85 #[.int .i64 i, .int .i64 0, .int .i64 n] Y _ from markItems_is Y i 0 n (by omega) (by omega))
      have HU := hid (show Below W.heap.size W u.val.drew from u.below.drew)
      clear hq hg
      go_wp2_with fail
      first | (go_region_held3 (fun Y => Y.cell? ⟨r1, i, none⟩ = some (.slice vo n vc)) ((first | exact HC.out _ HB4.out | exact HC.out _ HB3.out | exact HC.out _ HU.out)) ((first
        | (go_at_call 85; refine (HMK.out _).mono ?_; rintro _ W3 ⟨mo, mc, rfl, hr3, hb3, hf3⟩; have HB3 := hid (HU.out.trans (hb3.mono HU.out.size)); have HS3 := hid (hr3.src (flat_one _)); clear hr3 hb3 hf3)
        | (go_at_call 12; refine (same_is _ _ _ (marks i 0 n) n (marks_len _ _ _) (by omega) (HQ.out.heap HB3.out) HS3.out).mono ?_; rintro _ W4 ⟨rfl, u4, rfl⟩; have HB4 := hid (HB3.out.trans (u4.below.mono HB3.out.size)))))) | fail "held3"
      go_wp2_with fail
      exact ⟨⟨i + 1, by omega, by go_num, ⟨⟨_, HB4.out⟩, rfl⟩⟩, by simp [intOf]; omega⟩
    · go_wp2_with (first | (((with_reducible refine wp_region_fut_lit (by kernel_rfl) (by kernel_rfl) ?_)); (repeat (go_big_quiet_step ((first | fail)))); ((with_reducible refine wpQuiet_nil ?_)); rintro _ ⟨u, rfl⟩; (try (rw [Fut.put_self u (by first | assumption | (simp [go_sem]; done) | (simp [go_sem]; omega))]))))
      go_ret; exact .mk (by first | rfl | (simp; done) | (simp; omega)) (by repeat' (first | exact Below.refl _ _ | with_reducible assumption | omega | with_reducible refine below_put_fut ?_ ?_ _ | with_reducible refine below_to_put ?_ | with_reducible refine Below.alloc ?_ ?_ _ | with_reducible refine Below.fut ?_ ?_ _ | with_reducible refine Below.drew ?_ | with_reducible refine Below.setCell ?_ ?_ _ | with_reducible refine Below.atPut ?_ ?_ _ | (simp [go_sem]; done) | (simp [go_sem]; omega)))
end Go.Proofs.YthknenhcnpgkcaaGreat
