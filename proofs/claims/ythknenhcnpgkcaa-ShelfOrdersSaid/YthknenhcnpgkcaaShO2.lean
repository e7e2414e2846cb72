import Derived.Test.YthknenhcnpgkcaaShD
import Derived.Test.YthknenhcnpgkcaaL
import Derived.IntWalk
import Derived.Laws.BytesArg
/- rosarylaw4.deep and rosarylaw4.key. -/
namespace Go.Proofs.Ythknenhcnpgkcaa
open Go.RowKit
set_option linter.unusedVariables false
set_option linter.unusedSimpArgs false
def keyOf (k : Nat) : ByteArray := strOfNums [107, (k : Int) / 256, (k : Int) % 256]
theorem conv_key (w : World) (a b c : Int) : (convert 61 9 (.slice (some ⟨w.heap.size, 0, none⟩) 3 3)).run Try.prog (w.alloc (.cells #[.int .u8 a, .int .u8 b, .int .u8 c] 5)) = .ok (.string (strOfNums [a, b, c])) (w.alloc (.cells #[.int .u8 a, .int .u8 b, .int .u8 c] 5)) := by
  refine run_convert_bytes_arg (P := Try.prog) _ 61 5 Try.underlying61 Try.underlying5 w.heap.size 0 _ _ [a, b, c] rfl (fun i hi => ?_) _ Try.underlying9
  rw [World.cell?_alloc_new]
  have hi : i < 3 := hi
  rcases (show i = 0 ∨ i = 1 ∨ i = 2 by omega) with rfl | rfl | rfl <;> rfl
set_option maxRecDepth 100000 in
theorem key_is (w : World) (k : Nat) (hk : k ≤ 996) : Calls Try.prog 27 #[.int .i64 k] w (Makes (.string (keyOf k)) w) := by
  have hc := conv_key w 107 ((k : Int) / 256) ((k : Int) % 256)
  go_enter Try.func27, Try.ntmps27
  go_wp2_with (first | (((with_reducible refine wp_region_fut_lit (by kernel_rfl) (by kernel_rfl) ?_)); (repeat (go_big_quiet_step ((first | fail)))); ((with_reducible refine wpQuiet_nil ?_)); rintro _ ⟨u, rfl⟩; (try (rw [Fut.put_self u (by first | assumption | (simp [go_sem]; done) | (simp [go_sem]; omega))]))))
  go_ret; exact .mk (by first | rfl | (simp; done) | (simp; omega)) (by repeat' (first | exact Below.refl _ _ | with_reducible assumption | omega | with_reducible refine below_put_fut ?_ ?_ _ | with_reducible refine below_to_put ?_ | with_reducible refine Below.alloc ?_ ?_ _ | with_reducible refine Below.fut ?_ ?_ _ | with_reducible refine Below.drew ?_ | with_reducible refine Below.setCell ?_ ?_ _ | with_reducible refine Below.atPut ?_ ?_ _ | (simp [go_sem]; done) | (simp [go_sem]; omega)))
theorem deepN_one {n : Nat} (h0 : 0 < n) (h : n < 4) : deepN n = 1 := by
  obtain ⟨m, rfl⟩ : ∃ m, n = m + 1 := ⟨n - 1, by omega⟩
  unfold deepN
  rw [if_neg (by omega), deepUp, if_pos h]
theorem deepUp_fuel : ∀ (f g n : Nat), n ≤ f → n ≤ g → 0 < n → deepUp f n = deepUp g n
  | 0, g, n, h1, h2, h3 => by omega
  | f + 1, 0, n, h1, h2, h3 => by omega
  | f + 1, g + 1, n, h1, h2, h3 => by
    rw [deepUp, deepUp]
    by_cases c : n < 4
    · rw [if_pos c, if_pos c]
    · rw [if_neg c, if_neg c, deepUp_fuel f g (n / 4) (by omega) (by omega) (by omega)]
theorem deepN_step {n : Nat} (h : 4 ≤ n) : deepN n = deepN (n / 4) + 1 := by
  obtain ⟨m, rfl⟩ : ∃ m, n = m + 1 := ⟨n - 1, by omega⟩
  unfold deepN
  rw [if_neg (by omega), if_neg (by omega), deepUp, if_neg (by omega), deepUp_fuel m ((m + 1) / 4) _ (by omega) (by omega) (by omega)]
theorem deep_is (w : World) (n : Nat) (hn : n ≤ 1000) : Calls Try.prog 31 #[.int .i64 n] w (Makes (.int .i64 (deepN n : Nat)) w) := by
  rcases Nat.eq_zero_or_pos n with rfl | h0
  · go_enter Try.func31, Try.ntmps31
    go_wp2_with (first | (((with_reducible refine wp_region_fut_lit (by kernel_rfl) (by kernel_rfl) ?_)); (repeat (go_big_quiet_step ((first | fail)))); ((with_reducible refine wpQuiet_nil ?_)); rintro _ ⟨u, rfl⟩; (try (rw [Fut.put_self u (by first | assumption | (simp [go_sem]; done) | (simp [go_sem]; omega))]))))
    go_ret; exact .mk (by first | rfl | (simp; done) | (simp; omega)) (by repeat' (first | exact Below.refl _ _ | with_reducible assumption | omega | with_reducible refine below_put_fut ?_ ?_ _ | with_reducible refine below_to_put ?_ | with_reducible refine Below.alloc ?_ ?_ _ | with_reducible refine Below.fut ?_ ?_ _ | with_reducible refine Below.drew ?_ | with_reducible refine Below.setCell ?_ ?_ _ | with_reducible refine Below.atPut ?_ ?_ _ | (simp [go_sem]; done) | (simp [go_sem]; omega)))
  have e0 : (((n : Int) == 0) : Bool) = false := by simp; omega
  go_enter Try.func31, Try.ntmps31
  go_wp2
  go_loopw [0, 3] (fun a d wr => ∃ m j : Nat, 0 < m ∧ j + m ≤ n + 1 ∧ j + deepN m = deepN n + 1 ∧ a = .int .i64 m ∧ d = .int .i64 j ∧ ∃ u : Fut w, wr = u.val) (fun a _ _ => (intOf a).toNat)
  case atStart => exact ⟨n, 1, h0, by omega, by omega, rfl, rfl, ⟨⟨_, (by repeat' (first | exact Below.refl _ _ | with_reducible assumption | omega | with_reducible refine below_put_fut ?_ ?_ _ | with_reducible refine below_to_put ?_ | with_reducible refine Below.alloc ?_ ?_ _ | with_reducible refine Below.fut ?_ ?_ _ | with_reducible refine Below.drew ?_ | with_reducible refine Below.setCell ?_ ?_ _ | with_reducible refine Below.atPut ?_ ?_ _ | (simp [go_sem]; done) | (simp [go_sem]; omega)))⟩, rfl⟩⟩
  case round =>
    obtain ⟨m, j, hm, hjm, hd, rfl, rfl, u, rfl⟩ := hrel
    by_cases hlt : 4 ≤ m
    · have hs := deepN_step hlt
      go_wp2_with (first | (((with_reducible refine wp_region_fut_lit (by kernel_rfl) (by kernel_rfl) ?_)); (repeat (go_big_quiet_step ((first | fail)))); ((with_reducible refine wpQuiet_nil ?_)); rintro _ ⟨u, rfl⟩; (try (rw [Fut.put_self u (by first | assumption | (simp [go_sem]; done) | (simp [go_sem]; omega))]))))
      go_roundw
      case rel => exact ⟨m / 4, j + 1, by omega, by omega, by omega, by go_num, by go_num, ⟨⟨_, (by repeat' (first | exact Below.refl _ _ | with_reducible assumption | omega | with_reducible refine below_put_fut ?_ ?_ _ | with_reducible refine below_to_put ?_ | with_reducible refine Below.alloc ?_ ?_ _ | with_reducible refine Below.fut ?_ ?_ _ | with_reducible refine Below.drew ?_ | with_reducible refine Below.setCell ?_ ?_ _ | with_reducible refine Below.atPut ?_ ?_ _ | (simp [go_sem]; done) | (simp [go_sem]; omega)))⟩, rfl⟩⟩
      case measure => simp [intOf]; omega
    · have hs := deepN_one hm (by omega)
      obtain rfl : j = deepN n := by omega
      go_wp2_with (first | (((with_reducible refine wp_region_fut_lit (by kernel_rfl) (by kernel_rfl) ?_)); (repeat (go_big_quiet_step ((first | fail)))); ((with_reducible refine wpQuiet_nil ?_)); rintro _ ⟨u, rfl⟩; (try (rw [Fut.put_self u (by first | assumption | (simp [go_sem]; done) | (simp [go_sem]; omega))]))))
      go_ret; exact .mk (by first | rfl | (simp; done) | (simp; omega)) (by repeat' (first | exact Below.refl _ _ | with_reducible assumption | omega | with_reducible refine below_put_fut ?_ ?_ _ | with_reducible refine below_to_put ?_ | with_reducible refine Below.alloc ?_ ?_ _ | with_reducible refine Below.fut ?_ ?_ _ | with_reducible refine Below.drew ?_ | with_reducible refine Below.setCell ?_ ?_ _ | with_reducible refine Below.atPut ?_ ?_ _ | (simp [go_sem]; done) | (simp [go_sem]; omega)))
end Go.Proofs.Ythknenhcnpgkcaa
