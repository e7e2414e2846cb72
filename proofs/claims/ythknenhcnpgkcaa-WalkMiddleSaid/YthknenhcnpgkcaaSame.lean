import Derived.Test.YthknenhcnpgkcaaFlat
import Derived.Test.YthknenhcnpgkcaaSt
import Derived.Deep.RegionWith
/- The contract of SameItems: equal lists. -/
namespace Go.Proofs.Ythknenhcnpgkcaa
open Go.RowKit
set_option linter.unusedVariables false
theorem Src.slice_of {W : World} {size n : Nat} {v : Value} {xs : List Value} (h : Src W size v n xs) : ∃ a c, v = .slice a n c := by
  rcases h.2.2 with ⟨rfl, rfl⟩ | ⟨a, c, rfl, _⟩
  · exact ⟨_, _, rfl⟩
  · exact ⟨_, _, rfl⟩
/-- The cells of the i-th element of items. -/
theorem Src.at_ {W : World} {its : List It} {ao : Option Addr} {c : Nat} (h : Src W 2 (.slice ao its.length c) its.length (flat its)) (i : Nat) (x : It) (hx : its[i]? = some x) :
    ∃ b o, ao = some ⟨b, o, none⟩ ∧ W.cell? ⟨b, o + i * 2, none⟩ = some (.string x.1) ∧ W.cell? ⟨b, o + (i * 2 + 1), none⟩ = some (.string x.2) ∧ W.cell? ⟨b, o + i * 2 + 1, none⟩ = some (.string x.2) := by
  have hi : i < its.length := (List.getElem?_eq_some_iff.1 hx).1
  have hf := flat_at its i x hx
  rcases h.2.2 with ⟨_, h0⟩ | ⟨⟨b, o, e⟩, c', hv, hc⟩
  · omega
  · cases hv
    have hs : e = none := by
      have h0 : 0 < (flat its).length := by rw [flat_length]; omega
      have := World.cell?_spot (hc 0 _ (List.getElem?_eq_getElem h0))
      simpa [Addr.add] using this
    subst hs
    have e1 := hc _ _ hf.1
    have e2 := hc _ _ hf.2
    rw [Addr.add_lit] at e1 e2
    refine ⟨b, o, rfl, ?_, ?_, ?_⟩
    · rw [Nat.mul_comm]; exact e1
    · rw [Nat.mul_comm]; exact e2
    · rw [Nat.mul_comm, Nat.add_assoc]; exact e2
set_option maxRecDepth 100000 in
set_option maxHeartbeats 4000000 in
theorem same_is (W : World) (va vb : Value) (its : List It) (n : Nat) (hl : its.length = n) (hn : n ≤ 100000) (ha : Src W 2 va n (flat its)) (hb : Src W 2 vb n (flat its)) :
    Calls Try.prog 29 #[va, vb] W (Makes (.bool true) W) := by
  obtain ⟨aa, ca, rfl⟩ := ha.slice_of
  obtain ⟨ab, cb, rfl⟩ := hb.slice_of
  have HA := hid ha
  have HB := hid hb
  have HL := hid hl
  clear ha hb hl
  go_enter Try.func29, Try.ntmps29
  go_wp2_with fail
  go_loopw [5] (fun x wr => ∃ i : Nat, i ≤ n ∧ x = .int .i64 i ∧ ∃ u : Fut W, wr = u.val) (fun x _ => n - (intOf x).toNat)
  case atStart => exact ⟨0, Nat.zero_le _, rfl, ⟨⟨_, (by repeat' (first | exact Below.refl _ _ | with_reducible assumption | omega | with_reducible refine below_put_fut ?_ ?_ _ | with_reducible refine below_to_put ?_ | with_reducible refine Below.alloc ?_ ?_ _ | with_reducible refine Below.fut ?_ ?_ _ | with_reducible refine Below.drew ?_ | with_reducible refine Below.setCell ?_ ?_ _ | with_reducible refine Below.atPut ?_ ?_ _ | (simp [go_sem]; done) | (simp [go_sem]; omega)))⟩, rfl⟩⟩
  case round =>
    obtain ⟨i, hi, rfl, u, rfl⟩ := hrel
    by_cases hlt : i < n
    · obtain ⟨x, hx⟩ : ∃ x, its[i]? = some x := ⟨its[i]'(by rw [HL.out]; exact hlt), List.getElem?_eq_getElem _⟩
      obtain ⟨b1, o1, rfl, p1, p2, p3⟩ := (show Src W 2 (.slice aa its.length ca) its.length (flat its) by rw [HL.out]; exact HA.out).at_ i x hx
      obtain ⟨b2, o2, rfl, r1, r2, r3⟩ := (show Src W 2 (.slice ab its.length cb) its.length (flat its) by rw [HL.out]; exact HB.out).at_ i x hx
      clear hx
      obtain ⟨s, t⟩ := x
      simp only at p1 p2 p3 r1 r2 r3
      have l1 : b1 < W.heap.size := World.block_lt_of_cell? _ _ p1
      have l2 : b2 < W.heap.size := World.block_lt_of_cell? _ _ r1
      go_wp2_with (first | (((with_reducible refine wp_region_fut_lit (by kernel_rfl) (by kernel_rfl) ?_)); (repeat (go_big_quiet_step ((first | fail)))); ((with_reducible refine wpQuiet_nil ?_)); rintro _ ⟨u, rfl⟩; (try (rw [Fut.put_self u (by first | assumption | (simp [go_sem]; done) | (simp [go_sem]; omega))]))))
      go_roundw
      case rel => exact ⟨i + 1, by omega, by go_num, ⟨⟨_, (by repeat' (first | exact Below.refl _ _ | with_reducible assumption | omega | with_reducible refine below_put_fut ?_ ?_ _ | with_reducible refine below_to_put ?_ | with_reducible refine Below.alloc ?_ ?_ _ | with_reducible refine Below.fut ?_ ?_ _ | with_reducible refine Below.drew ?_ | with_reducible refine Below.setCell ?_ ?_ _ | with_reducible refine Below.atPut ?_ ?_ _ | (simp [go_sem]; done) | (simp [go_sem]; omega)))⟩, rfl⟩⟩
      case measure => simp [intOf]; omega
    · go_wp2_with (first | (((with_reducible refine wp_region_fut_lit (by kernel_rfl) (by kernel_rfl) ?_)); (repeat (go_big_quiet_step ((first | fail)))); ((with_reducible refine wpQuiet_nil ?_)); rintro _ ⟨u, rfl⟩; (try (rw [Fut.put_self u (by first | assumption | (simp [go_sem]; done) | (simp [go_sem]; omega))]))))
      go_ret; exact .mk (by first | rfl | (simp; done) | (simp; omega)) (by repeat' (first | exact Below.refl _ _ | with_reducible assumption | omega | with_reducible refine below_put_fut ?_ ?_ _ | with_reducible refine below_to_put ?_ | with_reducible refine Below.alloc ?_ ?_ _ | with_reducible refine Below.fut ?_ ?_ _ | with_reducible refine Below.drew ?_ | with_reducible refine Below.setCell ?_ ?_ _ | with_reducible refine Below.atPut ?_ ?_ _ | (simp [go_sem]; done) | (simp [go_sem]; omega)))
end Go.Proofs.Ythknenhcnpgkcaa
