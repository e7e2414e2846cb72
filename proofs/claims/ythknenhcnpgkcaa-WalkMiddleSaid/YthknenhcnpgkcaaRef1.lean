import Derived.Test.YthknenhcnpgkcaaShP
import Derived.Test.YthknenhcnpgkcaaSame
import Derived.Test.YthknenhcnpgkcaaSl2
import Derived.IntWalk
/- The document's own shelf (rosaryref1.Shelf): At. -/
namespace Go.Proofs.Ythknenhcnpgkcaa
open Go.RowKit
set_option linter.unusedVariables false
set_option linter.unusedSimpArgs false
@[reducible] def refObj (most : Int) (v : Value) : Obj := .cells #[.int .i64 most, v] 51
theorem place_facts {k : ByteArray} {xs : List It} (hr : Rises xs) {at_ : Nat} {is : Bool} (hp : placeOf k xs = (at_, is)) :
    at_ ≤ xs.length ∧ (∀ (j : Nat) x, j < at_ → xs[j]? = some x → lt x.1 k = true) ∧ (∀ x, xs[at_]? = some x → lt x.1 k = false ∧ (is = true ↔ x.1 = k)) ∧ (xs.length ≤ at_ → is = false) := by
  have hle := placeOf_le k xs
  obtain ⟨A, B, rfl, hA, h1, h2⟩ := placeOf_split k xs hr
  rw [hp] at hA h2 hle
  simp only at hA h2 hle
  refine ⟨hle, fun j x hj hx => ?_, fun x hx => ?_, fun hl => ?_⟩
  · rw [List.getElem?_append_left (by omega)] at hx
    exact h1 x (List.mem_of_getElem? hx)
  · rw [List.getElem?_append_right (by omega), show at_ - A.length = 0 by omega] at hx
    rcases h2 with ⟨e, v, R, rfl⟩ | ⟨e, h2⟩
    · obtain rfl : (k, v) = x := by simpa using hx
      exact ⟨lt_irrefl _, by simp [e]⟩
    · have := h2 x (List.mem_of_getElem? hx)
      refine ⟨lt_asymm this, by simp only [e, Bool.false_eq_true, false_iff]; exact fun e' => lt_ne this e'.symm⟩
  · rcases h2 with ⟨e, v, R, rfl⟩ | ⟨e, h2⟩
    · simp at hl; omega
    · exact e
set_option maxRecDepth 100000 in
set_option maxHeartbeats 4000000 in
theorem refAt_is (W : World) (g : Nat) (most : Int) (v : Value) (xs : List It) (n : Nat) (hl : xs.length = n) (hn : n ≤ 1000) (hg : W.heap[g]? = some (refObj most v)) (hs : Src W 2 v n (flat xs)) (hr : Rises xs) (k : ByteArray) (at_ : Nat) (is : Bool) (hp : placeOf k xs = (at_, is)) :
    Calls Try.prog 36 #[.pointer (some ⟨g, 0, none⟩), .string k] W (Makes (.tuple #[.int .i64 at_, .bool is]) W) := by
  obtain ⟨ao, cap, rfl⟩ := hs.slice_of
  obtain ⟨h1, h2, h3, h4⟩ := place_facts hr hp
  have hc := fun i => cell_of_row W g i _ _ (0, 0) hg
  have hgl := lt_of_heap hg
  have HS := hid hs
  have HL := hid hl
  have H2 := hid h2
  have H3 := hid h3
  have H4 := hid h4
  have h1 : at_ ≤ n := by omega
  clear hg hs hl h2 h3 h4 hr hp
  go_enter Try.func36, Try.ntmps36
  go_wp2_with fail
  go_loopw [6] (fun x wr => ∃ j : Nat, j ≤ at_ ∧ x = .int .i64 j ∧ ∃ u : Fut W, wr = u.val) (fun x _ => at_ - (intOf x).toNat)
  case atStart => exact ⟨0, Nat.zero_le _, rfl, ⟨⟨_, (by repeat' (first | exact Below.refl _ _ | with_reducible assumption | omega | with_reducible refine below_put_fut ?_ ?_ _ | with_reducible refine below_to_put ?_ | with_reducible refine Below.alloc ?_ ?_ _ | with_reducible refine Below.fut ?_ ?_ _ | with_reducible refine Below.drew ?_ | with_reducible refine Below.setCell ?_ ?_ _ | with_reducible refine Below.atPut ?_ ?_ _ | (simp [go_sem]; done) | (simp [go_sem]; omega)))⟩, rfl⟩⟩
  case round =>
    obtain ⟨j, hj, rfl, u, rfl⟩ := hrel
    by_cases hlt : j < n
    · obtain ⟨x, hx⟩ : ∃ x, xs[j]? = some x := ⟨xs[j]'(by rw [HL.out]; exact hlt), List.getElem?_eq_getElem _⟩
      obtain ⟨b, o, rfl, p1, p2, p3⟩ := (show Src W 2 (.slice ao xs.length cap) xs.length (flat xs) by rw [HL.out]; exact HS.out).at_ j x hx
      have l1 : b < W.heap.size := World.block_lt_of_cell? _ _ p1
      by_cases hja : j < at_
      · have hll := H2.out j x hja hx
        clear hx
        obtain ⟨s, t⟩ := x
        simp only at p1 p2 p3 hll
        have hl3 : Op.bytesLess s.toList k.toList = true := by rw [ByteArray.toList_eq, ByteArray.toList_eq]; exact hll
        go_wp2_with (first | (((with_reducible refine wp_region_fut_lit (by kernel_rfl) (by kernel_rfl) ?_)); (repeat (go_big_quiet_step ((first | fail)))); ((with_reducible refine wpQuiet_nil ?_)); rintro _ ⟨u, rfl⟩; (try (rw [Fut.put_self u (by first | assumption | (simp [go_sem]; done) | (simp [go_sem]; omega))]))))
        go_roundw
        case rel => exact ⟨j + 1, by omega, by go_num, ⟨⟨_, (by repeat' (first | exact Below.refl _ _ | with_reducible assumption | omega | with_reducible refine below_put_fut ?_ ?_ _ | with_reducible refine below_to_put ?_ | with_reducible refine Below.alloc ?_ ?_ _ | with_reducible refine Below.fut ?_ ?_ _ | with_reducible refine Below.drew ?_ | with_reducible refine Below.setCell ?_ ?_ _ | with_reducible refine Below.atPut ?_ ?_ _ | (simp [go_sem]; done) | (simp [go_sem]; omega)))⟩, rfl⟩⟩
        case measure => simp [intOf]; omega
      · obtain rfl : j = at_ := by omega
        obtain ⟨hll, heq⟩ := H3.out x hx
        clear hx
        obtain ⟨s, t⟩ := x
        simp only at p1 p2 p3 hll heq
        have hl3 : Op.bytesLess s.toList k.toList = false := by rw [ByteArray.toList_eq, ByteArray.toList_eq]; exact hll
        have he : (s.toList == k.toList) = is := by
          rw [ByteArray.toList_eq, ByteArray.toList_eq, Bool.eq_iff_iff, heq]
          simp only [beq_iff_eq]
          exact ⟨fun h => ba_ext h, fun h => by rw [h]⟩
        clear hll heq hja
        go_wp2_with (first | (((with_reducible refine wp_region_fut_lit (by kernel_rfl) (by kernel_rfl) ?_)); (repeat (go_big_quiet_step ((first | fail)))); ((with_reducible refine wpQuiet_nil ?_)); rintro _ ⟨u, rfl⟩; (try (rw [Fut.put_self u (by first | assumption | (simp [go_sem]; done) | (simp [go_sem]; omega))]))))
        (try rw [Exit.noGoto_ret])
        refine bodyPost_ret (v := .tuple #[.int .i64 j, .bool is]) (by simp [results, Try.results36, go_sem]) rfl (.mk rfl (by repeat' (first | exact Below.refl _ _ | with_reducible assumption | omega | with_reducible refine below_put_fut ?_ ?_ _ | with_reducible refine below_to_put ?_ | with_reducible refine Below.alloc ?_ ?_ _ | with_reducible refine Below.fut ?_ ?_ _ | with_reducible refine Below.drew ?_ | with_reducible refine Below.setCell ?_ ?_ _ | with_reducible refine Below.atPut ?_ ?_ _ | (simp [go_sem]; done) | (simp [go_sem]; omega))))
    · obtain rfl : j = at_ := by omega
      obtain rfl : is = false := H4.out (by rw [HL.out]; omega)
      go_wp2_with (first | (((with_reducible refine wp_region_fut_lit (by kernel_rfl) (by kernel_rfl) ?_)); (repeat (go_big_quiet_step ((first | fail)))); ((with_reducible refine wpQuiet_nil ?_)); rintro _ ⟨u, rfl⟩; (try (rw [Fut.put_self u (by first | assumption | (simp [go_sem]; done) | (simp [go_sem]; omega))]))))
      (try rw [Exit.noGoto_ret])
      refine bodyPost_ret (v := .tuple #[.int .i64 j, .bool false]) (by simp [results, Try.results36, go_sem]) rfl (.mk rfl (by repeat' (first | exact Below.refl _ _ | with_reducible assumption | omega | with_reducible refine below_put_fut ?_ ?_ _ | with_reducible refine below_to_put ?_ | with_reducible refine Below.alloc ?_ ?_ _ | with_reducible refine Below.fut ?_ ?_ _ | with_reducible refine Below.drew ?_ | with_reducible refine Below.setCell ?_ ?_ _ | with_reducible refine Below.atPut ?_ ?_ _ | (simp [go_sem]; done) | (simp [go_sem]; omega))))
end Go.Proofs.Ythknenhcnpgkcaa
