import Derived.Test.YthknenhcnpgkcaaKey
/- Contracts of package key: Addr. -/
namespace Go.Proofs.Ythknenhcnpgkcaa
open Go.RowKit
/-- The byte at a place; 0 behind the end. -/
def byteAt (l : List UInt8) (i : Nat) : Nat := (l.getD i 0).toNat
/-- The number of the first i bytes. -/
def addrUp (l : List UInt8) : Nat → Nat
  | 0 => 0
  | i + 1 => addrUp l i * 256 + byteAt l i
def addrN (l : List UInt8) : Nat := addrUp l 8
theorem byteAt_lt (l : List UInt8) (i : Nat) : byteAt l i < 256 := UInt8.toNat_lt _
theorem addrUp_lt (l : List UInt8) : ∀ i, addrUp l i < 256 ^ i
  | 0 => by simp [addrUp]
  | i + 1 => by
    have := addrUp_lt l i
    have := byteAt_lt l i
    simp only [addrUp, Nat.pow_succ]; omega
theorem byteAt_in (a : ByteArray) (i : Nat) (h : i < a.size) : byteAt a.data.toList i = a[i].toNat := by
  unfold byteAt
  have e : a.data.toList[i]? = some a[i] := by rw [List.getElem?_eq_getElem (by simpa using h)]; rfl
  rw [List.getD, e]; rfl
theorem byteAt_out (a : ByteArray) (i : Nat) (h : a.size ≤ i) : byteAt a.data.toList i = 0 := by
  unfold byteAt
  have e : a.data.toList[i]? = none := by rw [List.getElem?_eq_none_iff]; simpa using h
  rw [List.getD, e]; rfl
theorem or_byte (X c : Nat) (hX : X < 72057594037927936) (hc : c < 256) : bits .or .u64 ((X : Int) * 256) (IntKind.u64.wrap c) = ((X * 256 + c : Nat) : Int) := by
  have e2 : IntKind.u64.wrap (c : Int) = c := by rw [IntKind.wrap_u64]; omega
  rw [e2]
  have := bits_join .u64 64 (by decide) (fun n h0 h1 => by rw [IntKind.wrap_u64]; omega) 8 ((X : Int) * 256) c (by omega) (by omega) (by omega) (by omega) (by omega)
  omega
theorem shl_byte (X : Nat) : (X : Int) * 256 = ((X * 256 + 0 : Nat) : Int) := by omega
set_option maxHeartbeats 1000000 in
theorem addr_any (a : ByteArray) (ha : a.size ≤ maxLen) (r : Nat) (hr : addrN a.data.toList = r) (w : World) :
    Calls Try.prog 76 #[.string a] w (Makes (.int .u64 r) w) := by
  unfold maxLen at ha
  go_enter Try.func76, Try.ntmps76
  go_wp2
  go_loopw [3, 5] (fun v x wr => ∃ i : Nat, i ≤ 8 ∧ x = .int .i64 i ∧ v = .int .u64 (addrUp a.data.toList i) ∧ ∃ u : Fut w, wr = u.val) (fun _ x _ => 8 - (intOf x).toNat)
  case atStart => exact ⟨0, by omega, rfl, rfl, ⟨⟨w, Below.refl _ _⟩, rfl⟩⟩
  case round =>
    obtain ⟨i, hi, rfl, rfl, u, rfl⟩ := hrel
    have hb := addrUp_lt a.data.toList i
    by_cases hk : i < 8
    · have hp : 256 ^ i ≤ 256 ^ 7 := Nat.pow_le_pow_right (by omega) (by omega)
      have hbd : addrUp a.data.toList i < 72057594037927936 := by omega
      clear hb hp
      by_cases hs : i < a.size
      · have HR := hid (or_byte (addrUp a.data.toList i) a[i].toNat hbd (UInt8.toNat_lt _))
        have HB := hid (byteAt_in a i hs)
        go_wp2_with (first | (((with_reducible refine wp_region_fut_lit (by kernel_rfl) (by kernel_rfl) ?_)); (repeat (go_big_quiet_step ((first | fail)))); ((with_reducible refine wpQuiet_nil ?_)); rintro _ ⟨u, rfl⟩; (try (rw [Fut.put_self u (by first | assumption | (simp [go_sem]; done) | (simp [go_sem]; omega))]))))
        go_roundw
        case rel => exact ⟨i + 1, by omega, by go_num, by simp only [addrUp]; rw [HB.out, HR.out], ⟨⟨_, (by repeat' (first | exact Below.refl _ _ | with_reducible assumption | omega | with_reducible refine below_put_fut ?_ ?_ _ | with_reducible refine below_to_put ?_ | with_reducible refine Below.alloc ?_ ?_ _ | with_reducible refine Below.fut ?_ ?_ _ | with_reducible refine Below.drew ?_ | with_reducible refine Below.setCell ?_ ?_ _ | with_reducible refine Below.atPut ?_ ?_ _ | (simp [go_sem]; done) | (simp [go_sem]; omega)))⟩, rfl⟩⟩
        case measure => simp [intOf]; omega
      · have HR := hid (shl_byte (addrUp a.data.toList i))
        have HB := hid (byteAt_out a i (by omega))
        go_wp2_with (first | (((with_reducible refine wp_region_fut_lit (by kernel_rfl) (by kernel_rfl) ?_)); (repeat (go_big_quiet_step ((first | fail)))); ((with_reducible refine wpQuiet_nil ?_)); rintro _ ⟨u, rfl⟩; (try (rw [Fut.put_self u (by first | assumption | (simp [go_sem]; done) | (simp [go_sem]; omega))]))))
        go_roundw
        case rel => exact ⟨i + 1, by omega, by go_num, by simp only [addrUp]; rw [HB.out, HR.out], ⟨⟨_, (by repeat' (first | exact Below.refl _ _ | with_reducible assumption | omega | with_reducible refine below_put_fut ?_ ?_ _ | with_reducible refine below_to_put ?_ | with_reducible refine Below.alloc ?_ ?_ _ | with_reducible refine Below.fut ?_ ?_ _ | with_reducible refine Below.drew ?_ | with_reducible refine Below.setCell ?_ ?_ _ | with_reducible refine Below.atPut ?_ ?_ _ | (simp [go_sem]; done) | (simp [go_sem]; omega)))⟩, rfl⟩⟩
        case measure => simp [intOf]; omega
    · obtain rfl : i = 8 := by omega
      clear hb
      have HR := hid hr
      clear hr
      go_wp2_with (first | (((with_reducible refine wp_region_fut_lit (by kernel_rfl) (by kernel_rfl) ?_)); (repeat (go_big_quiet_step ((first | fail)))); ((with_reducible refine wpQuiet_nil ?_)); rintro _ ⟨u, rfl⟩; (try (rw [Fut.put_self u (by first | assumption | (simp [go_sem]; done) | (simp [go_sem]; omega))]))))
      go_ret
      exact .mk (by rw [← HR.out]; rfl) (by repeat' (first | exact Below.refl _ _ | with_reducible assumption | omega | with_reducible refine below_put_fut ?_ ?_ _ | with_reducible refine below_to_put ?_ | with_reducible refine Below.alloc ?_ ?_ _ | with_reducible refine Below.fut ?_ ?_ _ | with_reducible refine Below.drew ?_ | with_reducible refine Below.setCell ?_ ?_ _ | with_reducible refine Below.atPut ?_ ?_ _ | (simp [go_sem]; done) | (simp [go_sem]; omega)))
end Go.Proofs.Ythknenhcnpgkcaa
