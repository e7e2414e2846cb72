import Derived.Test.YtfjefhmlomdapaaDoorKeye
/- The document's own answers for keys: Addr, Wide, First. -/
namespace Go.Proofs.YtfjefhmlomdapaaDoor
open Go.RowKit
theorem wide_conv' (x : Nat) (hx : x < 18446744073709551616) (w : World) :
    (convert 30 9 (.slice (some ⟨w.heap.size, 0, none⟩) 8 8)).run Tryd.prog (w.alloc (.cells #[.int .u8 (bits .and .u64 ((x : Int) / 256 / 256 / 256 / 256 / 256 / 256 / 256) 255 % 256), .int .u8 (bits .and .u64 ((x : Int) / 256 / 256 / 256 / 256 / 256 / 256) 255 % 256), .int .u8 (bits .and .u64 ((x : Int) / 256 / 256 / 256 / 256 / 256) 255 % 256), .int .u8 (bits .and .u64 ((x : Int) / 256 / 256 / 256 / 256) 255 % 256), .int .u8 (bits .and .u64 ((x : Int) / 256 / 256 / 256) 255 % 256), .int .u8 (bits .and .u64 ((x : Int) / 256 / 256) 255 % 256), .int .u8 (bits .and .u64 ((x : Int) / 256) 255 % 256), .int .u8 (bits .and .u64 (x : Int) 255 % 256)] 5)) =
      .ok (.string (bytesOf (wideL x))) (w.alloc (.cells #[.int .u8 (bits .and .u64 ((x : Int) / 256 / 256 / 256 / 256 / 256 / 256 / 256) 255 % 256), .int .u8 (bits .and .u64 ((x : Int) / 256 / 256 / 256 / 256 / 256 / 256) 255 % 256), .int .u8 (bits .and .u64 ((x : Int) / 256 / 256 / 256 / 256 / 256) 255 % 256), .int .u8 (bits .and .u64 ((x : Int) / 256 / 256 / 256 / 256) 255 % 256), .int .u8 (bits .and .u64 ((x : Int) / 256 / 256 / 256) 255 % 256), .int .u8 (bits .and .u64 ((x : Int) / 256 / 256) 255 % 256), .int .u8 (bits .and .u64 ((x : Int) / 256) 255 % 256), .int .u8 (bits .and .u64 (x : Int) 255 % 256)] 5)) := by
  have h (n : Int) (h0 : 0 ≤ n) (h1 : n < 18446744073709551616) : bits .and .u64 n 255 % 256 = n % 256 := by
    have := bits_mask .u64 64 (by decide) (fun n h0 h1 => by rw [IntKind.wrap_u64]; omega) 8 (by decide) n h0 (by omega)
    rw [show (2 : Int) ^ 8 - 1 = 255 from rfl, show (2 : Int) ^ 8 = 256 from rfl] at this
    omega
  have e7 : bits .and .u64 ((x : Int) / 256 / 256 / 256 / 256 / 256 / 256 / 256) 255 % 256 = (x : Int) / 72057594037927936 := by rw [h _ (by omega) (by omega)]; try omega
  have e6 : bits .and .u64 ((x : Int) / 256 / 256 / 256 / 256 / 256 / 256) 255 % 256 = (x : Int) / 281474976710656 % 256 := by rw [h _ (by omega) (by omega)]; try omega
  have e5 : bits .and .u64 ((x : Int) / 256 / 256 / 256 / 256 / 256) 255 % 256 = (x : Int) / 1099511627776 % 256 := by rw [h _ (by omega) (by omega)]; try omega
  have e4 : bits .and .u64 ((x : Int) / 256 / 256 / 256 / 256) 255 % 256 = (x : Int) / 4294967296 % 256 := by rw [h _ (by omega) (by omega)]; try omega
  have e3 : bits .and .u64 ((x : Int) / 256 / 256 / 256) 255 % 256 = (x : Int) / 16777216 % 256 := by rw [h _ (by omega) (by omega)]; try omega
  have e2 : bits .and .u64 ((x : Int) / 256 / 256) 255 % 256 = (x : Int) / 65536 % 256 := by rw [h _ (by omega) (by omega)]; try omega
  have e1 : bits .and .u64 ((x : Int) / 256) 255 % 256 = (x : Int) / 256 % 256 := by rw [h _ (by omega) (by omega)]; try omega
  have e0 : bits .and .u64 ((x : Int)) 255 % 256 = (x : Int) % 256 := by rw [h _ (by omega) (by omega)]; try omega
  rw [e7, e6, e5, e4, e3, e2, e1, e0]
  exact wide_conv x hx w
set_option maxRecDepth 100000 in
set_option maxHeartbeats 1000000 in
theorem refwide_any (x : Nat) (hx : x < 18446744073709551616) (w : World) :
    Calls Tryd.prog 22 #[.int .u64 x] w (Makes (.string (bytesOf (wideL x))) w) := by
  have hmk : ∀ w, (Instr.makeSlice 30 (.int .i64 8) (.int .i64 8)).run Tryd.prog w = .ok (.slice (some ⟨w.heap.size, 0, none⟩) 8 8) (w.alloc (.cells #[.int .u8 0, .int .u8 0, .int .u8 0, .int .u8 0, .int .u8 0, .int .u8 0, .int .u8 0, .int .u8 0] 5)) := fun _ => by kernel_rfl
  have hcv := wide_conv' x hx w
  go_enter Tryd.func22, Tryd.ntmps22
  go_wp2_with (first | ((with_reducible refine wp_loop_rounds 9 ?_)) | ((with_reducible refine rounds_step ?_)))
  go_ret; exact .mk rfl (by repeat' (first | exact Below.refl _ _ | with_reducible refine Below.alloc ?_ ?_ _ | with_reducible refine Below.fut ?_ ?_ _ | with_reducible refine Below.drew ?_ | with_reducible refine Below.setCell ?_ ?_ _ | (simp [go_sem]; done) | (simp [go_sem]; omega)))
set_option maxHeartbeats 1000000 in
theorem refaddr_any (a : ByteArray) (ha : a.size ≤ maxLen) (r : Nat) (hr : addrN a.data.toList = r) (w : World) :
    Calls Tryd.prog 19 #[.string a] w (Makes (.int .u64 r) w) := by
  unfold maxLen at ha
  go_enter Tryd.func19, Tryd.ntmps19
  go_wp2_with fail
  go_loopw [3, 4] (fun v x wr => ∃ i : Nat, i ≤ 8 ∧ x = .int .i64 i ∧ v = .int .u64 (addrUp a.data.toList i) ∧ ∃ u : Fut w, wr = u.val) (fun _ x _ => 8 - (intOf x).toNat)
  case atStart => exact ⟨0, by omega, rfl, rfl, ⟨⟨w, Below.refl _ _⟩, rfl⟩⟩
  case round =>
    obtain ⟨i, hi, rfl, rfl, u, rfl⟩ := hrel
    have hb := addrUp_lt a.data.toList i
    by_cases hk : i < 8
    · have hp : 256 ^ i ≤ 256 ^ 7 := Nat.pow_le_pow_right (by omega) (by omega)
      have hbd : addrUp a.data.toList i < 72057594037927936 := by omega
      clear hb hp
      by_cases hs : i < a.size
      · have HB := hid (byteAt_in a i hs)
        have hc : a[i].toNat < 256 := UInt8.toNat_lt _
        go_wp2_with (first | (((with_reducible refine wp_region_fut_lit (by kernel_rfl) (by kernel_rfl) ?_)); (repeat (go_big_quiet_step ((first | fail)))); ((with_reducible refine wpQuiet_nil ?_)); rintro _ ⟨u, rfl⟩))
        go_roundw
        case rel => exact ⟨i + 1, by omega, by go_num, by simp only [addrUp]; rw [HB.out]; go_num, ⟨⟨_, (by repeat' (first | exact Below.refl _ _ | with_reducible refine Below.alloc ?_ ?_ _ | with_reducible refine Below.fut ?_ ?_ _ | with_reducible refine Below.drew ?_ | with_reducible refine Below.setCell ?_ ?_ _ | (simp [go_sem]; done) | (simp [go_sem]; omega)))⟩, rfl⟩⟩
        case measure => simp [intOf]; omega
      · have HB := hid (byteAt_out a i (by omega))
        have HS := hid (shl_byte (addrUp a.data.toList i))
        go_wp2_with (first | (((with_reducible refine wp_region_fut_lit (by kernel_rfl) (by kernel_rfl) ?_)); (repeat (go_big_quiet_step ((first | fail)))); ((with_reducible refine wpQuiet_nil ?_)); rintro _ ⟨u, rfl⟩))
        go_roundw
        case rel => exact ⟨i + 1, by omega, by go_num, by simp only [addrUp]; rw [HB.out, HS.out], ⟨⟨_, (by repeat' (first | exact Below.refl _ _ | with_reducible refine Below.alloc ?_ ?_ _ | with_reducible refine Below.fut ?_ ?_ _ | with_reducible refine Below.drew ?_ | with_reducible refine Below.setCell ?_ ?_ _ | (simp [go_sem]; done) | (simp [go_sem]; omega)))⟩, rfl⟩⟩
        case measure => simp [intOf]; omega
    · obtain rfl : i = 8 := by omega
      clear hb
      have HR := hid hr
      clear hr
      go_wp2_with (first | (((with_reducible refine wp_region_fut_lit (by kernel_rfl) (by kernel_rfl) ?_)); (repeat (go_big_quiet_step ((first | fail)))); ((with_reducible refine wpQuiet_nil ?_)); rintro _ ⟨u, rfl⟩))
      go_ret
      exact .mk (by rw [← HR.out]; rfl) (by repeat' (first | exact Below.refl _ _ | with_reducible refine Below.alloc ?_ ?_ _ | with_reducible refine Below.fut ?_ ?_ _ | with_reducible refine Below.drew ?_ | with_reducible refine Below.setCell ?_ ?_ _ | (simp [go_sem]; done) | (simp [go_sem]; omega)))
set_option maxRecDepth 100000 in
set_option maxHeartbeats 1000000 in
theorem reffirst_any (x : Nat) (hx : x < 18446744073709551616) (w : World) :
    Calls Tryd.prog 20 #[.int .u64 x] w (Makes (.string (bytesOf (firstL x))) w) := by
  go_enter Tryd.func20, Tryd.ntmps20
  have hs8 : (bytesOf (wideL x)).size ≤ 8 := by show 8 ≤ 8; decide
  generalize hw : bytesOf (wideL x) = b at hs8
  have hb : b.data.toList = wideL x := by rw [← hw]; rfl
  have HW := hid hw
  clear hw
  have HR := hid (show trimL 0 b.data.toList = firstL x by rw [hb]; rfl)
  clear hb
  go_wp2_with (first | (go_at_call 22; ((with_reducible refine (refwide_any _ hx _).mono ?_)); rintro _ _ ⟨rfl, u, rfl⟩))
  rw [HW.out]
  go_loopw [3] (fun v wr => ∃ t : ByteArray, t.size ≤ 8 ∧ v = .string t ∧ Hid (trimL 0 t.data.toList = firstL x) ∧ ∃ u : Fut w, wr = u.val) (fun v _ => strLen v)
  case atStart => exact ⟨b, hs8, rfl, HR, ⟨⟨_, (by repeat' (first | exact Below.refl _ _ | with_reducible refine Below.alloc ?_ ?_ _ | with_reducible refine Below.fut ?_ ?_ _ | with_reducible refine Below.drew ?_ | with_reducible refine Below.setCell ?_ ?_ _ | (simp [go_sem]; done) | (simp [go_sem]; omega)))⟩, rfl⟩⟩
  case round =>
    obtain ⟨t, ht, rfl, hT, u, rfl⟩ := hrel
    by_cases h0 : 0 < t.size
    · have h1 : t.size - 1 < t.size := by omega
      rcases Nat.lt_or_ge 0 t[t.size - 1].toNat with e | e
      · have HR := hid ((trimL_stop 0 t h0 (by omega)).symm.trans hT.out)
        go_wp2_with (first | (((with_reducible refine wp_region_fut_lit (by kernel_rfl) (by kernel_rfl) ?_)); (repeat (go_big_quiet_step ((first | fail)))); ((with_reducible refine wpQuiet_nil ?_)); rintro _ ⟨u, rfl⟩))
        go_ret
        exact .mk (by rw [← HR.out, bytesOf_data]; rfl) (by repeat' (first | exact Below.refl _ _ | with_reducible refine Below.alloc ?_ ?_ _ | with_reducible refine Below.fut ?_ ?_ _ | with_reducible refine Below.drew ?_ | with_reducible refine Below.setCell ?_ ?_ _ | (simp [go_sem]; done) | (simp [go_sem]; omega)))
      · have e0 : t[t.size - 1].toNat = 0 := by omega
        have HR := hid ((trimL_cut 0 t h0 e0).trans hT.out)
        clear e
        go_wp2_with (first | (((with_reducible refine wp_region_fut_lit (by kernel_rfl) (by kernel_rfl) ?_)); (repeat (go_big_quiet_step ((first | fail)))); ((with_reducible refine wpQuiet_nil ?_)); rintro _ ⟨u, rfl⟩))
        go_roundw
        case rel => exact ⟨_, by simp; omega, rfl, HR, ⟨⟨_, (by repeat' (first | exact Below.refl _ _ | with_reducible refine Below.alloc ?_ ?_ _ | with_reducible refine Below.fut ?_ ?_ _ | with_reducible refine Below.drew ?_ | with_reducible refine Below.setCell ?_ ?_ _ | (simp [go_sem]; done) | (simp [go_sem]; omega)))⟩, rfl⟩⟩
        case measure => simp [strLen]; omega
    · have HR := hid ((trimL_none 0 t (by omega)).symm.trans hT.out)
      go_wp2_with (first | (((with_reducible refine wp_region_fut_lit (by kernel_rfl) (by kernel_rfl) ?_)); (repeat (go_big_quiet_step ((first | fail)))); ((with_reducible refine wpQuiet_nil ?_)); rintro _ ⟨u, rfl⟩))
      go_ret
      exact .mk (by rw [← HR.out, bytesOf_data]; rfl) (by repeat' (first | exact Below.refl _ _ | with_reducible refine Below.alloc ?_ ?_ _ | with_reducible refine Below.fut ?_ ?_ _ | with_reducible refine Below.drew ?_ | with_reducible refine Below.setCell ?_ ?_ _ | (simp [go_sem]; done) | (simp [go_sem]; omega)))
end Go.Proofs.YtfjefhmlomdapaaDoor
