import Derived.Test.YtfjefhmlomdapaaDoorKeyc
import Derived.Lib.Strings
/- strings.TrimRight at one byte; First. -/
namespace Go.Proofs.YtfjefhmlomdapaaDoor
open Go.RowKit
/-- What stands ahead of the last bytes that are alike. -/
def trimL (c : Nat) (l : List UInt8) : List UInt8 := (l.reverse.dropWhile (fun x => x.toNat == c)).reverse
theorem trimL_cut (c : Nat) (s : ByteArray) (h : 0 < s.size) (e : s[s.size - 1].toNat = c) : trimL c (s.extract 0 (s.size - 1)).data.toList = trimL c s.data.toList := by
  have e1 : (s.extract 0 (s.size - 1)).data.toList = s.data.toList.take (s.size - 1) := by rw [Lib.extract_data]; simp
  have e2 : s.data.toList = s.data.toList.take (s.size - 1) ++ [s[s.size - 1]] := by
    have := List.take_append_drop (s.size - 1) s.data.toList
    rw [List.drop_eq_getElem_cons (by simp; omega)] at this
    rw [List.drop_eq_nil_iff.2 (by simp; omega)] at this
    exact this.symm
  rw [e1]
  conv => rhs; rw [e2]
  unfold trimL
  rw [List.reverse_append]
  simp [e]
theorem trimL_stop (c : Nat) (s : ByteArray) (h : 0 < s.size) (e : s[s.size - 1].toNat ≠ c) : trimL c s.data.toList = s.data.toList := by
  have e2 : s.data.toList = s.data.toList.take (s.size - 1) ++ [s[s.size - 1]] := by
    have := List.take_append_drop (s.size - 1) s.data.toList
    rw [List.drop_eq_getElem_cons (by simp; omega)] at this
    rw [List.drop_eq_nil_iff.2 (by simp; omega)] at this
    exact this.symm
  rw [e2]
  unfold trimL
  rw [List.reverse_append]
  simp [e]
theorem trimL_none (c : Nat) (s : ByteArray) (h : s.size = 0) : trimL c s.data.toList = s.data.toList := by
  have := ByteArray.size_eq_zero_iff.1 h
  subst this; rfl
def strLen : Value → Nat
  | .string t => t.size
  | _ => 0
set_option maxHeartbeats 1000000 in
theorem trimByte_any (s : ByteArray) (hs : s.size ≤ maxLen) (c : Nat) (ci : Int) (hc : ci = c) (w : World) :
    Calls Tryd.prog 23 #[.string s, .int .u8 ci] w (Makes (.string (bytesOf (trimL c s.data.toList))) w) := by
  unfold maxLen at hs
  subst hc
  go_enter Tryd.func23, Tryd.ntmps23
  go_wp2_with fail
  go_loopw [0] (fun v wr => ∃ t : ByteArray, t.size ≤ s.size ∧ v = .string t ∧ Hid (trimL c t.data.toList = trimL c s.data.toList) ∧ ∃ u : Fut w, wr = u.val) (fun v _ => strLen v)
  case atStart => exact ⟨s, Nat.le_refl _, rfl, rfl, ⟨⟨w, Below.refl _ _⟩, rfl⟩⟩
  case round =>
    obtain ⟨t, ht, rfl, hT, u, rfl⟩ := hrel
    by_cases h0 : 0 < t.size
    · have h1 : t.size - 1 < t.size := by omega
      rcases Nat.lt_trichotomy t[t.size - 1].toNat c with e | e | e
      · have HR := hid ((trimL_stop c t h0 (by omega)).symm.trans hT.out)
        go_wp2_with (first | (((with_reducible refine wp_region_fut_lit (by kernel_rfl) (by kernel_rfl) ?_)); (repeat (go_big_quiet_step ((first | fail)))); ((with_reducible refine wpQuiet_nil ?_)); rintro _ ⟨u, rfl⟩))
        go_ret
        exact .mk (by rw [← HR.out, bytesOf_data]; rfl) (by repeat' (first | exact Below.refl _ _ | with_reducible refine Below.alloc ?_ ?_ _ | with_reducible refine Below.fut ?_ ?_ _ | with_reducible refine Below.drew ?_ | with_reducible refine Below.setCell ?_ ?_ _ | (simp [go_sem]; done) | (simp [go_sem]; omega)))
      · have HR := hid ((trimL_cut c t h0 e).trans hT.out)
        go_wp2_with (first | (((with_reducible refine wp_region_fut_lit (by kernel_rfl) (by kernel_rfl) ?_)); (repeat (go_big_quiet_step ((first | fail)))); ((with_reducible refine wpQuiet_nil ?_)); rintro _ ⟨u, rfl⟩))
        go_roundw
        case rel => exact ⟨_, by simp; omega, rfl, HR, ⟨⟨_, (by repeat' (first | exact Below.refl _ _ | with_reducible refine Below.alloc ?_ ?_ _ | with_reducible refine Below.fut ?_ ?_ _ | with_reducible refine Below.drew ?_ | with_reducible refine Below.setCell ?_ ?_ _ | (simp [go_sem]; done) | (simp [go_sem]; omega)))⟩, rfl⟩⟩
        case measure => simp [strLen]; omega
      · have HR := hid ((trimL_stop c t h0 (by omega)).symm.trans hT.out)
        go_wp2_with (first | (((with_reducible refine wp_region_fut_lit (by kernel_rfl) (by kernel_rfl) ?_)); (repeat (go_big_quiet_step ((first | fail)))); ((with_reducible refine wpQuiet_nil ?_)); rintro _ ⟨u, rfl⟩))
        go_ret
        exact .mk (by rw [← HR.out, bytesOf_data]; rfl) (by repeat' (first | exact Below.refl _ _ | with_reducible refine Below.alloc ?_ ?_ _ | with_reducible refine Below.fut ?_ ?_ _ | with_reducible refine Below.drew ?_ | with_reducible refine Below.setCell ?_ ?_ _ | (simp [go_sem]; done) | (simp [go_sem]; omega)))
    · have HR := hid ((trimL_none c t (by omega)).symm.trans hT.out)
      go_wp2_with (first | (((with_reducible refine wp_region_fut_lit (by kernel_rfl) (by kernel_rfl) ?_)); (repeat (go_big_quiet_step ((first | fail)))); ((with_reducible refine wpQuiet_nil ?_)); rintro _ ⟨u, rfl⟩))
      go_ret
      exact .mk (by rw [← HR.out, bytesOf_data]; rfl) (by repeat' (first | exact Below.refl _ _ | with_reducible refine Below.alloc ?_ ?_ _ | with_reducible refine Below.fut ?_ ?_ _ | with_reducible refine Below.drew ?_ | with_reducible refine Below.setCell ?_ ?_ _ | (simp [go_sem]; done) | (simp [go_sem]; omega)))
theorem zeroCast : (0 : Int) = ((0 : Nat) : Int) := rfl
set_option maxRecDepth 100000 in
set_option maxHeartbeats 1000000 in
theorem trimZero_any (s : ByteArray) (hs : s.size ≤ maxLen) (w : World) :
    Calls Tryd.prog 21 #[.string s, .string ⟨#[0]⟩] w (Makes (.string (bytesOf (trimL 0 s.data.toList))) w) := by
  have hz : (((⟨#[0]⟩ : ByteArray)[0].toNat : Nat) : Int) = 0 := rfl
  cases h : s.toList.isEmpty
  · go_enter Tryd.func21, Tryd.ntmps21
    go_wp2_with (first | (go_at_call 23; ((with_reducible refine (trimByte_any _ hs 0 _ zeroCast _).mono ?_)); rintro _ _ ⟨rfl, u, rfl⟩) | (((with_reducible refine wp_region_fut_lit (by kernel_rfl) (by kernel_rfl) ?_)); (repeat (go_big_quiet_step ((first | (go_at_call 23; with_reducible exact Calls.fut_of (trimByte_any _ hs 0 _ zeroCast _)))))); ((with_reducible refine wpQuiet_nil ?_)); rintro _ ⟨u, rfl⟩))
    go_ret; exact .mk rfl (by repeat' (first | exact Below.refl _ _ | with_reducible refine Below.alloc ?_ ?_ _ | with_reducible refine Below.fut ?_ ?_ _ | with_reducible refine Below.drew ?_ | with_reducible refine Below.setCell ?_ ?_ _ | (simp [go_sem]; done) | (simp [go_sem]; omega)))
  · have e : s.data.toList = [] := by rw [ByteArray.toList_eq] at h; simpa using h
    have HR := hid (show s = bytesOf (trimL 0 s.data.toList) by apply bytesOf_eq; rw [e]; rfl)
    go_enter Tryd.func21, Tryd.ntmps21
    go_wp2_with (first | (((with_reducible refine wp_region_fut_lit (by kernel_rfl) (by kernel_rfl) ?_)); (repeat (go_big_quiet_step ((first | fail)))); ((with_reducible refine wpQuiet_nil ?_)); rintro _ ⟨u, rfl⟩))
    go_ret
    exact .mk (by rw [← HR.out]; rfl) (by repeat' (first | exact Below.refl _ _ | with_reducible refine Below.alloc ?_ ?_ _ | with_reducible refine Below.fut ?_ ?_ _ | with_reducible refine Below.drew ?_ | with_reducible refine Below.setCell ?_ ?_ _ | (simp [go_sem]; done) | (simp [go_sem]; omega)))
end Go.Proofs.YtfjefhmlomdapaaDoor
