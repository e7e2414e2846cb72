import Derived.Test.YtfjefhmlomdapaaDoorKeyb
/- Contracts of package key: Past, Right, Value; strings.TrimRight at one byte; First. -/
namespace Go.Proofs.YtfjefhmlomdapaaDoor
open Go.RowKit
def bytesOf (l : List UInt8) : ByteArray := ⟨l.toArray⟩
theorem bytesOf_data (s : ByteArray) : bytesOf s.data.toList = s := by cases s; rfl
theorem bytesOf_eq {s : ByteArray} {l : List UInt8} (h : s.data.toList = l) : s = bytesOf l := by subst h; exact (bytesOf_data s).symm
theorem toList_bytesOf (l : List UInt8) : (bytesOf l).data.toList = l := rfl
set_option maxHeartbeats 1000000 in
theorem past_any (a : ByteArray) (ha : a.size + 1 ≤ maxLen) (w : World) :
    Calls Tryd.prog 14 #[.string a] w (Makes (.string (bytesOf (a.data.toList ++ [0]))) w) := by
  unfold maxLen at ha
  have HR := hid (show a ++ (⟨#[0]⟩ : ByteArray) = bytesOf (a.data.toList ++ [0]) by apply bytesOf_eq; simp)
  go_enter Tryd.func14, Tryd.ntmps14
  go_wp2_with (first | (((with_reducible refine wp_region_fut_lit (by kernel_rfl) (by kernel_rfl) ?_)); (repeat (go_big_quiet_step ((first | fail)))); ((with_reducible refine wpQuiet_nil ?_)); rintro _ ⟨u, rfl⟩))
  go_ret
  exact .mk (by rw [← HR.out]; rfl) (by repeat' (first | exact Below.refl _ _ | with_reducible refine Below.alloc ?_ ?_ _ | with_reducible refine Below.fut ?_ ?_ _ | with_reducible refine Below.drew ?_ | with_reducible refine Below.setCell ?_ ?_ _ | (simp [go_sem]; done) | (simp [go_sem]; omega)))
def rightN (n : Nat) : Int := if n < 1 ∨ 16 < n then 3 else 0
def valueN (n : Nat) : Int := if 16 < n then 4 else 0
set_option maxHeartbeats 1000000 in
theorem right_any (a : ByteArray) (w : World) :
    Calls Tryd.prog 15 #[.string a] w (Makes (.int .i64 (rightN a.size)) w) := by
  rcases Decidable.em (a.size < 1) with h | h
  · have e : a = ⟨#[]⟩ := by
      have := ByteArray.size_eq_zero_iff.1 (show a.size = 0 by omega)
      rw [this]; rfl
    subst e
    go_enter Tryd.func15, Tryd.ntmps15
    go_wp2_with (first | (((with_reducible refine wp_region_fut_lit (by kernel_rfl) (by kernel_rfl) ?_)); (repeat (go_big_quiet_step ((first | fail)))); ((with_reducible refine wpQuiet_nil ?_)); rintro _ ⟨u, rfl⟩))
    go_ret; exact .mk rfl (by repeat' (first | exact Below.refl _ _ | with_reducible refine Below.alloc ?_ ?_ _ | with_reducible refine Below.fut ?_ ?_ _ | with_reducible refine Below.drew ?_ | with_reducible refine Below.setCell ?_ ?_ _ | (simp [go_sem]; done) | (simp [go_sem]; omega)))
  · have e2 : (a.toList.isEmpty) = false := by
      rw [ByteArray.toList_eq]
      cases hh : a.data.toList with
      | nil => exfalso; have : a.data.toList.length = 0 := by rw [hh]; rfl
               have h3 : a.data.toList.length = a.size := by simp
               omega
      | cons _ _ => rfl
    rcases Decidable.em (16 < a.size) with g | g
    · have HR := hid (show rightN a.size = 3 by unfold rightN; rw [if_pos (by omega)])
      go_enter Tryd.func15, Tryd.ntmps15
      go_wp2_with (first | (((with_reducible refine wp_region_fut_lit (by kernel_rfl) (by kernel_rfl) ?_)); (repeat (go_big_quiet_step ((first | fail)))); ((with_reducible refine wpQuiet_nil ?_)); rintro _ ⟨u, rfl⟩))
      go_ret
      exact .mk (by rw [HR.out]; rfl) (by repeat' (first | exact Below.refl _ _ | with_reducible refine Below.alloc ?_ ?_ _ | with_reducible refine Below.fut ?_ ?_ _ | with_reducible refine Below.drew ?_ | with_reducible refine Below.setCell ?_ ?_ _ | (simp [go_sem]; done) | (simp [go_sem]; omega)))
    · have HR := hid (show rightN a.size = 0 by unfold rightN; rw [if_neg (by omega)])
      go_enter Tryd.func15, Tryd.ntmps15
      go_wp2_with (first | (((with_reducible refine wp_region_fut_lit (by kernel_rfl) (by kernel_rfl) ?_)); (repeat (go_big_quiet_step ((first | fail)))); ((with_reducible refine wpQuiet_nil ?_)); rintro _ ⟨u, rfl⟩))
      go_ret
      exact .mk (by rw [HR.out]; rfl) (by repeat' (first | exact Below.refl _ _ | with_reducible refine Below.alloc ?_ ?_ _ | with_reducible refine Below.fut ?_ ?_ _ | with_reducible refine Below.drew ?_ | with_reducible refine Below.setCell ?_ ?_ _ | (simp [go_sem]; done) | (simp [go_sem]; omega)))
set_option maxHeartbeats 1000000 in
theorem value_any (a : ByteArray) (w : World) :
    Calls Tryd.prog 17 #[.string a] w (Makes (.int .i64 (valueN a.size)) w) := by
  rcases Decidable.em (16 < a.size) with g | g
  · have HR := hid (show valueN a.size = 4 by unfold valueN; rw [if_pos (by omega)])
    go_enter Tryd.func17, Tryd.ntmps17
    go_wp2_with (first | (((with_reducible refine wp_region_fut_lit (by kernel_rfl) (by kernel_rfl) ?_)); (repeat (go_big_quiet_step ((first | fail)))); ((with_reducible refine wpQuiet_nil ?_)); rintro _ ⟨u, rfl⟩))
    go_ret
    exact .mk (by rw [HR.out]; rfl) (by repeat' (first | exact Below.refl _ _ | with_reducible refine Below.alloc ?_ ?_ _ | with_reducible refine Below.fut ?_ ?_ _ | with_reducible refine Below.drew ?_ | with_reducible refine Below.setCell ?_ ?_ _ | (simp [go_sem]; done) | (simp [go_sem]; omega)))
  · have HR := hid (show valueN a.size = 0 by unfold valueN; rw [if_neg (by omega)])
    go_enter Tryd.func17, Tryd.ntmps17
    go_wp2_with (first | (((with_reducible refine wp_region_fut_lit (by kernel_rfl) (by kernel_rfl) ?_)); (repeat (go_big_quiet_step ((first | fail)))); ((with_reducible refine wpQuiet_nil ?_)); rintro _ ⟨u, rfl⟩))
    go_ret
    exact .mk (by rw [HR.out]; rfl) (by repeat' (first | exact Below.refl _ _ | with_reducible refine Below.alloc ?_ ?_ _ | with_reducible refine Below.fut ?_ ?_ _ | with_reducible refine Below.drew ?_ | with_reducible refine Below.setCell ?_ ?_ _ | (simp [go_sem]; done) | (simp [go_sem]; omega)))
end Go.Proofs.YtfjefhmlomdapaaDoor
