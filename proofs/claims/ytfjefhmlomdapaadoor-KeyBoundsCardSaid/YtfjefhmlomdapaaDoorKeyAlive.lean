import Derived.Test.YtfjefhmlomdapaaDoorKeyPure
/- The statements' first call. -/
namespace Go.Proofs.YtfjefhmlomdapaaDoor
open Go.RowKit
theorem first_is (x : Int) (n : Nat) (hx : x = n) (hn : n < 18446744073709551616) (r : ByteArray) (hr : bytesOf (firstL n) = r) (w : World) :
    Calls Tryd.prog 13 #[.int .u64 x] w (Makes (.string r) w) := by
  subst hx; subst hr; exact first_any n hn w
theorem less_is (a b : ByteArray) (ha : a.size ≤ maxLen) (hb : b.size ≤ maxLen) (r : Bool) (hr : Op.bytesLess a.data.toList b.data.toList = r) (w : World) :
    Calls Tryd.prog 11 #[.string a, .string b] w (Makes (.bool r) w) := by
  subst hr; exact less_any a b ha hb w
theorem addr_is (a : ByteArray) (ha : a.size ≤ maxLen) (r : Nat) (ri : Int) (hri : (r : Int) = ri) (hr : addrN a.data.toList = r) (w : World) :
    Calls Tryd.prog 12 #[.string a] w (Makes (.int .u64 ri) w) := by
  subst hri; exact addr_any a ha r hr w
theorem past_is (a : ByteArray) (ha : a.size + 1 ≤ maxLen) (r : ByteArray) (hr : bytesOf (a.data.toList ++ [0]) = r) (w : World) :
    Calls Tryd.prog 14 #[.string a] w (Makes (.string r) w) := by
  subst hr; exact past_any a ha w
theorem right_is (a : ByteArray) (r : Int) (hr : rightN a.size = r) (w : World) :
    Calls Tryd.prog 15 #[.string a] w (Makes (.int .i64 r) w) := by
  subst hr; exact right_any a w
theorem cons97 : (⟨#[97]⟩ : ByteArray).size ≤ maxLen := by decide
theorem cons972 : (⟨#[97, 98]⟩ : ByteArray).size ≤ maxLen := by decide
theorem cons97p : (⟨#[97]⟩ : ByteArray).size + 1 ≤ maxLen := by decide
theorem aliveA : addrN (⟨#[97]⟩ : ByteArray).data.toList = 6989586621679009792 := by decide
theorem aliveAi : ((6989586621679009792 : Nat) : Int) = 6989586621679009792 := by rfl
theorem aliveF : bytesOf (firstL 6989586621679009792) = (⟨#[97]⟩ : ByteArray) := by decide
theorem aliveL : Op.bytesLess (⟨#[97]⟩ : ByteArray).data.toList (⟨#[97, 98]⟩ : ByteArray).data.toList = true := by decide
theorem aliveR : rightN (⟨#[]⟩ : ByteArray).size = 3 := by decide
theorem aliveP : bytesOf ((⟨#[97]⟩ : ByteArray).data.toList ++ [0]) = (⟨#[97, 0]⟩ : ByteArray) := by decide
set_option maxRecDepth 100000 in
set_option maxHeartbeats 1000000 in
theorem alive_any (w : World) : Calls Tryd.prog 10 #[] w (Makes (.bool true) w) := by
  go_enter Tryd.func10, Tryd.ntmps10
  go_wp2_with (first | (go_at_call 12; ((with_reducible refine (addr_is _ cons97 _ _ aliveAi aliveA _).mono ?_)); rintro _ _ ⟨rfl, u, rfl⟩) | (go_at_call 13; ((with_reducible refine (first_is _ _ aliveAi.symm (by decide) _ aliveF _).mono ?_)); rintro _ _ ⟨rfl, u, rfl⟩) | (go_at_call 11; ((with_reducible refine (less_is _ _ cons97 cons972 _ aliveL _).mono ?_)); rintro _ _ ⟨rfl, u, rfl⟩) | (go_at_call 15; ((with_reducible refine (right_is _ _ aliveR _).mono ?_)); rintro _ _ ⟨rfl, u, rfl⟩) | (go_at_call 14; ((with_reducible refine (past_is _ cons97p _ aliveP _).mono ?_)); rintro _ _ ⟨rfl, u, rfl⟩) | (((with_reducible refine wp_region_fut_lit (by kernel_rfl) (by kernel_rfl) ?_)); (repeat (go_big_quiet_step ((first | (go_at_call 12; with_reducible exact Calls.fut_of (addr_is _ cons97 _ _ aliveAi aliveA _)) | (go_at_call 13; with_reducible exact Calls.fut_of (first_is _ _ aliveAi.symm (by decide) _ aliveF _)) | (go_at_call 11; with_reducible exact Calls.fut_of (less_is _ _ cons97 cons972 _ aliveL _)) | (go_at_call 15; with_reducible exact Calls.fut_of (right_is _ _ aliveR _)) | (go_at_call 14; with_reducible exact Calls.fut_of (past_is _ cons97p _ aliveP _)))))); ((with_reducible refine wpQuiet_nil ?_)); rintro _ ⟨u, rfl⟩))
  go_ret; exact .mk rfl (by repeat' (first | exact Below.refl _ _ | with_reducible refine Below.alloc ?_ ?_ _ | with_reducible refine Below.fut ?_ ?_ _ | with_reducible refine Below.drew ?_ | with_reducible refine Below.setCell ?_ ?_ _ | (simp [go_sem]; done) | (simp [go_sem]; omega)))
end Go.Proofs.YtfjefhmlomdapaaDoor
