import Derived.Test.YthknenhcnpgkcaaRows
import Derived.WalkKit
import Derived.ProofKit
import Derived.OpenShut
import Derived.ShutString
import Derived.ChangeOld
import Derived.Below
import Derived.Lib.SmallJoins
/- What each statement's frame wants once. -/
namespace Go.Proofs.Ythknenhcnpgkcaa
open Go.RowKit
theorem own : ownKnob Try.prog.godebug = none := by kernel_rfl
theorem laidOut : laidOutB Try.prog = true := by kernel_rfl
/-- A number of 64 bits without a sign. -/
def U64 (n : Int) : Prop := (Lit.int .u64 n).wf = true
theorem U64.bd {n : Int} (h : U64 n) : 0 ≤ n ∧ n ≤ 18446744073709551615 := by
  have h : (Lit.int .u64 n).wf = true := h
  simp [Lit.wf, IntKind.min, IntKind.max, IntKind.signed, IntKind.bits] at h
  omega
end Go.Proofs.Ythknenhcnpgkcaa
