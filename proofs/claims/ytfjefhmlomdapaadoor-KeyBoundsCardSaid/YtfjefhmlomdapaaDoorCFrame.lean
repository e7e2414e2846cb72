import Derived.Test.YtfjefhmlomdapaaDoorCards
import Derived.Test.YtfjefhmlomdapaaDoorTie
import Derived.WalkKit
import Derived.ProofKit
import Derived.OpenShut
import Derived.ShutString
import Derived.ChangeOld
import Derived.Below
import Derived.Lib.SmallJoins
import Derived.Deep.DeepHandedRow
import Derived.Lib.LaidTab
import GoSem.PinnedTables
/- What each statement's frame wants once; a world that holds the two tables. -/
namespace Go.Proofs.YtfjefhmlomdapaaDoor
open Go.RowKit
theorem own : ownKnob Tryd.prog.godebug = none := by kernel_rfl
theorem laidOut : laidOutB Tryd.prog = true := by kernel_rfl
/-- A number of 64 bits without a sign. -/
def U64 (n : Int) : Prop := (Lit.int .u64 n).wf = true
theorem U64.bd {n : Int} (h : U64 n) : 0 ≤ n ∧ n ≤ 18446744073709551615 := by
  have h : (Lit.int .u64 n).wf = true := h
  simp [Lit.wf, IntKind.min, IntKind.max, IntKind.signed, IntKind.bits] at h
  omega
def ranges : List Nat := [128, 191, 160, 191, 128, 159, 144, 191, 128, 143, 0, 0, 0, 0, 0, 0, 0, 0, 0, 0, 0, 0, 0, 0, 0, 0, 0, 0, 0, 0, 0, 0]
def layIn (vs : List Nat) : Obj → Obj
  | .cells _ t frozen => .cells (vs.map (fun n : Nat => Value.int .u8 (n : Int))).toArray t frozen
  | o => o
noncomputable def laidWorld (os : Os) : World :=
  { World.holding Tryd.prog os ⟨#[], #[], []⟩ with heap := ((World.holding Tryd.prog os ⟨#[], #[], []⟩).heap.modify 0 (layIn Go.Pinned.utf8FirstZ)).modify 1 (layIn ranges) }
end Go.Proofs.YtfjefhmlomdapaaDoor
