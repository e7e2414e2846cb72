/- The three closed facts that read the program's head words, out of one look at them: for the claims of a program of many roots, where one kernel look at all closed facts takes more memory than there is. -/
import Derived.Test.YthknenhcnpgkcaaGreatRows
import Derived.ProofKit
import Derived.JoinedOf
namespace Go.Proofs.YthknenhcnpgkcaaGreat
set_option linter.unusedVariables false
set_option linter.unusedSimpArgs false
set_option maxRecDepth 100000
theorem words_is : ∃ r, behindMainWord (wordsSigns Tryz.prog.initOrder.toList) = "cut".toList :: r :=
  ⟨(behindMainWord (wordsSigns Tryz.prog.initOrder.toList)).tail, by kernel_rfl⟩
theorem make_is : Tryz.prog.make = some .cut := by
  obtain ⟨r, h⟩ := words_is
  unfold Program.make
  rw [h]
  kernel_rfl
theorem lifts_is : Tryz.prog.liftsFinal = false := by
  obtain ⟨r, h⟩ := words_is
  unfold Program.liftsFinal Program.headLifts
  rw [h]
  kernel_rfl
theorem enter_is : Tryz.prog.mayEnter = true := by
  obtain ⟨r, h⟩ := words_is
  unfold Program.mayEnter
  rw [h]
  kernel_rfl
end Go.Proofs.YthknenhcnpgkcaaGreat
