/-
  No cell of these rows narrows 'for every input' (looked for: loops, veiled, ifaces, maps, wideKeys, modest, calm, conditions, laid).
  DERIVED. THE GIVEN ROWS OF THIS SEAT. 8 by the template 'for every input the law returns true; each argument reads behind the call as it read before'; 0 by the template 'total and deterministic' (their statements: YtanodcpbochheaaTotals.lean).
  GIVEN WITH THE SEED: the statements are not yours to turn. If you find one false, say at which input.
  Laid BY PROGRAM, IN A SANDBOX (cutbox-rows.mjs): the forced cells as the released guide's own fill.sh prints them over the translation a7ea6208440adf87… (all of the seat's roots in one cut). By AI agents, Wed Nov 11 2026. No macro, syntax, notation, axiom, sorry.
-/
import Derived.Test.YtanodcpbochheaaChecked
import GoSem.Claim
import GoSem.ClaimJoined
import GoSem.ClaimMapViews
import Derived.JoinedTies
import Derived.KernelRfl
namespace Go.Proofs.Ytanodcpbochheaa
/- THE CELL 'sum', in the pinned program and in every row, IS THE sha256 OF THE DUMP (.gsa) THAT YtanodcpbochheaaProg.lean LOADS. Nothing in Lean hashes anything: it is a label: what it is worth is what the hold of that sum in a sandbox is worth. -/
noncomputable def Try.pinned : Pinned := { name := "ytanodcpbochheaa", sum := "a7ea6208440adf87b6fc3a7e221014f3fd80650e2ec3506b4ead6ef7fe5dc89e", checked := Try.checked }
namespace Rows
def none {H : Type} : Left H := { results := [], args := [] }

/-- 'rosarylaw2.ArcPieces': WHATEVER THE INPUT: true; the input reads as it did. -/
def arcPiecesSpec : ChangeSpec := { name := "arcPieces", fn := fun _ => fun
  | [d1, d2] => { results := [.lit (.bool true)], args := [d1, d2] }
  | _ => none }
def arcPiecesRow : OpenClaim := { program := "ytanodcpbochheaa", sum := "a7ea6208440adf87b6fc3a7e221014f3fd80650e2ec3506b4ead6ef7fe5dc89e", func := "rosary/rosarylaw2.ArcPieces", spec := "arcPieces", apart := false }
def ArcPiecesSaid : Prop := arcPiecesRow.holds Try.pinned (OpenSpec.ofChange arcPiecesSpec)

/-- ITS FALSE NEIGHBOUR: 'it returns false'. Refute it at one input. -/
def arcPiecesWrong : ChangeSpec := { name := "arcPieces", fn := fun _ => fun
  | [d1, d2] => { results := [.lit (.bool false)], args := [d1, d2] }
  | _ => none }
def ArcPiecesWrongFalsely : Prop := arcPiecesRow.holds Try.pinned (OpenSpec.ofChange arcPiecesWrong)

/-- 'rosarylaw2.ArcPoints': WHATEVER THE INPUT: true; the input reads as it did. -/
def arcPointsSpec : ChangeSpec := { name := "arcPoints", fn := fun _ => fun
  | [d1, d2] => { results := [.lit (.bool true)], args := [d1, d2] }
  | _ => none }
def arcPointsRow : OpenClaim := { program := "ytanodcpbochheaa", sum := "a7ea6208440adf87b6fc3a7e221014f3fd80650e2ec3506b4ead6ef7fe5dc89e", func := "rosary/rosarylaw2.ArcPoints", spec := "arcPoints", apart := false }
def ArcPointsSaid : Prop := arcPointsRow.holds Try.pinned (OpenSpec.ofChange arcPointsSpec)

/-- ITS FALSE NEIGHBOUR: 'it returns false'. Refute it at one input. -/
def arcPointsWrong : ChangeSpec := { name := "arcPoints", fn := fun _ => fun
  | [d1, d2] => { results := [.lit (.bool false)], args := [d1, d2] }
  | _ => none }
def ArcPointsWrongFalsely : Prop := arcPointsRow.holds Try.pinned (OpenSpec.ofChange arcPointsWrong)

/-- 'rosarylaw2.ArcJoins': WHATEVER THE INPUT: true; the input reads as it did. -/
def arcJoinsSpec : ChangeSpec := { name := "arcJoins", fn := fun _ => fun
  | [d1, d2, d3] => { results := [.lit (.bool true)], args := [d1, d2, d3] }
  | _ => none }
def arcJoinsRow : OpenClaim := { program := "ytanodcpbochheaa", sum := "a7ea6208440adf87b6fc3a7e221014f3fd80650e2ec3506b4ead6ef7fe5dc89e", func := "rosary/rosarylaw2.ArcJoins", spec := "arcJoins", apart := false }
def ArcJoinsSaid : Prop := arcJoinsRow.holds Try.pinned (OpenSpec.ofChange arcJoinsSpec)

/-- ITS FALSE NEIGHBOUR: 'it returns false'. Refute it at one input. -/
def arcJoinsWrong : ChangeSpec := { name := "arcJoins", fn := fun _ => fun
  | [d1, d2, d3] => { results := [.lit (.bool false)], args := [d1, d2, d3] }
  | _ => none }
def ArcJoinsWrongFalsely : Prop := arcJoinsRow.holds Try.pinned (OpenSpec.ofChange arcJoinsWrong)

/-- 'rosarylaw2.ArcWithin': WHATEVER THE INPUT: true; the input reads as it did. -/
def arcWithinSpec : ChangeSpec := { name := "arcWithin", fn := fun _ => fun
  | [d1, d2, d3] => { results := [.lit (.bool true)], args := [d1, d2, d3] }
  | _ => none }
def arcWithinRow : OpenClaim := { program := "ytanodcpbochheaa", sum := "a7ea6208440adf87b6fc3a7e221014f3fd80650e2ec3506b4ead6ef7fe5dc89e", func := "rosary/rosarylaw2.ArcWithin", spec := "arcWithin", apart := false }
def ArcWithinSaid : Prop := arcWithinRow.holds Try.pinned (OpenSpec.ofChange arcWithinSpec)

/-- ITS FALSE NEIGHBOUR: 'it returns false'. Refute it at one input. -/
def arcWithinWrong : ChangeSpec := { name := "arcWithin", fn := fun _ => fun
  | [d1, d2, d3] => { results := [.lit (.bool false)], args := [d1, d2, d3] }
  | _ => none }
def ArcWithinWrongFalsely : Prop := arcWithinRow.holds Try.pinned (OpenSpec.ofChange arcWithinWrong)

/-- 'rosarylaw2.ArcTurns': WHATEVER THE INPUT: true; the input reads as it did. -/
def arcTurnsSpec : ChangeSpec := { name := "arcTurns", fn := fun _ => fun
  | [d1, d2, d3, d4] => { results := [.lit (.bool true)], args := [d1, d2, d3, d4] }
  | _ => none }
def arcTurnsRow : OpenClaim := { program := "ytanodcpbochheaa", sum := "a7ea6208440adf87b6fc3a7e221014f3fd80650e2ec3506b4ead6ef7fe5dc89e", func := "rosary/rosarylaw2.ArcTurns", spec := "arcTurns", apart := false }
def ArcTurnsSaid : Prop := arcTurnsRow.holds Try.pinned (OpenSpec.ofChange arcTurnsSpec)

/-- ITS FALSE NEIGHBOUR: 'it returns false'. Refute it at one input. -/
def arcTurnsWrong : ChangeSpec := { name := "arcTurns", fn := fun _ => fun
  | [d1, d2, d3, d4] => { results := [.lit (.bool false)], args := [d1, d2, d3, d4] }
  | _ => none }
def ArcTurnsWrongFalsely : Prop := arcTurnsRow.holds Try.pinned (OpenSpec.ofChange arcTurnsWrong)

/-- 'rosarylaw2.ArcParts': WHATEVER THE INPUT: true; the input reads as it did. -/
def arcPartsSpec : ChangeSpec := { name := "arcParts", fn := fun _ => fun
  | [d1, d2, d3, d4] => { results := [.lit (.bool true)], args := [d1, d2, d3, d4] }
  | _ => none }
def arcPartsRow : OpenClaim := { program := "ytanodcpbochheaa", sum := "a7ea6208440adf87b6fc3a7e221014f3fd80650e2ec3506b4ead6ef7fe5dc89e", func := "rosary/rosarylaw2.ArcParts", spec := "arcParts", apart := false }
def ArcPartsSaid : Prop := arcPartsRow.holds Try.pinned (OpenSpec.ofChange arcPartsSpec)

/-- ITS FALSE NEIGHBOUR: 'it returns false'. Refute it at one input. -/
def arcPartsWrong : ChangeSpec := { name := "arcParts", fn := fun _ => fun
  | [d1, d2, d3, d4] => { results := [.lit (.bool false)], args := [d1, d2, d3, d4] }
  | _ => none }
def ArcPartsWrongFalsely : Prop := arcPartsRow.holds Try.pinned (OpenSpec.ofChange arcPartsWrong)

/-- 'rosarylaw2.ArcTells': WHATEVER THE INPUT: true; the input reads as it did. -/
def arcTellsSpec : ChangeSpec := { name := "arcTells", fn := fun _ => fun
  | [d1, d2, d3] => { results := [.lit (.bool true)], args := [d1, d2, d3] }
  | _ => none }
def arcTellsRow : OpenClaim := { program := "ytanodcpbochheaa", sum := "a7ea6208440adf87b6fc3a7e221014f3fd80650e2ec3506b4ead6ef7fe5dc89e", func := "rosary/rosarylaw2.ArcTells", spec := "arcTells", apart := false }
def ArcTellsSaid : Prop := arcTellsRow.holds Try.pinned (OpenSpec.ofChange arcTellsSpec)

/-- ITS FALSE NEIGHBOUR: 'it returns false'. Refute it at one input. -/
def arcTellsWrong : ChangeSpec := { name := "arcTells", fn := fun _ => fun
  | [d1, d2, d3] => { results := [.lit (.bool false)], args := [d1, d2, d3] }
  | _ => none }
def ArcTellsWrongFalsely : Prop := arcTellsRow.holds Try.pinned (OpenSpec.ofChange arcTellsWrong)

/-- 'rosarylaw2.ArcCuts': WHATEVER THE INPUT: true; the input reads as it did. -/
def arcCutsSpec : ChangeSpec := { name := "arcCuts", fn := fun _ => fun
  | [d1, d2, d3] => { results := [.lit (.bool true)], args := [d1, d2, d3] }
  | _ => none }
def arcCutsRow : OpenClaim := { program := "ytanodcpbochheaa", sum := "a7ea6208440adf87b6fc3a7e221014f3fd80650e2ec3506b4ead6ef7fe5dc89e", func := "rosary/rosarylaw2.ArcCuts", spec := "arcCuts", apart := false }
def ArcCutsSaid : Prop := arcCutsRow.holds Try.pinned (OpenSpec.ofChange arcCutsSpec)

/-- ITS FALSE NEIGHBOUR: 'it returns false'. Refute it at one input. -/
def arcCutsWrong : ChangeSpec := { name := "arcCuts", fn := fun _ => fun
  | [d1, d2, d3] => { results := [.lit (.bool false)], args := [d1, d2, d3] }
  | _ => none }
def ArcCutsWrongFalsely : Prop := arcCutsRow.holds Try.pinned (OpenSpec.ofChange arcCutsWrong)

/- THE SECOND FORM. 'bulk': how many values and letters a reading holds, each counted each time it is reached (what is shared counts as often as it is met; a slice's spare places count too). A statement '..UptoSaid' is the law's where the arguments, and the package variables that the reading takes, are together of bulk at most 1048576: NARROWER than '..Said'. Prove '..Said' where nothing that the law and all that it calls make is longer than what came in: it says more and counts as full. Else prove '..UptoSaid'. A law counts once. -/
mutual
def uptoBulk {H : Type} : DataW H → Nat
  | .lit (.string bytes) => bytes.length + 1
  | .lit _ => 1
  | .nil => 1
  | .ptr d => uptoBulk d + 1
  | .slice elems spare => uptoBulkAll elems + uptoBulkAll spare + 1
  | .agg parts => uptoBulkAll parts + 1
  | .iface _ d => uptoBulk d + 1
  | .map entries => uptoBulkEntries entries + 1
  | .held _ => 1
def uptoBulkAll {H : Type} : List (DataW H) → Nat
  | [] => 0
  | d :: r => uptoBulk d + uptoBulkAll r
def uptoBulkEntries {H : Type} : List (Lit × DataW H) → Nat
  | [] => 0
  | x :: r => uptoBulkEntry x + uptoBulkEntries r
def uptoBulkEntry {H : Type} : Lit × DataW H → Nat
  | (.string bytes, d) => bytes.length + uptoBulk d + 1
  | (_, d) => uptoBulk d + 1
 end
def uptoSmall : (H : Type) → List (DataW H) → Bool := fun _ ds => decide (uptoBulkAll ds ≤ 1048576)
def OpenSpec.upto (s : _root_.Go.ChangeSpec) : _root_.Go.OpenSpec := { _root_.Go.OpenSpec.ofChange s with cond := some uptoSmall }

/-- 'rosarylaw2.ArcPieces', WHERE WHAT IT READS IS OF BULK AT MOST 1048576: true; the input reads as it did. -/
def arcPiecesUptoRow : OpenClaim := { program := "ytanodcpbochheaa", sum := "a7ea6208440adf87b6fc3a7e221014f3fd80650e2ec3506b4ead6ef7fe5dc89e", func := "rosary/rosarylaw2.ArcPieces", spec := "arcPieces", apart := false, narrowed := true }
def ArcPiecesUptoSaid : Prop := arcPiecesUptoRow.holds Try.pinned (OpenSpec.upto arcPiecesSpec)

/-- 'rosarylaw2.ArcPoints', WHERE WHAT IT READS IS OF BULK AT MOST 1048576: true; the input reads as it did. -/
def arcPointsUptoRow : OpenClaim := { program := "ytanodcpbochheaa", sum := "a7ea6208440adf87b6fc3a7e221014f3fd80650e2ec3506b4ead6ef7fe5dc89e", func := "rosary/rosarylaw2.ArcPoints", spec := "arcPoints", apart := false, narrowed := true }
def ArcPointsUptoSaid : Prop := arcPointsUptoRow.holds Try.pinned (OpenSpec.upto arcPointsSpec)

/-- 'rosarylaw2.ArcJoins', WHERE WHAT IT READS IS OF BULK AT MOST 1048576: true; the input reads as it did. -/
def arcJoinsUptoRow : OpenClaim := { program := "ytanodcpbochheaa", sum := "a7ea6208440adf87b6fc3a7e221014f3fd80650e2ec3506b4ead6ef7fe5dc89e", func := "rosary/rosarylaw2.ArcJoins", spec := "arcJoins", apart := false, narrowed := true }
def ArcJoinsUptoSaid : Prop := arcJoinsUptoRow.holds Try.pinned (OpenSpec.upto arcJoinsSpec)

/-- 'rosarylaw2.ArcWithin', WHERE WHAT IT READS IS OF BULK AT MOST 1048576: true; the input reads as it did. -/
def arcWithinUptoRow : OpenClaim := { program := "ytanodcpbochheaa", sum := "a7ea6208440adf87b6fc3a7e221014f3fd80650e2ec3506b4ead6ef7fe5dc89e", func := "rosary/rosarylaw2.ArcWithin", spec := "arcWithin", apart := false, narrowed := true }
def ArcWithinUptoSaid : Prop := arcWithinUptoRow.holds Try.pinned (OpenSpec.upto arcWithinSpec)

/-- 'rosarylaw2.ArcTurns', WHERE WHAT IT READS IS OF BULK AT MOST 1048576: true; the input reads as it did. -/
def arcTurnsUptoRow : OpenClaim := { program := "ytanodcpbochheaa", sum := "a7ea6208440adf87b6fc3a7e221014f3fd80650e2ec3506b4ead6ef7fe5dc89e", func := "rosary/rosarylaw2.ArcTurns", spec := "arcTurns", apart := false, narrowed := true }
def ArcTurnsUptoSaid : Prop := arcTurnsUptoRow.holds Try.pinned (OpenSpec.upto arcTurnsSpec)

/-- 'rosarylaw2.ArcParts', WHERE WHAT IT READS IS OF BULK AT MOST 1048576: true; the input reads as it did. -/
def arcPartsUptoRow : OpenClaim := { program := "ytanodcpbochheaa", sum := "a7ea6208440adf87b6fc3a7e221014f3fd80650e2ec3506b4ead6ef7fe5dc89e", func := "rosary/rosarylaw2.ArcParts", spec := "arcParts", apart := false, narrowed := true }
def ArcPartsUptoSaid : Prop := arcPartsUptoRow.holds Try.pinned (OpenSpec.upto arcPartsSpec)

/-- 'rosarylaw2.ArcTells', WHERE WHAT IT READS IS OF BULK AT MOST 1048576: true; the input reads as it did. -/
def arcTellsUptoRow : OpenClaim := { program := "ytanodcpbochheaa", sum := "a7ea6208440adf87b6fc3a7e221014f3fd80650e2ec3506b4ead6ef7fe5dc89e", func := "rosary/rosarylaw2.ArcTells", spec := "arcTells", apart := false, narrowed := true }
def ArcTellsUptoSaid : Prop := arcTellsUptoRow.holds Try.pinned (OpenSpec.upto arcTellsSpec)

/-- 'rosarylaw2.ArcCuts', WHERE WHAT IT READS IS OF BULK AT MOST 1048576: true; the input reads as it did. -/
def arcCutsUptoRow : OpenClaim := { program := "ytanodcpbochheaa", sum := "a7ea6208440adf87b6fc3a7e221014f3fd80650e2ec3506b4ead6ef7fe5dc89e", func := "rosary/rosarylaw2.ArcCuts", spec := "arcCuts", apart := false, narrowed := true }
def ArcCutsUptoSaid : Prop := arcCutsUptoRow.holds Try.pinned (OpenSpec.upto arcCutsSpec)

end Rows
end Go.Proofs.Ytanodcpbochheaa
