/-
  No cell of these rows narrows 'for every input' (looked for: loops, veiled, ifaces, maps, wideKeys, modest, calm, conditions, laid).
  DERIVED. THE GIVEN ROWS OF THIS SEAT. 14 by the template 'for every input the law returns true; each argument reads behind the call as it read before'; 0 by the template 'total and deterministic' (their statements: YthgajbfgolcpkaaTotals.lean).
  GIVEN WITH THE SEED: the statements are not yours to turn. If you find one false, say at which input.
  Laid BY PROGRAM, IN A SANDBOX (cutbox-rows.mjs): the forced cells as the released guide's own fill.sh prints them over the translation 9b04e3036cd49f8c… (all of the seat's roots in one cut). By AI agents, Wed Nov 11 2026. No macro, syntax, notation, axiom, sorry.
-/
import Derived.Test.YthgajbfgolcpkaaChecked
import GoSem.Claim
import GoSem.ClaimJoined
import GoSem.ClaimMapViews
import Derived.JoinedTies
import Derived.KernelRfl
namespace Go.Proofs.Ythgajbfgolcpkaa
/- THE CELL 'sum', in the pinned program and in every row, IS THE sha256 OF THE DUMP (.gsa) THAT YthgajbfgolcpkaaProg.lean LOADS. Nothing in Lean hashes anything: it is a label: what it is worth is what the hold of that sum in a sandbox is worth. -/
noncomputable def Try.pinned : Pinned := { name := "ythgajbfgolcpkaa", sum := "9b04e3036cd49f8cdd9414e0bc40c057ef727c116a813b2e47957e6ef8f8de30", checked := Try.checked }
namespace Rows
def none {H : Type} : Left H := { results := [], args := [] }

/-- 'rosarylaw8.BagWays': WHATEVER THE INPUT: true; the input reads as it did. -/
def bagWaysSpec : ChangeSpec := { name := "bagWays", fn := fun _ => fun
  | [d1, d2] => { results := [.lit (.bool true)], args := [d1, d2] }
  | _ => none }
def bagWaysRow : OpenClaim := { program := "ythgajbfgolcpkaa", sum := "9b04e3036cd49f8cdd9414e0bc40c057ef727c116a813b2e47957e6ef8f8de30", func := "rosary/rosarylaw8.BagWays", spec := "bagWays", unfollowed := true, recurses := true, apart := false }
def BagWaysSaid : Prop := bagWaysRow.holds Try.pinned (OpenSpec.ofChange bagWaysSpec)

/-- ITS FALSE NEIGHBOUR: 'it returns false'. Refute it at one input. -/
def bagWaysWrong : ChangeSpec := { name := "bagWays", fn := fun _ => fun
  | [d1, d2] => { results := [.lit (.bool false)], args := [d1, d2] }
  | _ => none }
def BagWaysWrongFalsely : Prop := bagWaysRow.holds Try.pinned (OpenSpec.ofChange bagWaysWrong)

/-- 'rosarylaw8.BagTwice': WHATEVER THE INPUT: true; the input reads as it did. -/
def bagTwiceSpec : ChangeSpec := { name := "bagTwice", fn := fun _ => fun
  | [d1, d2] => { results := [.lit (.bool true)], args := [d1, d2] }
  | _ => none }
def bagTwiceRow : OpenClaim := { program := "ythgajbfgolcpkaa", sum := "9b04e3036cd49f8cdd9414e0bc40c057ef727c116a813b2e47957e6ef8f8de30", func := "rosary/rosarylaw8.BagTwice", spec := "bagTwice", unfollowed := true, recurses := true, apart := false }
def BagTwiceSaid : Prop := bagTwiceRow.holds Try.pinned (OpenSpec.ofChange bagTwiceSpec)

/-- ITS FALSE NEIGHBOUR: 'it returns false'. Refute it at one input. -/
def bagTwiceWrong : ChangeSpec := { name := "bagTwice", fn := fun _ => fun
  | [d1, d2] => { results := [.lit (.bool false)], args := [d1, d2] }
  | _ => none }
def BagTwiceWrongFalsely : Prop := bagTwiceRow.holds Try.pinned (OpenSpec.ofChange bagTwiceWrong)

/-- 'rosarylaw8.BagLinks': WHATEVER THE INPUT: true; the input reads as it did. -/
def bagLinksSpec : ChangeSpec := { name := "bagLinks", fn := fun _ => fun
  | [d] => { results := [.lit (.bool true)], args := [d] }
  | _ => none }
def bagLinksRow : OpenClaim := { program := "ythgajbfgolcpkaa", sum := "9b04e3036cd49f8cdd9414e0bc40c057ef727c116a813b2e47957e6ef8f8de30", func := "rosary/rosarylaw8.BagLinks", spec := "bagLinks", unfollowed := true, recurses := true, apart := false }
def BagLinksSaid : Prop := bagLinksRow.holds Try.pinned (OpenSpec.ofChange bagLinksSpec)

/-- ITS FALSE NEIGHBOUR: 'it returns false'. Refute it at one input. -/
def bagLinksWrong : ChangeSpec := { name := "bagLinks", fn := fun _ => fun
  | [d] => { results := [.lit (.bool false)], args := [d] }
  | _ => none }
def BagLinksWrongFalsely : Prop := bagLinksRow.holds Try.pinned (OpenSpec.ofChange bagLinksWrong)

/-- 'rosarylaw8.BagRoom': WHATEVER THE INPUT: true; the input reads as it did. -/
def bagRoomSpec : ChangeSpec := { name := "bagRoom", fn := fun _ => fun
  | [d1, d2] => { results := [.lit (.bool true)], args := [d1, d2] }
  | _ => none }
def bagRoomRow : OpenClaim := { program := "ythgajbfgolcpkaa", sum := "9b04e3036cd49f8cdd9414e0bc40c057ef727c116a813b2e47957e6ef8f8de30", func := "rosary/rosarylaw8.BagRoom", spec := "bagRoom", unfollowed := true, recurses := true, apart := false }
def BagRoomSaid : Prop := bagRoomRow.holds Try.pinned (OpenSpec.ofChange bagRoomSpec)

/-- ITS FALSE NEIGHBOUR: 'it returns false'. Refute it at one input. -/
def bagRoomWrong : ChangeSpec := { name := "bagRoom", fn := fun _ => fun
  | [d1, d2] => { results := [.lit (.bool false)], args := [d1, d2] }
  | _ => none }
def BagRoomWrongFalsely : Prop := bagRoomRow.holds Try.pinned (OpenSpec.ofChange bagRoomWrong)

/-- 'rosarylaw8.BagDrops': WHATEVER THE INPUT: true; the input reads as it did. -/
def bagDropsSpec : ChangeSpec := { name := "bagDrops", fn := fun _ => fun
  | [d1, d2] => { results := [.lit (.bool true)], args := [d1, d2] }
  | _ => none }
def bagDropsRow : OpenClaim := { program := "ythgajbfgolcpkaa", sum := "9b04e3036cd49f8cdd9414e0bc40c057ef727c116a813b2e47957e6ef8f8de30", func := "rosary/rosarylaw8.BagDrops", spec := "bagDrops", unfollowed := true, recurses := true, apart := false }
def BagDropsSaid : Prop := bagDropsRow.holds Try.pinned (OpenSpec.ofChange bagDropsSpec)

/-- ITS FALSE NEIGHBOUR: 'it returns false'. Refute it at one input. -/
def bagDropsWrong : ChangeSpec := { name := "bagDrops", fn := fun _ => fun
  | [d1, d2] => { results := [.lit (.bool false)], args := [d1, d2] }
  | _ => none }
def BagDropsWrongFalsely : Prop := bagDropsRow.holds Try.pinned (OpenSpec.ofChange bagDropsWrong)

/-- 'rosarylaw22.ScanParts': WHATEVER THE INPUT: true; the input reads as it did. -/
def scanPartsSpec : ChangeSpec := { name := "scanParts", fn := fun _ => fun
  | [d1, d2, d3] => { results := [.lit (.bool true)], args := [d1, d2, d3] }
  | _ => none }
def scanPartsRow : OpenClaim := { program := "ythgajbfgolcpkaa", sum := "9b04e3036cd49f8cdd9414e0bc40c057ef727c116a813b2e47957e6ef8f8de30", func := "rosary/rosarylaw22.ScanParts", spec := "scanParts", apart := false }
def ScanPartsSaid : Prop := scanPartsRow.holds Try.pinned (OpenSpec.ofChange scanPartsSpec)

/-- ITS FALSE NEIGHBOUR: 'it returns false'. Refute it at one input. -/
def scanPartsWrong : ChangeSpec := { name := "scanParts", fn := fun _ => fun
  | [d1, d2, d3] => { results := [.lit (.bool false)], args := [d1, d2, d3] }
  | _ => none }
def ScanPartsWrongFalsely : Prop := scanPartsRow.holds Try.pinned (OpenSpec.ofChange scanPartsWrong)

/-- 'rosarylaw22.ScanMay': WHATEVER THE INPUT: true; the input reads as it did. -/
def scanMaySpec : ChangeSpec := { name := "scanMay", fn := fun _ => fun
  | [d1, d2, d3, d4, d5] => { results := [.lit (.bool true)], args := [d1, d2, d3, d4, d5] }
  | _ => none }
def scanMayRow : OpenClaim := { program := "ythgajbfgolcpkaa", sum := "9b04e3036cd49f8cdd9414e0bc40c057ef727c116a813b2e47957e6ef8f8de30", func := "rosary/rosarylaw22.ScanMay", spec := "scanMay", apart := false }
def ScanMaySaid : Prop := scanMayRow.holds Try.pinned (OpenSpec.ofChange scanMaySpec)

/-- ITS FALSE NEIGHBOUR: 'it returns false'. Refute it at one input. -/
def scanMayWrong : ChangeSpec := { name := "scanMay", fn := fun _ => fun
  | [d1, d2, d3, d4, d5] => { results := [.lit (.bool false)], args := [d1, d2, d3, d4, d5] }
  | _ => none }
def ScanMayWrongFalsely : Prop := scanMayRow.holds Try.pinned (OpenSpec.ofChange scanMayWrong)

/-- 'rosarylaw22.ScanRedirects': WHATEVER THE INPUT: true; the input reads as it did. -/
def scanRedirectsSpec : ChangeSpec := { name := "scanRedirects", fn := fun _ => fun
  | [d1, d2, d3] => { results := [.lit (.bool true)], args := [d1, d2, d3] }
  | _ => none }
def scanRedirectsRow : OpenClaim := { program := "ythgajbfgolcpkaa", sum := "9b04e3036cd49f8cdd9414e0bc40c057ef727c116a813b2e47957e6ef8f8de30", func := "rosary/rosarylaw22.ScanRedirects", spec := "scanRedirects", apart := false }
def ScanRedirectsSaid : Prop := scanRedirectsRow.holds Try.pinned (OpenSpec.ofChange scanRedirectsSpec)

/-- ITS FALSE NEIGHBOUR: 'it returns false'. Refute it at one input. -/
def scanRedirectsWrong : ChangeSpec := { name := "scanRedirects", fn := fun _ => fun
  | [d1, d2, d3] => { results := [.lit (.bool false)], args := [d1, d2, d3] }
  | _ => none }
def ScanRedirectsWrongFalsely : Prop := scanRedirectsRow.holds Try.pinned (OpenSpec.ofChange scanRedirectsWrong)

/-- 'rosarylaw22.ScanFails': WHATEVER THE INPUT: true; the input reads as it did. -/
def scanFailsSpec : ChangeSpec := { name := "scanFails", fn := fun _ => fun
  | [d1, d2] => { results := [.lit (.bool true)], args := [d1, d2] }
  | _ => none }
def scanFailsRow : OpenClaim := { program := "ythgajbfgolcpkaa", sum := "9b04e3036cd49f8cdd9414e0bc40c057ef727c116a813b2e47957e6ef8f8de30", func := "rosary/rosarylaw22.ScanFails", spec := "scanFails", apart := false }
def ScanFailsSaid : Prop := scanFailsRow.holds Try.pinned (OpenSpec.ofChange scanFailsSpec)

/-- ITS FALSE NEIGHBOUR: 'it returns false'. Refute it at one input. -/
def scanFailsWrong : ChangeSpec := { name := "scanFails", fn := fun _ => fun
  | [d1, d2] => { results := [.lit (.bool false)], args := [d1, d2] }
  | _ => none }
def ScanFailsWrongFalsely : Prop := scanFailsRow.holds Try.pinned (OpenSpec.ofChange scanFailsWrong)

/-- 'rosarylaw22.ScanGives': WHATEVER THE INPUT: true; the input reads as it did. -/
def scanGivesSpec : ChangeSpec := { name := "scanGives", fn := fun _ => fun
  | [d1, d2, d3] => { results := [.lit (.bool true)], args := [d1, d2, d3] }
  | _ => none }
def scanGivesRow : OpenClaim := { program := "ythgajbfgolcpkaa", sum := "9b04e3036cd49f8cdd9414e0bc40c057ef727c116a813b2e47957e6ef8f8de30", func := "rosary/rosarylaw22.ScanGives", spec := "scanGives", apart := false }
def ScanGivesSaid : Prop := scanGivesRow.holds Try.pinned (OpenSpec.ofChange scanGivesSpec)

/-- ITS FALSE NEIGHBOUR: 'it returns false'. Refute it at one input. -/
def scanGivesWrong : ChangeSpec := { name := "scanGives", fn := fun _ => fun
  | [d1, d2, d3] => { results := [.lit (.bool false)], args := [d1, d2, d3] }
  | _ => none }
def ScanGivesWrongFalsely : Prop := scanGivesRow.holds Try.pinned (OpenSpec.ofChange scanGivesWrong)

/-- 'rosarylaw11.ViewNewer': WHATEVER THE INPUT: true; the input reads as it did. -/
def viewNewerSpec : ChangeSpec := { name := "viewNewer", fn := fun _ => fun
  | [d1, d2, d3] => { results := [.lit (.bool true)], args := [d1, d2, d3] }
  | _ => none }
def viewNewerRow : OpenClaim := { program := "ythgajbfgolcpkaa", sum := "9b04e3036cd49f8cdd9414e0bc40c057ef727c116a813b2e47957e6ef8f8de30", func := "rosary/rosarylaw11.ViewNewer", spec := "viewNewer", inPlace := ["slices.overlaps[rosary/view.part]"], unfollowed := true, recurses := true, apart := false }
def ViewNewerSaid : Prop := viewNewerRow.holds Try.pinned (OpenSpec.ofChange viewNewerSpec)

/-- ITS FALSE NEIGHBOUR: 'it returns false'. Refute it at one input. -/
def viewNewerWrong : ChangeSpec := { name := "viewNewer", fn := fun _ => fun
  | [d1, d2, d3] => { results := [.lit (.bool false)], args := [d1, d2, d3] }
  | _ => none }
def ViewNewerWrongFalsely : Prop := viewNewerRow.holds Try.pinned (OpenSpec.ofChange viewNewerWrong)

/-- 'rosarylaw11.ViewRounds': WHATEVER THE INPUT: true; the input reads as it did. -/
def viewRoundsSpec : ChangeSpec := { name := "viewRounds", fn := fun _ => fun
  | [d1, d2] => { results := [.lit (.bool true)], args := [d1, d2] }
  | _ => none }
def viewRoundsRow : OpenClaim := { program := "ythgajbfgolcpkaa", sum := "9b04e3036cd49f8cdd9414e0bc40c057ef727c116a813b2e47957e6ef8f8de30", func := "rosary/rosarylaw11.ViewRounds", spec := "viewRounds", inPlace := ["slices.overlaps[rosary/view.part]"], unfollowed := true, recurses := true, apart := false }
def ViewRoundsSaid : Prop := viewRoundsRow.holds Try.pinned (OpenSpec.ofChange viewRoundsSpec)

/-- ITS FALSE NEIGHBOUR: 'it returns false'. Refute it at one input. -/
def viewRoundsWrong : ChangeSpec := { name := "viewRounds", fn := fun _ => fun
  | [d1, d2] => { results := [.lit (.bool false)], args := [d1, d2] }
  | _ => none }
def ViewRoundsWrongFalsely : Prop := viewRoundsRow.holds Try.pinned (OpenSpec.ofChange viewRoundsWrong)

/-- 'rosarylaw11.ViewCovers': WHATEVER THE INPUT: true; the input reads as it did. -/
def viewCoversSpec : ChangeSpec := { name := "viewCovers", fn := fun _ => fun
  | [d1, d2] => { results := [.lit (.bool true)], args := [d1, d2] }
  | _ => none }
def viewCoversRow : OpenClaim := { program := "ythgajbfgolcpkaa", sum := "9b04e3036cd49f8cdd9414e0bc40c057ef727c116a813b2e47957e6ef8f8de30", func := "rosary/rosarylaw11.ViewCovers", spec := "viewCovers", inPlace := ["slices.overlaps[rosary/view.part]"], unfollowed := true, recurses := true, apart := false }
def ViewCoversSaid : Prop := viewCoversRow.holds Try.pinned (OpenSpec.ofChange viewCoversSpec)

/-- ITS FALSE NEIGHBOUR: 'it returns false'. Refute it at one input. -/
def viewCoversWrong : ChangeSpec := { name := "viewCovers", fn := fun _ => fun
  | [d1, d2] => { results := [.lit (.bool false)], args := [d1, d2] }
  | _ => none }
def ViewCoversWrongFalsely : Prop := viewCoversRow.holds Try.pinned (OpenSpec.ofChange viewCoversWrong)

/-- 'rosarylaw11.ViewWhole': WHATEVER THE INPUT: true; the input reads as it did. -/
def viewWholeSpec : ChangeSpec := { name := "viewWhole", fn := fun _ => fun
  | [d1, d2] => { results := [.lit (.bool true)], args := [d1, d2] }
  | _ => none }
def viewWholeRow : OpenClaim := { program := "ythgajbfgolcpkaa", sum := "9b04e3036cd49f8cdd9414e0bc40c057ef727c116a813b2e47957e6ef8f8de30", func := "rosary/rosarylaw11.ViewWhole", spec := "viewWhole", inPlace := ["slices.overlaps[rosary/view.part]"], unfollowed := true, recurses := true, apart := false }
def ViewWholeSaid : Prop := viewWholeRow.holds Try.pinned (OpenSpec.ofChange viewWholeSpec)

/-- ITS FALSE NEIGHBOUR: 'it returns false'. Refute it at one input. -/
def viewWholeWrong : ChangeSpec := { name := "viewWhole", fn := fun _ => fun
  | [d1, d2] => { results := [.lit (.bool false)], args := [d1, d2] }
  | _ => none }
def ViewWholeWrongFalsely : Prop := viewWholeRow.holds Try.pinned (OpenSpec.ofChange viewWholeWrong)

/- THE SECOND FORM. 'bulk': how many values and letters a reading holds, each counted each time it is reached (what is shared counts as often as it is met; a slice's spare places count too). A statement '..UptoSaid' is the law's where the arguments, and the package variables that the reading takes, are together of bulk at most 1048576: NARROWER than '..Said'. Prove '..Said' where nothing that the law and all that it calls make is longer than what came in: it says more and counts as full. Else prove '..UptoSaid'. A law counts once. -/
mutual
def uptoBulk {H : Type} : DataW H → Nat
  | .lit (.string bytes) => bytes.length + 1
  | .lit _ => 1
  | .nil => 1
  | .ptr d => uptoBulk d + 1
  | .slice elems spare => uptoBulkAll elems + uptoBulkAll spare + 1
  | .agg parts => uptoBulkAll parts + 1
  | .iface _ d => uptoBulk d + 1
  | .map entries => uptoBulkEntries entries + 1
  | .held _ => 1
def uptoBulkAll {H : Type} : List (DataW H) → Nat
  | [] => 0
  | d :: r => uptoBulk d + uptoBulkAll r
def uptoBulkEntries {H : Type} : List (Lit × DataW H) → Nat
  | [] => 0
  | x :: r => uptoBulkEntry x + uptoBulkEntries r
def uptoBulkEntry {H : Type} : Lit × DataW H → Nat
  | (.string bytes, d) => bytes.length + uptoBulk d + 1
  | (_, d) => uptoBulk d + 1
 end
def uptoSmall : (H : Type) → List (DataW H) → Bool := fun _ ds => decide (uptoBulkAll ds ≤ 1048576)
def OpenSpec.upto (s : _root_.Go.ChangeSpec) : _root_.Go.OpenSpec := { _root_.Go.OpenSpec.ofChange s with cond := some uptoSmall }

/-- 'rosarylaw8.BagWays', WHERE WHAT IT READS IS OF BULK AT MOST 1048576: true; the input reads as it did. -/
def bagWaysUptoRow : OpenClaim := { program := "ythgajbfgolcpkaa", sum := "9b04e3036cd49f8cdd9414e0bc40c057ef727c116a813b2e47957e6ef8f8de30", func := "rosary/rosarylaw8.BagWays", spec := "bagWays", unfollowed := true, recurses := true, apart := false, narrowed := true }
def BagWaysUptoSaid : Prop := bagWaysUptoRow.holds Try.pinned (OpenSpec.upto bagWaysSpec)

/-- 'rosarylaw8.BagTwice', WHERE WHAT IT READS IS OF BULK AT MOST 1048576: true; the input reads as it did. -/
def bagTwiceUptoRow : OpenClaim := { program := "ythgajbfgolcpkaa", sum := "9b04e3036cd49f8cdd9414e0bc40c057ef727c116a813b2e47957e6ef8f8de30", func := "rosary/rosarylaw8.BagTwice", spec := "bagTwice", unfollowed := true, recurses := true, apart := false, narrowed := true }
def BagTwiceUptoSaid : Prop := bagTwiceUptoRow.holds Try.pinned (OpenSpec.upto bagTwiceSpec)

/-- 'rosarylaw8.BagLinks', WHERE WHAT IT READS IS OF BULK AT MOST 1048576: true; the input reads as it did. -/
def bagLinksUptoRow : OpenClaim := { program := "ythgajbfgolcpkaa", sum := "9b04e3036cd49f8cdd9414e0bc40c057ef727c116a813b2e47957e6ef8f8de30", func := "rosary/rosarylaw8.BagLinks", spec := "bagLinks", unfollowed := true, recurses := true, apart := false, narrowed := true }
def BagLinksUptoSaid : Prop := bagLinksUptoRow.holds Try.pinned (OpenSpec.upto bagLinksSpec)

/-- 'rosarylaw8.BagRoom', WHERE WHAT IT READS IS OF BULK AT MOST 1048576: true; the input reads as it did. -/
def bagRoomUptoRow : OpenClaim := { program := "ythgajbfgolcpkaa", sum := "9b04e3036cd49f8cdd9414e0bc40c057ef727c116a813b2e47957e6ef8f8de30", func := "rosary/rosarylaw8.BagRoom", spec := "bagRoom", unfollowed := true, recurses := true, apart := false, narrowed := true }
def BagRoomUptoSaid : Prop := bagRoomUptoRow.holds Try.pinned (OpenSpec.upto bagRoomSpec)

/-- 'rosarylaw8.BagDrops', WHERE WHAT IT READS IS OF BULK AT MOST 1048576: true; the input reads as it did. -/
def bagDropsUptoRow : OpenClaim := { program := "ythgajbfgolcpkaa", sum := "9b04e3036cd49f8cdd9414e0bc40c057ef727c116a813b2e47957e6ef8f8de30", func := "rosary/rosarylaw8.BagDrops", spec := "bagDrops", unfollowed := true, recurses := true, apart := false, narrowed := true }
def BagDropsUptoSaid : Prop := bagDropsUptoRow.holds Try.pinned (OpenSpec.upto bagDropsSpec)

/-- 'rosarylaw22.ScanParts', WHERE WHAT IT READS IS OF BULK AT MOST 1048576: true; the input reads as it did. -/
def scanPartsUptoRow : OpenClaim := { program := "ythgajbfgolcpkaa", sum := "9b04e3036cd49f8cdd9414e0bc40c057ef727c116a813b2e47957e6ef8f8de30", func := "rosary/rosarylaw22.ScanParts", spec := "scanParts", apart := false, narrowed := true }
def ScanPartsUptoSaid : Prop := scanPartsUptoRow.holds Try.pinned (OpenSpec.upto scanPartsSpec)

/-- 'rosarylaw22.ScanMay', WHERE WHAT IT READS IS OF BULK AT MOST 1048576: true; the input reads as it did. -/
def scanMayUptoRow : OpenClaim := { program := "ythgajbfgolcpkaa", sum := "9b04e3036cd49f8cdd9414e0bc40c057ef727c116a813b2e47957e6ef8f8de30", func := "rosary/rosarylaw22.ScanMay", spec := "scanMay", apart := false, narrowed := true }
def ScanMayUptoSaid : Prop := scanMayUptoRow.holds Try.pinned (OpenSpec.upto scanMaySpec)

/-- 'rosarylaw22.ScanRedirects', WHERE WHAT IT READS IS OF BULK AT MOST 1048576: true; the input reads as it did. -/
def scanRedirectsUptoRow : OpenClaim := { program := "ythgajbfgolcpkaa", sum := "9b04e3036cd49f8cdd9414e0bc40c057ef727c116a813b2e47957e6ef8f8de30", func := "rosary/rosarylaw22.ScanRedirects", spec := "scanRedirects", apart := false, narrowed := true }
def ScanRedirectsUptoSaid : Prop := scanRedirectsUptoRow.holds Try.pinned (OpenSpec.upto scanRedirectsSpec)

/-- 'rosarylaw22.ScanFails', WHERE WHAT IT READS IS OF BULK AT MOST 1048576: true; the input reads as it did. -/
def scanFailsUptoRow : OpenClaim := { program := "ythgajbfgolcpkaa", sum := "9b04e3036cd49f8cdd9414e0bc40c057ef727c116a813b2e47957e6ef8f8de30", func := "rosary/rosarylaw22.ScanFails", spec := "scanFails", apart := false, narrowed := true }
def ScanFailsUptoSaid : Prop := scanFailsUptoRow.holds Try.pinned (OpenSpec.upto scanFailsSpec)

/-- 'rosarylaw22.ScanGives', WHERE WHAT IT READS IS OF BULK AT MOST 1048576: true; the input reads as it did. -/
def scanGivesUptoRow : OpenClaim := { program := "ythgajbfgolcpkaa", sum := "9b04e3036cd49f8cdd9414e0bc40c057ef727c116a813b2e47957e6ef8f8de30", func := "rosary/rosarylaw22.ScanGives", spec := "scanGives", apart := false, narrowed := true }
def ScanGivesUptoSaid : Prop := scanGivesUptoRow.holds Try.pinned (OpenSpec.upto scanGivesSpec)

/-- 'rosarylaw11.ViewNewer', WHERE WHAT IT READS IS OF BULK AT MOST 1048576: true; the input reads as it did. -/
def viewNewerUptoRow : OpenClaim := { program := "ythgajbfgolcpkaa", sum := "9b04e3036cd49f8cdd9414e0bc40c057ef727c116a813b2e47957e6ef8f8de30", func := "rosary/rosarylaw11.ViewNewer", spec := "viewNewer", inPlace := ["slices.overlaps[rosary/view.part]"], unfollowed := true, recurses := true, apart := false, narrowed := true }
def ViewNewerUptoSaid : Prop := viewNewerUptoRow.holds Try.pinned (OpenSpec.upto viewNewerSpec)

/-- 'rosarylaw11.ViewRounds', WHERE WHAT IT READS IS OF BULK AT MOST 1048576: true; the input reads as it did. -/
def viewRoundsUptoRow : OpenClaim := { program := "ythgajbfgolcpkaa", sum := "9b04e3036cd49f8cdd9414e0bc40c057ef727c116a813b2e47957e6ef8f8de30", func := "rosary/rosarylaw11.ViewRounds", spec := "viewRounds", inPlace := ["slices.overlaps[rosary/view.part]"], unfollowed := true, recurses := true, apart := false, narrowed := true }
def ViewRoundsUptoSaid : Prop := viewRoundsUptoRow.holds Try.pinned (OpenSpec.upto viewRoundsSpec)

/-- 'rosarylaw11.ViewCovers', WHERE WHAT IT READS IS OF BULK AT MOST 1048576: true; the input reads as it did. -/
def viewCoversUptoRow : OpenClaim := { program := "ythgajbfgolcpkaa", sum := "9b04e3036cd49f8cdd9414e0bc40c057ef727c116a813b2e47957e6ef8f8de30", func := "rosary/rosarylaw11.ViewCovers", spec := "viewCovers", inPlace := ["slices.overlaps[rosary/view.part]"], unfollowed := true, recurses := true, apart := false, narrowed := true }
def ViewCoversUptoSaid : Prop := viewCoversUptoRow.holds Try.pinned (OpenSpec.upto viewCoversSpec)

/-- 'rosarylaw11.ViewWhole', WHERE WHAT IT READS IS OF BULK AT MOST 1048576: true; the input reads as it did. -/
def viewWholeUptoRow : OpenClaim := { program := "ythgajbfgolcpkaa", sum := "9b04e3036cd49f8cdd9414e0bc40c057ef727c116a813b2e47957e6ef8f8de30", func := "rosary/rosarylaw11.ViewWhole", spec := "viewWhole", inPlace := ["slices.overlaps[rosary/view.part]"], unfollowed := true, recurses := true, apart := false, narrowed := true }
def ViewWholeUptoSaid : Prop := viewWholeUptoRow.holds Try.pinned (OpenSpec.upto viewWholeSpec)

end Rows
end Go.Proofs.Ythgajbfgolcpkaa
