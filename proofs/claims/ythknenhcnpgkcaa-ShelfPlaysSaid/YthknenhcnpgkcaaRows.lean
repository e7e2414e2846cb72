/-
  No cell of these rows narrows 'for every input' (looked for: loops, veiled, ifaces, maps, wideKeys, modest, calm, conditions, laid).
  DERIVED. THE GIVEN ROWS OF THIS SEAT. 21 by the template 'for every input the law returns true; each argument reads behind the call as it read before'; 0 by the template 'total and deterministic' (their statements: YthknenhcnpgkcaaTotals.lean).
  GIVEN WITH THE SEED: the statements are not yours to turn. If you find one false, say at which input.
  Laid BY PROGRAM, IN A SANDBOX (cutbox-rows.mjs): the forced cells as the released guide's own fill.sh prints them over the translation 494a0a58e684fb21… (all of the seat's roots in one cut). By AI agents, Wed Nov 11 2026. No macro, syntax, notation, axiom, sorry.
-/
import Derived.Test.YthknenhcnpgkcaaChecked
import GoSem.Claim
import GoSem.ClaimJoined
import GoSem.ClaimMapViews
import Derived.JoinedTies
import Derived.KernelRfl
namespace Go.Proofs.Ythknenhcnpgkcaa
/- THE CELL 'sum', in the pinned program and in every row, IS THE sha256 OF THE DUMP (.gsa) THAT YthknenhcnpgkcaaProg.lean LOADS. Nothing in Lean hashes anything: it is a label: what it is worth is what the hold of that sum in a sandbox is worth. -/
noncomputable def Try.pinned : Pinned := { name := "ythknenhcnpgkcaa", sum := "494a0a58e684fb21fdf9341ddf7c55a137a790faddffda11dfadec96c116ee24", checked := Try.checked }
namespace Rows
def none {H : Type} : Left H := { results := [], args := [] }

/-- 'rosarylaw4.ShelfOrders': WHATEVER THE INPUT: true; the input reads as it did. -/
def shelfOrdersSpec : ChangeSpec := { name := "shelfOrders", fn := fun _ => fun
  | [d1, d2] => { results := [.lit (.bool true)], args := [d1, d2] }
  | _ => none }
def shelfOrdersRow : OpenClaim := { program := "ythknenhcnpgkcaa", sum := "494a0a58e684fb21fdf9341ddf7c55a137a790faddffda11dfadec96c116ee24", func := "rosary/rosarylaw4.ShelfOrders", spec := "shelfOrders", inPlace := ["slices.overlaps[rosary/api.Item]", "slices.overlaps[*rosary/shelf.node]"], recurses := true, apart := false }
def ShelfOrdersSaid : Prop := shelfOrdersRow.holds Try.pinned (OpenSpec.ofChange shelfOrdersSpec)

/-- ITS FALSE NEIGHBOUR: 'it returns false'. Refute it at one input. -/
def shelfOrdersWrong : ChangeSpec := { name := "shelfOrders", fn := fun _ => fun
  | [d1, d2] => { results := [.lit (.bool false)], args := [d1, d2] }
  | _ => none }
def ShelfOrdersWrongFalsely : Prop := shelfOrdersRow.holds Try.pinned (OpenSpec.ofChange shelfOrdersWrong)

/-- 'rosarylaw5.WalkCounts': WHATEVER THE INPUT: true; the input reads as it did. -/
def walkCountsSpec : ChangeSpec := { name := "walkCounts", fn := fun _ => fun
  | [d1, d2, d3, d4] => { results := [.lit (.bool true)], args := [d1, d2, d3, d4] }
  | _ => none }
def walkCountsRow : OpenClaim := { program := "ythknenhcnpgkcaa", sum := "494a0a58e684fb21fdf9341ddf7c55a137a790faddffda11dfadec96c116ee24", func := "rosary/rosarylaw5.WalkCounts", spec := "walkCounts", inPlace := ["slices.overlaps[rosary/api.Item]", "slices.overlaps[*rosary/shelf.node]"], unfollowed := true, recurses := true, apart := false }
def WalkCountsSaid : Prop := walkCountsRow.holds Try.pinned (OpenSpec.ofChange walkCountsSpec)

/-- ITS FALSE NEIGHBOUR: 'it returns false'. Refute it at one input. -/
def walkCountsWrong : ChangeSpec := { name := "walkCounts", fn := fun _ => fun
  | [d1, d2, d3, d4] => { results := [.lit (.bool false)], args := [d1, d2, d3, d4] }
  | _ => none }
def WalkCountsWrongFalsely : Prop := walkCountsRow.holds Try.pinned (OpenSpec.ofChange walkCountsWrong)

/-- 'rosarylaw5.WalkMiddle': WHATEVER THE INPUT: true; the input reads as it did. -/
def walkMiddleSpec : ChangeSpec := { name := "walkMiddle", fn := fun _ => fun
  | [d1, d2] => { results := [.lit (.bool true)], args := [d1, d2] }
  | _ => none }
def walkMiddleRow : OpenClaim := { program := "ythknenhcnpgkcaa", sum := "494a0a58e684fb21fdf9341ddf7c55a137a790faddffda11dfadec96c116ee24", func := "rosary/rosarylaw5.WalkMiddle", spec := "walkMiddle", inPlace := ["slices.overlaps[rosary/api.Item]", "slices.overlaps[*rosary/shelf.node]"], unfollowed := true, recurses := true, apart := false }
def WalkMiddleSaid : Prop := walkMiddleRow.holds Try.pinned (OpenSpec.ofChange walkMiddleSpec)

/-- ITS FALSE NEIGHBOUR: 'it returns false'. Refute it at one input. -/
def walkMiddleWrong : ChangeSpec := { name := "walkMiddle", fn := fun _ => fun
  | [d1, d2] => { results := [.lit (.bool false)], args := [d1, d2] }
  | _ => none }
def WalkMiddleWrongFalsely : Prop := walkMiddleRow.holds Try.pinned (OpenSpec.ofChange walkMiddleWrong)

/-- 'rosarylaw5.WalkPlaces': WHATEVER THE INPUT: true; the input reads as it did. -/
def walkPlacesSpec : ChangeSpec := { name := "walkPlaces", fn := fun _ => fun
  | [d1, d2] => { results := [.lit (.bool true)], args := [d1, d2] }
  | _ => none }
def walkPlacesRow : OpenClaim := { program := "ythknenhcnpgkcaa", sum := "494a0a58e684fb21fdf9341ddf7c55a137a790faddffda11dfadec96c116ee24", func := "rosary/rosarylaw5.WalkPlaces", spec := "walkPlaces", inPlace := ["slices.overlaps[rosary/api.Item]", "slices.overlaps[*rosary/shelf.node]"], unfollowed := true, recurses := true, apart := false }
def WalkPlacesSaid : Prop := walkPlacesRow.holds Try.pinned (OpenSpec.ofChange walkPlacesSpec)

/-- ITS FALSE NEIGHBOUR: 'it returns false'. Refute it at one input. -/
def walkPlacesWrong : ChangeSpec := { name := "walkPlaces", fn := fun _ => fun
  | [d1, d2] => { results := [.lit (.bool false)], args := [d1, d2] }
  | _ => none }
def WalkPlacesWrongFalsely : Prop := walkPlacesRow.holds Try.pinned (OpenSpec.ofChange walkPlacesWrong)

/-- 'rosarylaw5.WalkNested': WHATEVER THE INPUT: true; the input reads as it did. -/
def walkNestedSpec : ChangeSpec := { name := "walkNested", fn := fun _ => fun
  | [d] => { results := [.lit (.bool true)], args := [d] }
  | _ => none }
def walkNestedRow : OpenClaim := { program := "ythknenhcnpgkcaa", sum := "494a0a58e684fb21fdf9341ddf7c55a137a790faddffda11dfadec96c116ee24", func := "rosary/rosarylaw5.WalkNested", spec := "walkNested", inPlace := ["slices.overlaps[rosary/api.Item]", "slices.overlaps[*rosary/shelf.node]"], unfollowed := true, recurses := true, apart := false }
def WalkNestedSaid : Prop := walkNestedRow.holds Try.pinned (OpenSpec.ofChange walkNestedSpec)

/-- ITS FALSE NEIGHBOUR: 'it returns false'. Refute it at one input. -/
def walkNestedWrong : ChangeSpec := { name := "walkNested", fn := fun _ => fun
  | [d] => { results := [.lit (.bool false)], args := [d] }
  | _ => none }
def WalkNestedWrongFalsely : Prop := walkNestedRow.holds Try.pinned (OpenSpec.ofChange walkNestedWrong)

/-- 'rosarylaw5.WalkHalves': WHATEVER THE INPUT: true; the input reads as it did. -/
def walkHalvesSpec : ChangeSpec := { name := "walkHalves", fn := fun _ => fun
  | [d] => { results := [.lit (.bool true)], args := [d] }
  | _ => none }
def walkHalvesRow : OpenClaim := { program := "ythknenhcnpgkcaa", sum := "494a0a58e684fb21fdf9341ddf7c55a137a790faddffda11dfadec96c116ee24", func := "rosary/rosarylaw5.WalkHalves", spec := "walkHalves", inPlace := ["slices.overlaps[rosary/api.Item]", "slices.overlaps[*rosary/shelf.node]"], unfollowed := true, recurses := true, apart := false }
def WalkHalvesSaid : Prop := walkHalvesRow.holds Try.pinned (OpenSpec.ofChange walkHalvesSpec)

/-- ITS FALSE NEIGHBOUR: 'it returns false'. Refute it at one input. -/
def walkHalvesWrong : ChangeSpec := { name := "walkHalves", fn := fun _ => fun
  | [d] => { results := [.lit (.bool false)], args := [d] }
  | _ => none }
def WalkHalvesWrongFalsely : Prop := walkHalvesRow.holds Try.pinned (OpenSpec.ofChange walkHalvesWrong)

/-- 'rosarylaw5.WalkArcs': WHATEVER THE INPUT: true; the input reads as it did. -/
def walkArcsSpec : ChangeSpec := { name := "walkArcs", fn := fun _ => fun
  | [d1, d2, d3] => { results := [.lit (.bool true)], args := [d1, d2, d3] }
  | _ => none }
def walkArcsRow : OpenClaim := { program := "ythknenhcnpgkcaa", sum := "494a0a58e684fb21fdf9341ddf7c55a137a790faddffda11dfadec96c116ee24", func := "rosary/rosarylaw5.WalkArcs", spec := "walkArcs", inPlace := ["slices.overlaps[rosary/api.Item]", "slices.overlaps[*rosary/shelf.node]"], unfollowed := true, recurses := true, apart := false }
def WalkArcsSaid : Prop := walkArcsRow.holds Try.pinned (OpenSpec.ofChange walkArcsSpec)

/-- ITS FALSE NEIGHBOUR: 'it returns false'. Refute it at one input. -/
def walkArcsWrong : ChangeSpec := { name := "walkArcs", fn := fun _ => fun
  | [d1, d2, d3] => { results := [.lit (.bool false)], args := [d1, d2, d3] }
  | _ => none }
def WalkArcsWrongFalsely : Prop := walkArcsRow.holds Try.pinned (OpenSpec.ofChange walkArcsWrong)

/-- 'rosarylaw5.WalkRanges': WHATEVER THE INPUT: true; the input reads as it did. -/
def walkRangesSpec : ChangeSpec := { name := "walkRanges", fn := fun _ => fun
  | [d1, d2, d3, d4] => { results := [.lit (.bool true)], args := [d1, d2, d3, d4] }
  | _ => none }
def walkRangesRow : OpenClaim := { program := "ythknenhcnpgkcaa", sum := "494a0a58e684fb21fdf9341ddf7c55a137a790faddffda11dfadec96c116ee24", func := "rosary/rosarylaw5.WalkRanges", spec := "walkRanges", inPlace := ["slices.overlaps[rosary/api.Item]", "slices.overlaps[*rosary/shelf.node]"], unfollowed := true, recurses := true, apart := false }
def WalkRangesSaid : Prop := walkRangesRow.holds Try.pinned (OpenSpec.ofChange walkRangesSpec)

/-- ITS FALSE NEIGHBOUR: 'it returns false'. Refute it at one input. -/
def walkRangesWrong : ChangeSpec := { name := "walkRanges", fn := fun _ => fun
  | [d1, d2, d3, d4] => { results := [.lit (.bool false)], args := [d1, d2, d3, d4] }
  | _ => none }
def WalkRangesWrongFalsely : Prop := walkRangesRow.holds Try.pinned (OpenSpec.ofChange walkRangesWrong)

/-- 'rosarylaw5.WalkStops': WHATEVER THE INPUT: true; the input reads as it did. -/
def walkStopsSpec : ChangeSpec := { name := "walkStops", fn := fun _ => fun
  | [d1, d2, d3, d4] => { results := [.lit (.bool true)], args := [d1, d2, d3, d4] }
  | _ => none }
def walkStopsRow : OpenClaim := { program := "ythknenhcnpgkcaa", sum := "494a0a58e684fb21fdf9341ddf7c55a137a790faddffda11dfadec96c116ee24", func := "rosary/rosarylaw5.WalkStops", spec := "walkStops", inPlace := ["slices.overlaps[rosary/api.Item]", "slices.overlaps[*rosary/shelf.node]"], unfollowed := true, recurses := true, apart := false }
def WalkStopsSaid : Prop := walkStopsRow.holds Try.pinned (OpenSpec.ofChange walkStopsSpec)

/-- ITS FALSE NEIGHBOUR: 'it returns false'. Refute it at one input. -/
def walkStopsWrong : ChangeSpec := { name := "walkStops", fn := fun _ => fun
  | [d1, d2, d3, d4] => { results := [.lit (.bool false)], args := [d1, d2, d3, d4] }
  | _ => none }
def WalkStopsWrongFalsely : Prop := walkStopsRow.holds Try.pinned (OpenSpec.ofChange walkStopsWrong)

/-- 'rosarylaw4.ShelfMany': WHATEVER THE INPUT: true; the input reads as it did. -/
def shelfManySpec : ChangeSpec := { name := "shelfMany", fn := fun _ => fun
  | [d1, d2, d3, d4] => { results := [.lit (.bool true)], args := [d1, d2, d3, d4] }
  | _ => none }
def shelfManyRow : OpenClaim := { program := "ythknenhcnpgkcaa", sum := "494a0a58e684fb21fdf9341ddf7c55a137a790faddffda11dfadec96c116ee24", func := "rosary/rosarylaw4.ShelfMany", spec := "shelfMany", inPlace := ["slices.overlaps[rosary/api.Item]", "slices.overlaps[*rosary/shelf.node]"], recurses := true, apart := false }
def ShelfManySaid : Prop := shelfManyRow.holds Try.pinned (OpenSpec.ofChange shelfManySpec)

/-- ITS FALSE NEIGHBOUR: 'it returns false'. Refute it at one input. -/
def shelfManyWrong : ChangeSpec := { name := "shelfMany", fn := fun _ => fun
  | [d1, d2, d3, d4] => { results := [.lit (.bool false)], args := [d1, d2, d3, d4] }
  | _ => none }
def ShelfManyWrongFalsely : Prop := shelfManyRow.holds Try.pinned (OpenSpec.ofChange shelfManyWrong)

/-- 'rosarylaw4.ShelfFull': WHATEVER THE INPUT: true; the input reads as it did. -/
def shelfFullSpec : ChangeSpec := { name := "shelfFull", fn := fun _ => fun
  | [d1, d2] => { results := [.lit (.bool true)], args := [d1, d2] }
  | _ => none }
def shelfFullRow : OpenClaim := { program := "ythknenhcnpgkcaa", sum := "494a0a58e684fb21fdf9341ddf7c55a137a790faddffda11dfadec96c116ee24", func := "rosary/rosarylaw4.ShelfFull", spec := "shelfFull", inPlace := ["slices.overlaps[rosary/api.Item]", "slices.overlaps[*rosary/shelf.node]"], recurses := true, apart := false }
def ShelfFullSaid : Prop := shelfFullRow.holds Try.pinned (OpenSpec.ofChange shelfFullSpec)

/-- ITS FALSE NEIGHBOUR: 'it returns false'. Refute it at one input. -/
def shelfFullWrong : ChangeSpec := { name := "shelfFull", fn := fun _ => fun
  | [d1, d2] => { results := [.lit (.bool false)], args := [d1, d2] }
  | _ => none }
def ShelfFullWrongFalsely : Prop := shelfFullRow.holds Try.pinned (OpenSpec.ofChange shelfFullWrong)

/-- 'rosarylaw4.ShelfAgain': WHATEVER THE INPUT: true; the input reads as it did. -/
def shelfAgainSpec : ChangeSpec := { name := "shelfAgain", fn := fun _ => fun
  | [d1, d2, d3] => { results := [.lit (.bool true)], args := [d1, d2, d3] }
  | _ => none }
def shelfAgainRow : OpenClaim := { program := "ythknenhcnpgkcaa", sum := "494a0a58e684fb21fdf9341ddf7c55a137a790faddffda11dfadec96c116ee24", func := "rosary/rosarylaw4.ShelfAgain", spec := "shelfAgain", inPlace := ["slices.overlaps[rosary/api.Item]", "slices.overlaps[*rosary/shelf.node]"], recurses := true, apart := false }
def ShelfAgainSaid : Prop := shelfAgainRow.holds Try.pinned (OpenSpec.ofChange shelfAgainSpec)

/-- ITS FALSE NEIGHBOUR: 'it returns false'. Refute it at one input. -/
def shelfAgainWrong : ChangeSpec := { name := "shelfAgain", fn := fun _ => fun
  | [d1, d2, d3] => { results := [.lit (.bool false)], args := [d1, d2, d3] }
  | _ => none }
def ShelfAgainWrongFalsely : Prop := shelfAgainRow.holds Try.pinned (OpenSpec.ofChange shelfAgainWrong)

/-- 'rosarylaw4.ShelfPlays': WHATEVER THE INPUT: true; the input reads as it did. -/
def shelfPlaysSpec : ChangeSpec := { name := "shelfPlays", fn := fun _ => fun
  | [d1, d2, d3] => { results := [.lit (.bool true)], args := [d1, d2, d3] }
  | _ => none }
def shelfPlaysRow : OpenClaim := { program := "ythknenhcnpgkcaa", sum := "494a0a58e684fb21fdf9341ddf7c55a137a790faddffda11dfadec96c116ee24", func := "rosary/rosarylaw4.ShelfPlays", spec := "shelfPlays", inPlace := ["slices.overlaps[rosary/api.Item]", "slices.overlaps[*rosary/shelf.node]"], recurses := true, apart := false }
def ShelfPlaysSaid : Prop := shelfPlaysRow.holds Try.pinned (OpenSpec.ofChange shelfPlaysSpec)

/-- ITS FALSE NEIGHBOUR: 'it returns false'. Refute it at one input. -/
def shelfPlaysWrong : ChangeSpec := { name := "shelfPlays", fn := fun _ => fun
  | [d1, d2, d3] => { results := [.lit (.bool false)], args := [d1, d2, d3] }
  | _ => none }
def ShelfPlaysWrongFalsely : Prop := shelfPlaysRow.holds Try.pinned (OpenSpec.ofChange shelfPlaysWrong)

/-- 'rosarylaw4.ShelfCopies': WHATEVER THE INPUT: true; the input reads as it did. -/
def shelfCopiesSpec : ChangeSpec := { name := "shelfCopies", fn := fun _ => fun
  | [d1, d2] => { results := [.lit (.bool true)], args := [d1, d2] }
  | _ => none }
def shelfCopiesRow : OpenClaim := { program := "ythknenhcnpgkcaa", sum := "494a0a58e684fb21fdf9341ddf7c55a137a790faddffda11dfadec96c116ee24", func := "rosary/rosarylaw4.ShelfCopies", spec := "shelfCopies", inPlace := ["slices.overlaps[rosary/api.Item]", "slices.overlaps[*rosary/shelf.node]"], recurses := true, apart := false }
def ShelfCopiesSaid : Prop := shelfCopiesRow.holds Try.pinned (OpenSpec.ofChange shelfCopiesSpec)

/-- ITS FALSE NEIGHBOUR: 'it returns false'. Refute it at one input. -/
def shelfCopiesWrong : ChangeSpec := { name := "shelfCopies", fn := fun _ => fun
  | [d1, d2] => { results := [.lit (.bool false)], args := [d1, d2] }
  | _ => none }
def ShelfCopiesWrongFalsely : Prop := shelfCopiesRow.holds Try.pinned (OpenSpec.ofChange shelfCopiesWrong)

/-- 'rosarylaw5.WalkWhile': WHATEVER THE INPUT: true; the input reads as it did. -/
def walkWhileSpec : ChangeSpec := { name := "walkWhile", fn := fun _ => fun
  | [d1, d2, d3] => { results := [.lit (.bool true)], args := [d1, d2, d3] }
  | _ => none }
def walkWhileRow : OpenClaim := { program := "ythknenhcnpgkcaa", sum := "494a0a58e684fb21fdf9341ddf7c55a137a790faddffda11dfadec96c116ee24", func := "rosary/rosarylaw5.WalkWhile", spec := "walkWhile", inPlace := ["slices.overlaps[rosary/api.Item]", "slices.overlaps[*rosary/shelf.node]"], unfollowed := true, recurses := true, apart := false }
def WalkWhileSaid : Prop := walkWhileRow.holds Try.pinned (OpenSpec.ofChange walkWhileSpec)

/-- ITS FALSE NEIGHBOUR: 'it returns false'. Refute it at one input. -/
def walkWhileWrong : ChangeSpec := { name := "walkWhile", fn := fun _ => fun
  | [d1, d2, d3] => { results := [.lit (.bool false)], args := [d1, d2, d3] }
  | _ => none }
def WalkWhileWrongFalsely : Prop := walkWhileRow.holds Try.pinned (OpenSpec.ofChange walkWhileWrong)

/-- 'rosarylaw6.CutPages': WHATEVER THE INPUT: true; the input reads as it did. -/
def cutPagesSpec : ChangeSpec := { name := "cutPages", fn := fun _ => fun
  | [d1, d2, d3, d4] => { results := [.lit (.bool true)], args := [d1, d2, d3, d4] }
  | _ => none }
def cutPagesRow : OpenClaim := { program := "ythknenhcnpgkcaa", sum := "494a0a58e684fb21fdf9341ddf7c55a137a790faddffda11dfadec96c116ee24", func := "rosary/rosarylaw6.CutPages", spec := "cutPages", inPlace := ["slices.overlaps[rosary/api.Item]", "slices.overlaps[*rosary/shelf.node]"], unfollowed := true, recurses := true, apart := false }
def CutPagesSaid : Prop := cutPagesRow.holds Try.pinned (OpenSpec.ofChange cutPagesSpec)

/-- ITS FALSE NEIGHBOUR: 'it returns false'. Refute it at one input. -/
def cutPagesWrong : ChangeSpec := { name := "cutPages", fn := fun _ => fun
  | [d1, d2, d3, d4] => { results := [.lit (.bool false)], args := [d1, d2, d3, d4] }
  | _ => none }
def CutPagesWrongFalsely : Prop := cutPagesRow.holds Try.pinned (OpenSpec.ofChange cutPagesWrong)

/-- 'rosarylaw6.CutSizes': WHATEVER THE INPUT: true; the input reads as it did. -/
def cutSizesSpec : ChangeSpec := { name := "cutSizes", fn := fun _ => fun
  | [d] => { results := [.lit (.bool true)], args := [d] }
  | _ => none }
def cutSizesRow : OpenClaim := { program := "ythknenhcnpgkcaa", sum := "494a0a58e684fb21fdf9341ddf7c55a137a790faddffda11dfadec96c116ee24", func := "rosary/rosarylaw6.CutSizes", spec := "cutSizes", inPlace := ["slices.overlaps[rosary/api.Item]", "slices.overlaps[*rosary/shelf.node]"], unfollowed := true, recurses := true, apart := false }
def CutSizesSaid : Prop := cutSizesRow.holds Try.pinned (OpenSpec.ofChange cutSizesSpec)

/-- ITS FALSE NEIGHBOUR: 'it returns false'. Refute it at one input. -/
def cutSizesWrong : ChangeSpec := { name := "cutSizes", fn := fun _ => fun
  | [d] => { results := [.lit (.bool false)], args := [d] }
  | _ => none }
def CutSizesWrongFalsely : Prop := cutSizesRow.holds Try.pinned (OpenSpec.ofChange cutSizesWrong)

/-- 'rosarylaw6.CutAll': WHATEVER THE INPUT: true; the input reads as it did. -/
def cutAllSpec : ChangeSpec := { name := "cutAll", fn := fun _ => fun
  | [d1, d2, d3, d4] => { results := [.lit (.bool true)], args := [d1, d2, d3, d4] }
  | _ => none }
def cutAllRow : OpenClaim := { program := "ythknenhcnpgkcaa", sum := "494a0a58e684fb21fdf9341ddf7c55a137a790faddffda11dfadec96c116ee24", func := "rosary/rosarylaw6.CutAll", spec := "cutAll", inPlace := ["slices.overlaps[rosary/api.Item]", "slices.overlaps[*rosary/shelf.node]"], unfollowed := true, recurses := true, apart := false }
def CutAllSaid : Prop := cutAllRow.holds Try.pinned (OpenSpec.ofChange cutAllSpec)

/-- ITS FALSE NEIGHBOUR: 'it returns false'. Refute it at one input. -/
def cutAllWrong : ChangeSpec := { name := "cutAll", fn := fun _ => fun
  | [d1, d2, d3, d4] => { results := [.lit (.bool false)], args := [d1, d2, d3, d4] }
  | _ => none }
def CutAllWrongFalsely : Prop := cutAllRow.holds Try.pinned (OpenSpec.ofChange cutAllWrong)

/-- 'rosarylaw6.CutNone': WHATEVER THE INPUT: true; the input reads as it did. -/
def cutNoneSpec : ChangeSpec := { name := "cutNone", fn := fun _ => fun
  | [d1, d2, d3, d4] => { results := [.lit (.bool true)], args := [d1, d2, d3, d4] }
  | _ => none }
def cutNoneRow : OpenClaim := { program := "ythknenhcnpgkcaa", sum := "494a0a58e684fb21fdf9341ddf7c55a137a790faddffda11dfadec96c116ee24", func := "rosary/rosarylaw6.CutNone", spec := "cutNone", inPlace := ["slices.overlaps[rosary/api.Item]", "slices.overlaps[*rosary/shelf.node]"], unfollowed := true, recurses := true, apart := false }
def CutNoneSaid : Prop := cutNoneRow.holds Try.pinned (OpenSpec.ofChange cutNoneSpec)

/-- ITS FALSE NEIGHBOUR: 'it returns false'. Refute it at one input. -/
def cutNoneWrong : ChangeSpec := { name := "cutNone", fn := fun _ => fun
  | [d1, d2, d3, d4] => { results := [.lit (.bool false)], args := [d1, d2, d3, d4] }
  | _ => none }
def CutNoneWrongFalsely : Prop := cutNoneRow.holds Try.pinned (OpenSpec.ofChange cutNoneWrong)

/-- 'rosarylaw6.CutBack': WHATEVER THE INPUT: true; the input reads as it did. -/
def cutBackSpec : ChangeSpec := { name := "cutBack", fn := fun _ => fun
  | [d1, d2] => { results := [.lit (.bool true)], args := [d1, d2] }
  | _ => none }
def cutBackRow : OpenClaim := { program := "ythknenhcnpgkcaa", sum := "494a0a58e684fb21fdf9341ddf7c55a137a790faddffda11dfadec96c116ee24", func := "rosary/rosarylaw6.CutBack", spec := "cutBack", inPlace := ["slices.overlaps[rosary/api.Item]", "slices.overlaps[*rosary/shelf.node]"], unfollowed := true, recurses := true, apart := false }
def CutBackSaid : Prop := cutBackRow.holds Try.pinned (OpenSpec.ofChange cutBackSpec)

/-- ITS FALSE NEIGHBOUR: 'it returns false'. Refute it at one input. -/
def cutBackWrong : ChangeSpec := { name := "cutBack", fn := fun _ => fun
  | [d1, d2] => { results := [.lit (.bool false)], args := [d1, d2] }
  | _ => none }
def CutBackWrongFalsely : Prop := cutBackRow.holds Try.pinned (OpenSpec.ofChange cutBackWrong)

/-- 'rosarylaw6.CutMoves': WHATEVER THE INPUT: true; the input reads as it did. -/
def cutMovesSpec : ChangeSpec := { name := "cutMoves", fn := fun _ => fun
  | [d1, d2, d3] => { results := [.lit (.bool true)], args := [d1, d2, d3] }
  | _ => none }
def cutMovesRow : OpenClaim := { program := "ythknenhcnpgkcaa", sum := "494a0a58e684fb21fdf9341ddf7c55a137a790faddffda11dfadec96c116ee24", func := "rosary/rosarylaw6.CutMoves", spec := "cutMoves", inPlace := ["slices.overlaps[rosary/api.Item]", "slices.overlaps[*rosary/shelf.node]"], unfollowed := true, recurses := true, apart := false }
def CutMovesSaid : Prop := cutMovesRow.holds Try.pinned (OpenSpec.ofChange cutMovesSpec)

/-- ITS FALSE NEIGHBOUR: 'it returns false'. Refute it at one input. -/
def cutMovesWrong : ChangeSpec := { name := "cutMoves", fn := fun _ => fun
  | [d1, d2, d3] => { results := [.lit (.bool false)], args := [d1, d2, d3] }
  | _ => none }
def CutMovesWrongFalsely : Prop := cutMovesRow.holds Try.pinned (OpenSpec.ofChange cutMovesWrong)

/- THE SECOND FORM. 'bulk': how many values and letters a reading holds, each counted each time it is reached (what is shared counts as often as it is met; a slice's spare places count too). A statement '..UptoSaid' is the law's where the arguments, and the package variables that the reading takes, are together of bulk at most 1048576: NARROWER than '..Said'. Prove '..Said' where nothing that the law and all that it calls make is longer than what came in: it says more and counts as full. Else prove '..UptoSaid'. A law counts once. -/
mutual
def uptoBulk {H : Type} : DataW H → Nat
  | .lit (.string bytes) => bytes.length + 1
  | .lit _ => 1
  | .nil => 1
  | .ptr d => uptoBulk d + 1
  | .slice elems spare => uptoBulkAll elems + uptoBulkAll spare + 1
  | .agg parts => uptoBulkAll parts + 1
  | .iface _ d => uptoBulk d + 1
  | .map entries => uptoBulkEntries entries + 1
  | .held _ => 1
def uptoBulkAll {H : Type} : List (DataW H) → Nat
  | [] => 0
  | d :: r => uptoBulk d + uptoBulkAll r
def uptoBulkEntries {H : Type} : List (Lit × DataW H) → Nat
  | [] => 0
  | x :: r => uptoBulkEntry x + uptoBulkEntries r
def uptoBulkEntry {H : Type} : Lit × DataW H → Nat
  | (.string bytes, d) => bytes.length + uptoBulk d + 1
  | (_, d) => uptoBulk d + 1
 end
def uptoSmall : (H : Type) → List (DataW H) → Bool := fun _ ds => decide (uptoBulkAll ds ≤ 1048576)
def OpenSpec.upto (s : _root_.Go.ChangeSpec) : _root_.Go.OpenSpec := { _root_.Go.OpenSpec.ofChange s with cond := some uptoSmall }

/-- 'rosarylaw4.ShelfOrders', WHERE WHAT IT READS IS OF BULK AT MOST 1048576: true; the input reads as it did. -/
def shelfOrdersUptoRow : OpenClaim := { program := "ythknenhcnpgkcaa", sum := "494a0a58e684fb21fdf9341ddf7c55a137a790faddffda11dfadec96c116ee24", func := "rosary/rosarylaw4.ShelfOrders", spec := "shelfOrders", inPlace := ["slices.overlaps[rosary/api.Item]", "slices.overlaps[*rosary/shelf.node]"], recurses := true, apart := false, narrowed := true }
def ShelfOrdersUptoSaid : Prop := shelfOrdersUptoRow.holds Try.pinned (OpenSpec.upto shelfOrdersSpec)

/-- 'rosarylaw5.WalkCounts', WHERE WHAT IT READS IS OF BULK AT MOST 1048576: true; the input reads as it did. -/
def walkCountsUptoRow : OpenClaim := { program := "ythknenhcnpgkcaa", sum := "494a0a58e684fb21fdf9341ddf7c55a137a790faddffda11dfadec96c116ee24", func := "rosary/rosarylaw5.WalkCounts", spec := "walkCounts", inPlace := ["slices.overlaps[rosary/api.Item]", "slices.overlaps[*rosary/shelf.node]"], unfollowed := true, recurses := true, apart := false, narrowed := true }
def WalkCountsUptoSaid : Prop := walkCountsUptoRow.holds Try.pinned (OpenSpec.upto walkCountsSpec)

/-- 'rosarylaw5.WalkMiddle', WHERE WHAT IT READS IS OF BULK AT MOST 1048576: true; the input reads as it did. -/
def walkMiddleUptoRow : OpenClaim := { program := "ythknenhcnpgkcaa", sum := "494a0a58e684fb21fdf9341ddf7c55a137a790faddffda11dfadec96c116ee24", func := "rosary/rosarylaw5.WalkMiddle", spec := "walkMiddle", inPlace := ["slices.overlaps[rosary/api.Item]", "slices.overlaps[*rosary/shelf.node]"], unfollowed := true, recurses := true, apart := false, narrowed := true }
def WalkMiddleUptoSaid : Prop := walkMiddleUptoRow.holds Try.pinned (OpenSpec.upto walkMiddleSpec)

/-- 'rosarylaw5.WalkPlaces', WHERE WHAT IT READS IS OF BULK AT MOST 1048576: true; the input reads as it did. -/
def walkPlacesUptoRow : OpenClaim := { program := "ythknenhcnpgkcaa", sum := "494a0a58e684fb21fdf9341ddf7c55a137a790faddffda11dfadec96c116ee24", func := "rosary/rosarylaw5.WalkPlaces", spec := "walkPlaces", inPlace := ["slices.overlaps[rosary/api.Item]", "slices.overlaps[*rosary/shelf.node]"], unfollowed := true, recurses := true, apart := false, narrowed := true }
def WalkPlacesUptoSaid : Prop := walkPlacesUptoRow.holds Try.pinned (OpenSpec.upto walkPlacesSpec)

/-- 'rosarylaw5.WalkNested', WHERE WHAT IT READS IS OF BULK AT MOST 1048576: true; the input reads as it did. -/
def walkNestedUptoRow : OpenClaim := { program := "ythknenhcnpgkcaa", sum := "494a0a58e684fb21fdf9341ddf7c55a137a790faddffda11dfadec96c116ee24", func := "rosary/rosarylaw5.WalkNested", spec := "walkNested", inPlace := ["slices.overlaps[rosary/api.Item]", "slices.overlaps[*rosary/shelf.node]"], unfollowed := true, recurses := true, apart := false, narrowed := true }
def WalkNestedUptoSaid : Prop := walkNestedUptoRow.holds Try.pinned (OpenSpec.upto walkNestedSpec)

/-- 'rosarylaw5.WalkHalves', WHERE WHAT IT READS IS OF BULK AT MOST 1048576: true; the input reads as it did. -/
def walkHalvesUptoRow : OpenClaim := { program := "ythknenhcnpgkcaa", sum := "494a0a58e684fb21fdf9341ddf7c55a137a790faddffda11dfadec96c116ee24", func := "rosary/rosarylaw5.WalkHalves", spec := "walkHalves", inPlace := ["slices.overlaps[rosary/api.Item]", "slices.overlaps[*rosary/shelf.node]"], unfollowed := true, recurses := true, apart := false, narrowed := true }
def WalkHalvesUptoSaid : Prop := walkHalvesUptoRow.holds Try.pinned (OpenSpec.upto walkHalvesSpec)

/-- 'rosarylaw5.WalkArcs', WHERE WHAT IT READS IS OF BULK AT MOST 1048576: true; the input reads as it did. -/
def walkArcsUptoRow : OpenClaim := { program := "ythknenhcnpgkcaa", sum := "494a0a58e684fb21fdf9341ddf7c55a137a790faddffda11dfadec96c116ee24", func := "rosary/rosarylaw5.WalkArcs", spec := "walkArcs", inPlace := ["slices.overlaps[rosary/api.Item]", "slices.overlaps[*rosary/shelf.node]"], unfollowed := true, recurses := true, apart := false, narrowed := true }
def WalkArcsUptoSaid : Prop := walkArcsUptoRow.holds Try.pinned (OpenSpec.upto walkArcsSpec)

/-- 'rosarylaw5.WalkRanges', WHERE WHAT IT READS IS OF BULK AT MOST 1048576: true; the input reads as it did. -/
def walkRangesUptoRow : OpenClaim := { program := "ythknenhcnpgkcaa", sum := "494a0a58e684fb21fdf9341ddf7c55a137a790faddffda11dfadec96c116ee24", func := "rosary/rosarylaw5.WalkRanges", spec := "walkRanges", inPlace := ["slices.overlaps[rosary/api.Item]", "slices.overlaps[*rosary/shelf.node]"], unfollowed := true, recurses := true, apart := false, narrowed := true }
def WalkRangesUptoSaid : Prop := walkRangesUptoRow.holds Try.pinned (OpenSpec.upto walkRangesSpec)

/-- 'rosarylaw5.WalkStops', WHERE WHAT IT READS IS OF BULK AT MOST 1048576: true; the input reads as it did. -/
def walkStopsUptoRow : OpenClaim := { program := "ythknenhcnpgkcaa", sum := "494a0a58e684fb21fdf9341ddf7c55a137a790faddffda11dfadec96c116ee24", func := "rosary/rosarylaw5.WalkStops", spec := "walkStops", inPlace := ["slices.overlaps[rosary/api.Item]", "slices.overlaps[*rosary/shelf.node]"], unfollowed := true, recurses := true, apart := false, narrowed := true }
def WalkStopsUptoSaid : Prop := walkStopsUptoRow.holds Try.pinned (OpenSpec.upto walkStopsSpec)

/-- 'rosarylaw4.ShelfMany', WHERE WHAT IT READS IS OF BULK AT MOST 1048576: true; the input reads as it did. -/
def shelfManyUptoRow : OpenClaim := { program := "ythknenhcnpgkcaa", sum := "494a0a58e684fb21fdf9341ddf7c55a137a790faddffda11dfadec96c116ee24", func := "rosary/rosarylaw4.ShelfMany", spec := "shelfMany", inPlace := ["slices.overlaps[rosary/api.Item]", "slices.overlaps[*rosary/shelf.node]"], recurses := true, apart := false, narrowed := true }
def ShelfManyUptoSaid : Prop := shelfManyUptoRow.holds Try.pinned (OpenSpec.upto shelfManySpec)

/-- 'rosarylaw4.ShelfFull', WHERE WHAT IT READS IS OF BULK AT MOST 1048576: true; the input reads as it did. -/
def shelfFullUptoRow : OpenClaim := { program := "ythknenhcnpgkcaa", sum := "494a0a58e684fb21fdf9341ddf7c55a137a790faddffda11dfadec96c116ee24", func := "rosary/rosarylaw4.ShelfFull", spec := "shelfFull", inPlace := ["slices.overlaps[rosary/api.Item]", "slices.overlaps[*rosary/shelf.node]"], recurses := true, apart := false, narrowed := true }
def ShelfFullUptoSaid : Prop := shelfFullUptoRow.holds Try.pinned (OpenSpec.upto shelfFullSpec)

/-- 'rosarylaw4.ShelfAgain', WHERE WHAT IT READS IS OF BULK AT MOST 1048576: true; the input reads as it did. -/
def shelfAgainUptoRow : OpenClaim := { program := "ythknenhcnpgkcaa", sum := "494a0a58e684fb21fdf9341ddf7c55a137a790faddffda11dfadec96c116ee24", func := "rosary/rosarylaw4.ShelfAgain", spec := "shelfAgain", inPlace := ["slices.overlaps[rosary/api.Item]", "slices.overlaps[*rosary/shelf.node]"], recurses := true, apart := false, narrowed := true }
def ShelfAgainUptoSaid : Prop := shelfAgainUptoRow.holds Try.pinned (OpenSpec.upto shelfAgainSpec)

/-- 'rosarylaw4.ShelfPlays', WHERE WHAT IT READS IS OF BULK AT MOST 1048576: true; the input reads as it did. -/
def shelfPlaysUptoRow : OpenClaim := { program := "ythknenhcnpgkcaa", sum := "494a0a58e684fb21fdf9341ddf7c55a137a790faddffda11dfadec96c116ee24", func := "rosary/rosarylaw4.ShelfPlays", spec := "shelfPlays", inPlace := ["slices.overlaps[rosary/api.Item]", "slices.overlaps[*rosary/shelf.node]"], recurses := true, apart := false, narrowed := true }
def ShelfPlaysUptoSaid : Prop := shelfPlaysUptoRow.holds Try.pinned (OpenSpec.upto shelfPlaysSpec)

/-- 'rosarylaw4.ShelfCopies', WHERE WHAT IT READS IS OF BULK AT MOST 1048576: true; the input reads as it did. -/
def shelfCopiesUptoRow : OpenClaim := { program := "ythknenhcnpgkcaa", sum := "494a0a58e684fb21fdf9341ddf7c55a137a790faddffda11dfadec96c116ee24", func := "rosary/rosarylaw4.ShelfCopies", spec := "shelfCopies", inPlace := ["slices.overlaps[rosary/api.Item]", "slices.overlaps[*rosary/shelf.node]"], recurses := true, apart := false, narrowed := true }
def ShelfCopiesUptoSaid : Prop := shelfCopiesUptoRow.holds Try.pinned (OpenSpec.upto shelfCopiesSpec)

/-- 'rosarylaw5.WalkWhile', WHERE WHAT IT READS IS OF BULK AT MOST 1048576: true; the input reads as it did. -/
def walkWhileUptoRow : OpenClaim := { program := "ythknenhcnpgkcaa", sum := "494a0a58e684fb21fdf9341ddf7c55a137a790faddffda11dfadec96c116ee24", func := "rosary/rosarylaw5.WalkWhile", spec := "walkWhile", inPlace := ["slices.overlaps[rosary/api.Item]", "slices.overlaps[*rosary/shelf.node]"], unfollowed := true, recurses := true, apart := false, narrowed := true }
def WalkWhileUptoSaid : Prop := walkWhileUptoRow.holds Try.pinned (OpenSpec.upto walkWhileSpec)

/-- 'rosarylaw6.CutPages', WHERE WHAT IT READS IS OF BULK AT MOST 1048576: true; the input reads as it did. -/
def cutPagesUptoRow : OpenClaim := { program := "ythknenhcnpgkcaa", sum := "494a0a58e684fb21fdf9341ddf7c55a137a790faddffda11dfadec96c116ee24", func := "rosary/rosarylaw6.CutPages", spec := "cutPages", inPlace := ["slices.overlaps[rosary/api.Item]", "slices.overlaps[*rosary/shelf.node]"], unfollowed := true, recurses := true, apart := false, narrowed := true }
def CutPagesUptoSaid : Prop := cutPagesUptoRow.holds Try.pinned (OpenSpec.upto cutPagesSpec)

/-- 'rosarylaw6.CutSizes', WHERE WHAT IT READS IS OF BULK AT MOST 1048576: true; the input reads as it did. -/
def cutSizesUptoRow : OpenClaim := { program := "ythknenhcnpgkcaa", sum := "494a0a58e684fb21fdf9341ddf7c55a137a790faddffda11dfadec96c116ee24", func := "rosary/rosarylaw6.CutSizes", spec := "cutSizes", inPlace := ["slices.overlaps[rosary/api.Item]", "slices.overlaps[*rosary/shelf.node]"], unfollowed := true, recurses := true, apart := false, narrowed := true }
def CutSizesUptoSaid : Prop := cutSizesUptoRow.holds Try.pinned (OpenSpec.upto cutSizesSpec)

/-- 'rosarylaw6.CutAll', WHERE WHAT IT READS IS OF BULK AT MOST 1048576: true; the input reads as it did. -/
def cutAllUptoRow : OpenClaim := { program := "ythknenhcnpgkcaa", sum := "494a0a58e684fb21fdf9341ddf7c55a137a790faddffda11dfadec96c116ee24", func := "rosary/rosarylaw6.CutAll", spec := "cutAll", inPlace := ["slices.overlaps[rosary/api.Item]", "slices.overlaps[*rosary/shelf.node]"], unfollowed := true, recurses := true, apart := false, narrowed := true }
def CutAllUptoSaid : Prop := cutAllUptoRow.holds Try.pinned (OpenSpec.upto cutAllSpec)

/-- 'rosarylaw6.CutNone', WHERE WHAT IT READS IS OF BULK AT MOST 1048576: true; the input reads as it did. -/
def cutNoneUptoRow : OpenClaim := { program := "ythknenhcnpgkcaa", sum := "494a0a58e684fb21fdf9341ddf7c55a137a790faddffda11dfadec96c116ee24", func := "rosary/rosarylaw6.CutNone", spec := "cutNone", inPlace := ["slices.overlaps[rosary/api.Item]", "slices.overlaps[*rosary/shelf.node]"], unfollowed := true, recurses := true, apart := false, narrowed := true }
def CutNoneUptoSaid : Prop := cutNoneUptoRow.holds Try.pinned (OpenSpec.upto cutNoneSpec)

/-- 'rosarylaw6.CutBack', WHERE WHAT IT READS IS OF BULK AT MOST 1048576: true; the input reads as it did. -/
def cutBackUptoRow : OpenClaim := { program := "ythknenhcnpgkcaa", sum := "494a0a58e684fb21fdf9341ddf7c55a137a790faddffda11dfadec96c116ee24", func := "rosary/rosarylaw6.CutBack", spec := "cutBack", inPlace := ["slices.overlaps[rosary/api.Item]", "slices.overlaps[*rosary/shelf.node]"], unfollowed := true, recurses := true, apart := false, narrowed := true }
def CutBackUptoSaid : Prop := cutBackUptoRow.holds Try.pinned (OpenSpec.upto cutBackSpec)

/-- 'rosarylaw6.CutMoves', WHERE WHAT IT READS IS OF BULK AT MOST 1048576: true; the input reads as it did. -/
def cutMovesUptoRow : OpenClaim := { program := "ythknenhcnpgkcaa", sum := "494a0a58e684fb21fdf9341ddf7c55a137a790faddffda11dfadec96c116ee24", func := "rosary/rosarylaw6.CutMoves", spec := "cutMoves", inPlace := ["slices.overlaps[rosary/api.Item]", "slices.overlaps[*rosary/shelf.node]"], unfollowed := true, recurses := true, apart := false, narrowed := true }
def CutMovesUptoSaid : Prop := cutMovesUptoRow.holds Try.pinned (OpenSpec.upto cutMovesSpec)

end Rows
end Go.Proofs.Ythknenhcnpgkcaa
