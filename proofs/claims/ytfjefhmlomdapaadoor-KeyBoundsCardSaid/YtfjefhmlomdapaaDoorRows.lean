/-
  NARROWER THAN 'FOR EVERY INPUT', by the rows' own cells (each row's printed sentence says how): KeyOrder: laid · KeyLess: laid · KeyAlike: laid · KeyPasts: laid · KeySpreads: laid · KeyTells: laid · KeyBounds: laid.
  DERIVED. THE GIVEN ROWS OF THIS SEAT. 7 by the template 'for every input the law returns true; each argument reads behind the call as it read before'; 0 by the template 'total and deterministic' (their statements: YtfjefhmlomdapaaDoorTotals.lean).
  GIVEN WITH THE SEED: the statements are not yours to turn. If you find one false, say at which input.
  Laid BY PROGRAM, IN A SANDBOX (cutbox-rows.mjs): the forced cells as the released guide's own fill.sh prints them over the translation 4ace44c279fde5c3… (all of the seat's roots in one cut). By AI agents, Wed Nov 11 2026. No macro, syntax, notation, axiom, sorry.
-/
import Derived.Test.YtfjefhmlomdapaaDoorChecked
import GoSem.PinnedTables
import GoSem.Claim
import GoSem.ClaimJoined
import GoSem.ClaimMapViews
import Derived.JoinedTies
import Derived.KernelRfl
namespace Go.Proofs.YtfjefhmlomdapaaDoor
/- THE CELL 'sum', in the pinned program and in every row, IS THE sha256 OF THE DUMP (.gsa) THAT YtfjefhmlomdapaaDoorProg.lean LOADS. Nothing in Lean hashes anything: it is a label: what it is worth is what the hold of that sum in a sandbox is worth. -/
noncomputable def Tryd.pinned : Pinned := { name := "ytfjefhmlomdapaadoor", sum := "4ace44c279fde5c32cecfbcc2619ec3ab05a51bc485ac8086817c6701992613d", checked := Tryd.checked }
namespace Rows
def none {H : Type} : Left H := { results := [], args := [] }

/- WHAT THE LISTED PACKAGE-LEVEL VARIABLES READ AS WHEN THE CALL BEGINS. Each datum BY PROGRAM (the guide's laid-datum.mjs) off the statement by which the dump's own 'gosem.cut.vars' lays the variable. In a bare row this is a premise. The card (YtfjefhmlomdapaaDoorCards.lean) ties it to the program's text. -/
def laid_unicode_utf8_acceptRanges {H : Type} : DataW H := .agg [.agg [.lit (.int .u8 128), .lit (.int .u8 191)], .agg [.lit (.int .u8 160), .lit (.int .u8 191)], .agg [.lit (.int .u8 128), .lit (.int .u8 159)], .agg [.lit (.int .u8 144), .lit (.int .u8 191)], .agg [.lit (.int .u8 128), .lit (.int .u8 143)], .agg [.lit (.int .u8 0), .lit (.int .u8 0)], .agg [.lit (.int .u8 0), .lit (.int .u8 0)], .agg [.lit (.int .u8 0), .lit (.int .u8 0)], .agg [.lit (.int .u8 0), .lit (.int .u8 0)], .agg [.lit (.int .u8 0), .lit (.int .u8 0)], .agg [.lit (.int .u8 0), .lit (.int .u8 0)], .agg [.lit (.int .u8 0), .lit (.int .u8 0)], .agg [.lit (.int .u8 0), .lit (.int .u8 0)], .agg [.lit (.int .u8 0), .lit (.int .u8 0)], .agg [.lit (.int .u8 0), .lit (.int .u8 0)], .agg [.lit (.int .u8 0), .lit (.int .u8 0)]]
/-- One of Go's own tables, pinned by name: the form's constant. -/
def laid_unicode_utf8_first : DataW Unit := Go.Pinned.utf8First

/-- 'rosarylaw1.KeyOrder': WHATEVER THE INPUT: true; the input reads as it did. -/
def keyOrderSpec : ChangeSpec := { name := "keyOrder", fn := fun _ => fun
  | [d1, d2, d3] => { results := [.lit (.bool true)], args := [d1, d2, d3] }
  | _ => none }
def keyOrderRow : OpenClaim := { program := "ytfjefhmlomdapaadoor", sum := "4ace44c279fde5c32cecfbcc2619ec3ab05a51bc485ac8086817c6701992613d", func := "rosary/rosarylaw1.KeyOrder", spec := "keyOrder", inPlace := ["internal/bytealg.IndexByteString", "internal/bytealg.IndexString"], named := ["unicode/utf8.first", "unicode/utf8.acceptRanges", "internal/bytealg.MaxLen"], apart := false, laid := [("unicode/utf8.acceptRanges", laid_unicode_utf8_acceptRanges), ("unicode/utf8.first", laid_unicode_utf8_first)] }
def KeyOrderSaid : Prop := keyOrderRow.holds Tryd.pinned (OpenSpec.ofChange keyOrderSpec)

/-- ITS FALSE NEIGHBOUR: 'it returns false'. Refute it at one input. -/
def keyOrderWrong : ChangeSpec := { name := "keyOrder", fn := fun _ => fun
  | [d1, d2, d3] => { results := [.lit (.bool false)], args := [d1, d2, d3] }
  | _ => none }
def KeyOrderWrongFalsely : Prop := keyOrderRow.holds Tryd.pinned (OpenSpec.ofChange keyOrderWrong)

/-- 'rosarylaw1.KeyLess': WHATEVER THE INPUT: true; the input reads as it did. -/
def keyLessSpec : ChangeSpec := { name := "keyLess", fn := fun _ => fun
  | [d1, d2, d3] => { results := [.lit (.bool true)], args := [d1, d2, d3] }
  | _ => none }
def keyLessRow : OpenClaim := { program := "ytfjefhmlomdapaadoor", sum := "4ace44c279fde5c32cecfbcc2619ec3ab05a51bc485ac8086817c6701992613d", func := "rosary/rosarylaw1.KeyLess", spec := "keyLess", inPlace := ["internal/bytealg.IndexByteString", "internal/bytealg.IndexString"], named := ["unicode/utf8.first", "unicode/utf8.acceptRanges", "internal/bytealg.MaxLen"], apart := false, laid := [("unicode/utf8.acceptRanges", laid_unicode_utf8_acceptRanges), ("unicode/utf8.first", laid_unicode_utf8_first)] }
def KeyLessSaid : Prop := keyLessRow.holds Tryd.pinned (OpenSpec.ofChange keyLessSpec)

/-- ITS FALSE NEIGHBOUR: 'it returns false'. Refute it at one input. -/
def keyLessWrong : ChangeSpec := { name := "keyLess", fn := fun _ => fun
  | [d1, d2, d3] => { results := [.lit (.bool false)], args := [d1, d2, d3] }
  | _ => none }
def KeyLessWrongFalsely : Prop := keyLessRow.holds Tryd.pinned (OpenSpec.ofChange keyLessWrong)

/-- 'rosarylaw1.KeyAlike': WHATEVER THE INPUT: true; the input reads as it did. -/
def keyAlikeSpec : ChangeSpec := { name := "keyAlike", fn := fun _ => fun
  | [d1, d2, d3] => { results := [.lit (.bool true)], args := [d1, d2, d3] }
  | _ => none }
def keyAlikeRow : OpenClaim := { program := "ytfjefhmlomdapaadoor", sum := "4ace44c279fde5c32cecfbcc2619ec3ab05a51bc485ac8086817c6701992613d", func := "rosary/rosarylaw1.KeyAlike", spec := "keyAlike", inPlace := ["internal/bytealg.IndexByteString", "internal/bytealg.IndexString"], named := ["unicode/utf8.first", "unicode/utf8.acceptRanges", "internal/bytealg.MaxLen"], apart := false, laid := [("unicode/utf8.acceptRanges", laid_unicode_utf8_acceptRanges), ("unicode/utf8.first", laid_unicode_utf8_first)] }
def KeyAlikeSaid : Prop := keyAlikeRow.holds Tryd.pinned (OpenSpec.ofChange keyAlikeSpec)

/-- ITS FALSE NEIGHBOUR: 'it returns false'. Refute it at one input. -/
def keyAlikeWrong : ChangeSpec := { name := "keyAlike", fn := fun _ => fun
  | [d1, d2, d3] => { results := [.lit (.bool false)], args := [d1, d2, d3] }
  | _ => none }
def KeyAlikeWrongFalsely : Prop := keyAlikeRow.holds Tryd.pinned (OpenSpec.ofChange keyAlikeWrong)

/-- 'rosarylaw1.KeyPasts': WHATEVER THE INPUT: true; the input reads as it did. -/
def keyPastsSpec : ChangeSpec := { name := "keyPasts", fn := fun _ => fun
  | [d1, d2] => { results := [.lit (.bool true)], args := [d1, d2] }
  | _ => none }
def keyPastsRow : OpenClaim := { program := "ytfjefhmlomdapaadoor", sum := "4ace44c279fde5c32cecfbcc2619ec3ab05a51bc485ac8086817c6701992613d", func := "rosary/rosarylaw1.KeyPasts", spec := "keyPasts", inPlace := ["internal/bytealg.IndexByteString", "internal/bytealg.IndexString"], named := ["unicode/utf8.first", "unicode/utf8.acceptRanges", "internal/bytealg.MaxLen"], apart := false, laid := [("unicode/utf8.acceptRanges", laid_unicode_utf8_acceptRanges), ("unicode/utf8.first", laid_unicode_utf8_first)] }
def KeyPastsSaid : Prop := keyPastsRow.holds Tryd.pinned (OpenSpec.ofChange keyPastsSpec)

/-- ITS FALSE NEIGHBOUR: 'it returns false'. Refute it at one input. -/
def keyPastsWrong : ChangeSpec := { name := "keyPasts", fn := fun _ => fun
  | [d1, d2] => { results := [.lit (.bool false)], args := [d1, d2] }
  | _ => none }
def KeyPastsWrongFalsely : Prop := keyPastsRow.holds Tryd.pinned (OpenSpec.ofChange keyPastsWrong)

/-- 'rosarylaw1.KeySpreads': WHATEVER THE INPUT: true; the input reads as it did. -/
def keySpreadsSpec : ChangeSpec := { name := "keySpreads", fn := fun _ => fun
  | [d1, d2] => { results := [.lit (.bool true)], args := [d1, d2] }
  | _ => none }
def keySpreadsRow : OpenClaim := { program := "ytfjefhmlomdapaadoor", sum := "4ace44c279fde5c32cecfbcc2619ec3ab05a51bc485ac8086817c6701992613d", func := "rosary/rosarylaw1.KeySpreads", spec := "keySpreads", inPlace := ["internal/bytealg.IndexByteString", "internal/bytealg.IndexString"], named := ["unicode/utf8.first", "unicode/utf8.acceptRanges", "internal/bytealg.MaxLen"], apart := false, laid := [("unicode/utf8.acceptRanges", laid_unicode_utf8_acceptRanges), ("unicode/utf8.first", laid_unicode_utf8_first)] }
def KeySpreadsSaid : Prop := keySpreadsRow.holds Tryd.pinned (OpenSpec.ofChange keySpreadsSpec)

/-- ITS FALSE NEIGHBOUR: 'it returns false'. Refute it at one input. -/
def keySpreadsWrong : ChangeSpec := { name := "keySpreads", fn := fun _ => fun
  | [d1, d2] => { results := [.lit (.bool false)], args := [d1, d2] }
  | _ => none }
def KeySpreadsWrongFalsely : Prop := keySpreadsRow.holds Tryd.pinned (OpenSpec.ofChange keySpreadsWrong)

/-- 'rosarylaw1.KeyTells': WHATEVER THE INPUT: true; the input reads as it did. -/
def keyTellsSpec : ChangeSpec := { name := "keyTells", fn := fun _ => fun
  | [d1, d2, d3] => { results := [.lit (.bool true)], args := [d1, d2, d3] }
  | _ => none }
def keyTellsRow : OpenClaim := { program := "ytfjefhmlomdapaadoor", sum := "4ace44c279fde5c32cecfbcc2619ec3ab05a51bc485ac8086817c6701992613d", func := "rosary/rosarylaw1.KeyTells", spec := "keyTells", inPlace := ["internal/bytealg.IndexByteString", "internal/bytealg.IndexString"], named := ["unicode/utf8.first", "unicode/utf8.acceptRanges", "internal/bytealg.MaxLen"], apart := false, laid := [("unicode/utf8.acceptRanges", laid_unicode_utf8_acceptRanges), ("unicode/utf8.first", laid_unicode_utf8_first)] }
def KeyTellsSaid : Prop := keyTellsRow.holds Tryd.pinned (OpenSpec.ofChange keyTellsSpec)

/-- ITS FALSE NEIGHBOUR: 'it returns false'. Refute it at one input. -/
def keyTellsWrong : ChangeSpec := { name := "keyTells", fn := fun _ => fun
  | [d1, d2, d3] => { results := [.lit (.bool false)], args := [d1, d2, d3] }
  | _ => none }
def KeyTellsWrongFalsely : Prop := keyTellsRow.holds Tryd.pinned (OpenSpec.ofChange keyTellsWrong)

/-- 'rosarylaw1.KeyBounds': WHATEVER THE INPUT: true; the input reads as it did. -/
def keyBoundsSpec : ChangeSpec := { name := "keyBounds", fn := fun _ => fun
  | [d1, d2] => { results := [.lit (.bool true)], args := [d1, d2] }
  | _ => none }
def keyBoundsRow : OpenClaim := { program := "ytfjefhmlomdapaadoor", sum := "4ace44c279fde5c32cecfbcc2619ec3ab05a51bc485ac8086817c6701992613d", func := "rosary/rosarylaw1.KeyBounds", spec := "keyBounds", inPlace := ["internal/bytealg.IndexByteString", "internal/bytealg.IndexString"], named := ["unicode/utf8.first", "unicode/utf8.acceptRanges", "internal/bytealg.MaxLen"], apart := false, laid := [("unicode/utf8.acceptRanges", laid_unicode_utf8_acceptRanges), ("unicode/utf8.first", laid_unicode_utf8_first)] }
def KeyBoundsSaid : Prop := keyBoundsRow.holds Tryd.pinned (OpenSpec.ofChange keyBoundsSpec)

/-- ITS FALSE NEIGHBOUR: 'it returns false'. Refute it at one input. -/
def keyBoundsWrong : ChangeSpec := { name := "keyBounds", fn := fun _ => fun
  | [d1, d2] => { results := [.lit (.bool false)], args := [d1, d2] }
  | _ => none }
def KeyBoundsWrongFalsely : Prop := keyBoundsRow.holds Tryd.pinned (OpenSpec.ofChange keyBoundsWrong)

/- THE SECOND FORM. 'bulk': how many values and letters a reading holds, each counted each time it is reached (what is shared counts as often as it is met; a slice's spare places count too). A statement '..UptoSaid' is the law's where the arguments, and the package variables that the reading takes, are together of bulk at most 1048576: NARROWER than '..Said'. Prove '..Said' where nothing that the law and all that it calls make is longer than what came in: it says more and counts as full. Else prove '..UptoSaid'. A law counts once. -/
mutual
def uptoBulk {H : Type} : DataW H → Nat
  | .lit (.string bytes) => bytes.length + 1
  | .lit _ => 1
  | .nil => 1
  | .ptr d => uptoBulk d + 1
  | .slice elems spare => uptoBulkAll elems + uptoBulkAll spare + 1
  | .agg parts => uptoBulkAll parts + 1
  | .iface _ d => uptoBulk d + 1
  | .map entries => uptoBulkEntries entries + 1
  | .held _ => 1
def uptoBulkAll {H : Type} : List (DataW H) → Nat
  | [] => 0
  | d :: r => uptoBulk d + uptoBulkAll r
def uptoBulkEntries {H : Type} : List (Lit × DataW H) → Nat
  | [] => 0
  | x :: r => uptoBulkEntry x + uptoBulkEntries r
def uptoBulkEntry {H : Type} : Lit × DataW H → Nat
  | (.string bytes, d) => bytes.length + uptoBulk d + 1
  | (_, d) => uptoBulk d + 1
 end
def uptoSmall : (H : Type) → List (DataW H) → Bool := fun _ ds => decide (uptoBulkAll ds ≤ 1048576)
def OpenSpec.upto (s : _root_.Go.ChangeSpec) : _root_.Go.OpenSpec := { _root_.Go.OpenSpec.ofChange s with cond := some uptoSmall }

/-- 'rosarylaw1.KeyOrder', WHERE WHAT IT READS IS OF BULK AT MOST 1048576: true; the input reads as it did. -/
def keyOrderUptoRow : OpenClaim := { program := "ytfjefhmlomdapaadoor", sum := "4ace44c279fde5c32cecfbcc2619ec3ab05a51bc485ac8086817c6701992613d", func := "rosary/rosarylaw1.KeyOrder", spec := "keyOrder", inPlace := ["internal/bytealg.IndexByteString", "internal/bytealg.IndexString"], named := ["unicode/utf8.first", "unicode/utf8.acceptRanges", "internal/bytealg.MaxLen"], apart := false, laid := [("unicode/utf8.acceptRanges", laid_unicode_utf8_acceptRanges), ("unicode/utf8.first", laid_unicode_utf8_first)], narrowed := true }
def KeyOrderUptoSaid : Prop := keyOrderUptoRow.holds Tryd.pinned (OpenSpec.upto keyOrderSpec)

/-- 'rosarylaw1.KeyLess', WHERE WHAT IT READS IS OF BULK AT MOST 1048576: true; the input reads as it did. -/
def keyLessUptoRow : OpenClaim := { program := "ytfjefhmlomdapaadoor", sum := "4ace44c279fde5c32cecfbcc2619ec3ab05a51bc485ac8086817c6701992613d", func := "rosary/rosarylaw1.KeyLess", spec := "keyLess", inPlace := ["internal/bytealg.IndexByteString", "internal/bytealg.IndexString"], named := ["unicode/utf8.first", "unicode/utf8.acceptRanges", "internal/bytealg.MaxLen"], apart := false, laid := [("unicode/utf8.acceptRanges", laid_unicode_utf8_acceptRanges), ("unicode/utf8.first", laid_unicode_utf8_first)], narrowed := true }
def KeyLessUptoSaid : Prop := keyLessUptoRow.holds Tryd.pinned (OpenSpec.upto keyLessSpec)

/-- 'rosarylaw1.KeyAlike', WHERE WHAT IT READS IS OF BULK AT MOST 1048576: true; the input reads as it did. -/
def keyAlikeUptoRow : OpenClaim := { program := "ytfjefhmlomdapaadoor", sum := "4ace44c279fde5c32cecfbcc2619ec3ab05a51bc485ac8086817c6701992613d", func := "rosary/rosarylaw1.KeyAlike", spec := "keyAlike", inPlace := ["internal/bytealg.IndexByteString", "internal/bytealg.IndexString"], named := ["unicode/utf8.first", "unicode/utf8.acceptRanges", "internal/bytealg.MaxLen"], apart := false, laid := [("unicode/utf8.acceptRanges", laid_unicode_utf8_acceptRanges), ("unicode/utf8.first", laid_unicode_utf8_first)], narrowed := true }
def KeyAlikeUptoSaid : Prop := keyAlikeUptoRow.holds Tryd.pinned (OpenSpec.upto keyAlikeSpec)

/-- 'rosarylaw1.KeyPasts', WHERE WHAT IT READS IS OF BULK AT MOST 1048576: true; the input reads as it did. -/
def keyPastsUptoRow : OpenClaim := { program := "ytfjefhmlomdapaadoor", sum := "4ace44c279fde5c32cecfbcc2619ec3ab05a51bc485ac8086817c6701992613d", func := "rosary/rosarylaw1.KeyPasts", spec := "keyPasts", inPlace := ["internal/bytealg.IndexByteString", "internal/bytealg.IndexString"], named := ["unicode/utf8.first", "unicode/utf8.acceptRanges", "internal/bytealg.MaxLen"], apart := false, laid := [("unicode/utf8.acceptRanges", laid_unicode_utf8_acceptRanges), ("unicode/utf8.first", laid_unicode_utf8_first)], narrowed := true }
def KeyPastsUptoSaid : Prop := keyPastsUptoRow.holds Tryd.pinned (OpenSpec.upto keyPastsSpec)

/-- 'rosarylaw1.KeySpreads', WHERE WHAT IT READS IS OF BULK AT MOST 1048576: true; the input reads as it did. -/
def keySpreadsUptoRow : OpenClaim := { program := "ytfjefhmlomdapaadoor", sum := "4ace44c279fde5c32cecfbcc2619ec3ab05a51bc485ac8086817c6701992613d", func := "rosary/rosarylaw1.KeySpreads", spec := "keySpreads", inPlace := ["internal/bytealg.IndexByteString", "internal/bytealg.IndexString"], named := ["unicode/utf8.first", "unicode/utf8.acceptRanges", "internal/bytealg.MaxLen"], apart := false, laid := [("unicode/utf8.acceptRanges", laid_unicode_utf8_acceptRanges), ("unicode/utf8.first", laid_unicode_utf8_first)], narrowed := true }
def KeySpreadsUptoSaid : Prop := keySpreadsUptoRow.holds Tryd.pinned (OpenSpec.upto keySpreadsSpec)

/-- 'rosarylaw1.KeyTells', WHERE WHAT IT READS IS OF BULK AT MOST 1048576: true; the input reads as it did. -/
def keyTellsUptoRow : OpenClaim := { program := "ytfjefhmlomdapaadoor", sum := "4ace44c279fde5c32cecfbcc2619ec3ab05a51bc485ac8086817c6701992613d", func := "rosary/rosarylaw1.KeyTells", spec := "keyTells", inPlace := ["internal/bytealg.IndexByteString", "internal/bytealg.IndexString"], named := ["unicode/utf8.first", "unicode/utf8.acceptRanges", "internal/bytealg.MaxLen"], apart := false, laid := [("unicode/utf8.acceptRanges", laid_unicode_utf8_acceptRanges), ("unicode/utf8.first", laid_unicode_utf8_first)], narrowed := true }
def KeyTellsUptoSaid : Prop := keyTellsUptoRow.holds Tryd.pinned (OpenSpec.upto keyTellsSpec)

/-- 'rosarylaw1.KeyBounds', WHERE WHAT IT READS IS OF BULK AT MOST 1048576: true; the input reads as it did. -/
def keyBoundsUptoRow : OpenClaim := { program := "ytfjefhmlomdapaadoor", sum := "4ace44c279fde5c32cecfbcc2619ec3ab05a51bc485ac8086817c6701992613d", func := "rosary/rosarylaw1.KeyBounds", spec := "keyBounds", inPlace := ["internal/bytealg.IndexByteString", "internal/bytealg.IndexString"], named := ["unicode/utf8.first", "unicode/utf8.acceptRanges", "internal/bytealg.MaxLen"], apart := false, laid := [("unicode/utf8.acceptRanges", laid_unicode_utf8_acceptRanges), ("unicode/utf8.first", laid_unicode_utf8_first)], narrowed := true }
def KeyBoundsUptoSaid : Prop := keyBoundsUptoRow.holds Tryd.pinned (OpenSpec.upto keyBoundsSpec)

end Rows
end Go.Proofs.YtfjefhmlomdapaaDoor
