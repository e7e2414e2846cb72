/-
  DERIVED. GIVEN WITH THE SEED: THE CARDS: each row of YtfjefhmlomdapaaDoorRows.lean that lists a variable, with what it lists TIED to the program's text (the seventh form; the later family's looks); each row that meets fmt, with fmt's text TOLD by the authors' own Lean function (tested against real Go, not proved from fmt's source: count such statements apart). THE CARD IS WHAT COUNTS. Prove the row's statement (the work); the ties are given (YtfjefhmlomdapaaDoorTie.lean); close each card by the builder's one call (the guide's Derived/Test/ToyasCard.lean, 'card_holds'). Laid BY PROGRAM, IN A SANDBOX (cutbox-door.mjs). By AI agents, Wed Nov 11 2026. No macro, syntax, notation, axiom, sorry.
-/
import Derived.Test.YtfjefhmlomdapaaDoorRows
import GoSem.ClaimSeven
namespace Go.Proofs.YtfjefhmlomdapaaDoor
namespace Rows

/-- THE TIED CARD OF 'rosarylaw1.KeyOrder'. -/
def keyOrderCard : Claim7 := { stood := { row := keyOrderRow, standIns := [], harness := (true, "bdf586d55c3e9c6ed4dffd5c220fd48cc9de8d64bcbc2048e757b36db049a004"), looks := false }, kinds := [], alts := [], laidByText := true, laidKinds := [.data, .pinned], laidTests := true, laidLooks := .later }
def KeyOrderCardSaid : Prop := Claim7.holds Tryd.pinned (.plain (OpenSpec.ofChange keyOrderSpec)) keyOrderCard

/-- THE TIED CARD OF 'rosarylaw1.KeyLess'. -/
def keyLessCard : Claim7 := { stood := { row := keyLessRow, standIns := [], harness := (true, "bdf586d55c3e9c6ed4dffd5c220fd48cc9de8d64bcbc2048e757b36db049a004"), looks := false }, kinds := [], alts := [], laidByText := true, laidKinds := [.data, .pinned], laidTests := true, laidLooks := .later }
def KeyLessCardSaid : Prop := Claim7.holds Tryd.pinned (.plain (OpenSpec.ofChange keyLessSpec)) keyLessCard

/-- THE TIED CARD OF 'rosarylaw1.KeyAlike'. -/
def keyAlikeCard : Claim7 := { stood := { row := keyAlikeRow, standIns := [], harness := (true, "bdf586d55c3e9c6ed4dffd5c220fd48cc9de8d64bcbc2048e757b36db049a004"), looks := false }, kinds := [], alts := [], laidByText := true, laidKinds := [.data, .pinned], laidTests := true, laidLooks := .later }
def KeyAlikeCardSaid : Prop := Claim7.holds Tryd.pinned (.plain (OpenSpec.ofChange keyAlikeSpec)) keyAlikeCard

/-- THE TIED CARD OF 'rosarylaw1.KeyPasts'. -/
def keyPastsCard : Claim7 := { stood := { row := keyPastsRow, standIns := [], harness := (true, "bdf586d55c3e9c6ed4dffd5c220fd48cc9de8d64bcbc2048e757b36db049a004"), looks := false }, kinds := [], alts := [], laidByText := true, laidKinds := [.data, .pinned], laidTests := true, laidLooks := .later }
def KeyPastsCardSaid : Prop := Claim7.holds Tryd.pinned (.plain (OpenSpec.ofChange keyPastsSpec)) keyPastsCard

/-- THE TIED CARD OF 'rosarylaw1.KeySpreads'. -/
def keySpreadsCard : Claim7 := { stood := { row := keySpreadsRow, standIns := [], harness := (true, "bdf586d55c3e9c6ed4dffd5c220fd48cc9de8d64bcbc2048e757b36db049a004"), looks := false }, kinds := [], alts := [], laidByText := true, laidKinds := [.data, .pinned], laidTests := true, laidLooks := .later }
def KeySpreadsCardSaid : Prop := Claim7.holds Tryd.pinned (.plain (OpenSpec.ofChange keySpreadsSpec)) keySpreadsCard

/-- THE TIED CARD OF 'rosarylaw1.KeyTells'. -/
def keyTellsCard : Claim7 := { stood := { row := keyTellsRow, standIns := [], harness := (true, "bdf586d55c3e9c6ed4dffd5c220fd48cc9de8d64bcbc2048e757b36db049a004"), looks := false }, kinds := [], alts := [], laidByText := true, laidKinds := [.data, .pinned], laidTests := true, laidLooks := .later }
def KeyTellsCardSaid : Prop := Claim7.holds Tryd.pinned (.plain (OpenSpec.ofChange keyTellsSpec)) keyTellsCard

/-- THE TIED CARD OF 'rosarylaw1.KeyBounds'. -/
def keyBoundsCard : Claim7 := { stood := { row := keyBoundsRow, standIns := [], harness := (true, "bdf586d55c3e9c6ed4dffd5c220fd48cc9de8d64bcbc2048e757b36db049a004"), looks := false }, kinds := [], alts := [], laidByText := true, laidKinds := [.data, .pinned], laidTests := true, laidLooks := .later }
def KeyBoundsCardSaid : Prop := Claim7.holds Tryd.pinned (.plain (OpenSpec.ofChange keyBoundsSpec)) keyBoundsCard

/-- THE SECOND FORM's CARD OF 'rosarylaw1.KeyOrder'. -/
def keyOrderUptoCard : Claim7 := { stood := { row := keyOrderUptoRow, standIns := [], harness := (true, "bdf586d55c3e9c6ed4dffd5c220fd48cc9de8d64bcbc2048e757b36db049a004"), looks := false }, kinds := [], alts := [], laidByText := true, laidKinds := [.data, .pinned], laidTests := true, laidLooks := .later }
def KeyOrderUptoCardSaid : Prop := Claim7.holds Tryd.pinned (.plain (OpenSpec.upto keyOrderSpec)) keyOrderUptoCard

/-- THE SECOND FORM's CARD OF 'rosarylaw1.KeyLess'. -/
def keyLessUptoCard : Claim7 := { stood := { row := keyLessUptoRow, standIns := [], harness := (true, "bdf586d55c3e9c6ed4dffd5c220fd48cc9de8d64bcbc2048e757b36db049a004"), looks := false }, kinds := [], alts := [], laidByText := true, laidKinds := [.data, .pinned], laidTests := true, laidLooks := .later }
def KeyLessUptoCardSaid : Prop := Claim7.holds Tryd.pinned (.plain (OpenSpec.upto keyLessSpec)) keyLessUptoCard

/-- THE SECOND FORM's CARD OF 'rosarylaw1.KeyAlike'. -/
def keyAlikeUptoCard : Claim7 := { stood := { row := keyAlikeUptoRow, standIns := [], harness := (true, "bdf586d55c3e9c6ed4dffd5c220fd48cc9de8d64bcbc2048e757b36db049a004"), looks := false }, kinds := [], alts := [], laidByText := true, laidKinds := [.data, .pinned], laidTests := true, laidLooks := .later }
def KeyAlikeUptoCardSaid : Prop := Claim7.holds Tryd.pinned (.plain (OpenSpec.upto keyAlikeSpec)) keyAlikeUptoCard

/-- THE SECOND FORM's CARD OF 'rosarylaw1.KeyPasts'. -/
def keyPastsUptoCard : Claim7 := { stood := { row := keyPastsUptoRow, standIns := [], harness := (true, "bdf586d55c3e9c6ed4dffd5c220fd48cc9de8d64bcbc2048e757b36db049a004"), looks := false }, kinds := [], alts := [], laidByText := true, laidKinds := [.data, .pinned], laidTests := true, laidLooks := .later }
def KeyPastsUptoCardSaid : Prop := Claim7.holds Tryd.pinned (.plain (OpenSpec.upto keyPastsSpec)) keyPastsUptoCard

/-- THE SECOND FORM's CARD OF 'rosarylaw1.KeySpreads'. -/
def keySpreadsUptoCard : Claim7 := { stood := { row := keySpreadsUptoRow, standIns := [], harness := (true, "bdf586d55c3e9c6ed4dffd5c220fd48cc9de8d64bcbc2048e757b36db049a004"), looks := false }, kinds := [], alts := [], laidByText := true, laidKinds := [.data, .pinned], laidTests := true, laidLooks := .later }
def KeySpreadsUptoCardSaid : Prop := Claim7.holds Tryd.pinned (.plain (OpenSpec.upto keySpreadsSpec)) keySpreadsUptoCard

/-- THE SECOND FORM's CARD OF 'rosarylaw1.KeyTells'. -/
def keyTellsUptoCard : Claim7 := { stood := { row := keyTellsUptoRow, standIns := [], harness := (true, "bdf586d55c3e9c6ed4dffd5c220fd48cc9de8d64bcbc2048e757b36db049a004"), looks := false }, kinds := [], alts := [], laidByText := true, laidKinds := [.data, .pinned], laidTests := true, laidLooks := .later }
def KeyTellsUptoCardSaid : Prop := Claim7.holds Tryd.pinned (.plain (OpenSpec.upto keyTellsSpec)) keyTellsUptoCard

/-- THE SECOND FORM's CARD OF 'rosarylaw1.KeyBounds'. -/
def keyBoundsUptoCard : Claim7 := { stood := { row := keyBoundsUptoRow, standIns := [], harness := (true, "bdf586d55c3e9c6ed4dffd5c220fd48cc9de8d64bcbc2048e757b36db049a004"), looks := false }, kinds := [], alts := [], laidByText := true, laidKinds := [.data, .pinned], laidTests := true, laidLooks := .later }
def KeyBoundsUptoCardSaid : Prop := Claim7.holds Tryd.pinned (.plain (OpenSpec.upto keyBoundsSpec)) keyBoundsUptoCard
end Rows
end Go.Proofs.YtfjefhmlomdapaaDoor
