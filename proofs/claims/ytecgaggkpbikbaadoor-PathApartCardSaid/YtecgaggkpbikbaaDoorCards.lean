/-
  DERIVED. GIVEN WITH THE SEED: THE CARDS: each row of YtecgaggkpbikbaaDoorRows.lean that lists a variable, with what it lists TIED to the program's text (the seventh form; the later family's looks); each row that meets fmt, with fmt's text TOLD by the authors' own Lean function (tested against real Go, not proved from fmt's source: count such statements apart). THE CARD IS WHAT COUNTS. Prove the row's statement (the work); the ties are given (YtecgaggkpbikbaaDoorTie.lean); close each card by the builder's one call (the guide's Derived/Test/ToyasCard.lean, 'card_holds'). Laid BY PROGRAM, IN A SANDBOX (cutbox-door.mjs). By AI agents, Wed Nov 11 2026. No macro, syntax, notation, axiom, sorry.
-/
import Derived.Test.YtecgaggkpbikbaaDoorRows
import GoSem.ClaimSeven
namespace Go.Proofs.YtecgaggkpbikbaaDoor
namespace Rows

/-- THE TIED CARD OF 'hostlerlaw01.NameForms'. -/
def nameFormsCard : Claim7 := { stood := { row := nameFormsRow, standIns := [], harness := (true, "ece1a079565be3175fb1f0ed39a88e3e577d301347042d66b540fb5a4ca900a3"), looks := false }, kinds := [], alts := [], laidByText := true, laidKinds := [.data, .pinned], laidTests := true, laidLooks := .later }
def NameFormsCardSaid : Prop := Claim7.holds Tryd.pinned (.plain (OpenSpec.ofChange nameFormsSpec)) nameFormsCard

/-- THE TIED CARD OF 'hostlerlaw01.NameKeys'. -/
def nameKeysCard : Claim7 := { stood := { row := nameKeysRow, standIns := [], harness := (true, "ece1a079565be3175fb1f0ed39a88e3e577d301347042d66b540fb5a4ca900a3"), looks := false }, kinds := [], alts := [], laidByText := true, laidKinds := [.data, .pinned], laidTests := true, laidLooks := .later }
def NameKeysCardSaid : Prop := Claim7.holds Tryd.pinned (.plain (OpenSpec.ofChange nameKeysSpec)) nameKeysCard

/-- THE TIED CARD OF 'hostlerlaw01.NameOrder'. -/
def nameOrderCard : Claim7 := { stood := { row := nameOrderRow, standIns := [], harness := (true, "ece1a079565be3175fb1f0ed39a88e3e577d301347042d66b540fb5a4ca900a3"), looks := false }, kinds := [], alts := [], laidByText := true, laidKinds := [.data, .pinned], laidTests := true, laidLooks := .later }
def NameOrderCardSaid : Prop := Claim7.holds Tryd.pinned (.plain (OpenSpec.ofChange nameOrderSpec)) nameOrderCard

/-- THE TIED CARD OF 'hostlerlaw01.NameTells'. -/
def nameTellsCard : Claim7 := { stood := { row := nameTellsRow, standIns := [], harness := (true, "ece1a079565be3175fb1f0ed39a88e3e577d301347042d66b540fb5a4ca900a3"), looks := false }, kinds := [], alts := [], laidByText := true, laidKinds := [.data, .pinned], laidTests := true, laidLooks := .later }
def NameTellsCardSaid : Prop := Claim7.holds Tryd.pinned (.plain (OpenSpec.ofChange nameTellsSpec)) nameTellsCard

/-- THE TIED CARD OF 'hostlerlaw06.PathForms'. -/
def pathFormsCard : Claim7 := { stood := { row := pathFormsRow, standIns := [], harness := (true, "ece1a079565be3175fb1f0ed39a88e3e577d301347042d66b540fb5a4ca900a3"), looks := false }, kinds := [], alts := [], laidByText := true, laidKinds := [.data, .data, .data, .data, .pinned], laidTests := true, laidLooks := .later }
def PathFormsCardSaid : Prop := Claim7.holds Tryd.pinned (.plain (OpenSpec.ofChange pathFormsSpec)) pathFormsCard

/-- THE TIED CARD OF 'hostlerlaw06.PathTells'. -/
def pathTellsCard : Claim7 := { stood := { row := pathTellsRow, standIns := [], harness := (true, "ece1a079565be3175fb1f0ed39a88e3e577d301347042d66b540fb5a4ca900a3"), looks := false }, kinds := [], alts := [], laidByText := true, laidKinds := [.data, .data, .data, .data, .pinned], laidTests := true, laidLooks := .later }
def PathTellsCardSaid : Prop := Claim7.holds Tryd.pinned (.plain (OpenSpec.ofChange pathTellsSpec)) pathTellsCard

/-- THE TIED CARD OF 'hostlerlaw06.PathApart'. -/
def pathApartCard : Claim7 := { stood := { row := pathApartRow, standIns := [], harness := (true, "ece1a079565be3175fb1f0ed39a88e3e577d301347042d66b540fb5a4ca900a3"), looks := false }, kinds := [], alts := [], laidByText := true, laidKinds := [.data, .data, .data, .data, .pinned], laidTests := true, laidLooks := .later }
def PathApartCardSaid : Prop := Claim7.holds Tryd.pinned (.plain (OpenSpec.ofChange pathApartSpec)) pathApartCard

/-- THE SECOND FORM's CARD OF 'hostlerlaw01.NameForms'. -/
def nameFormsUptoCard : Claim7 := { stood := { row := nameFormsUptoRow, standIns := [], harness := (true, "ece1a079565be3175fb1f0ed39a88e3e577d301347042d66b540fb5a4ca900a3"), looks := false }, kinds := [], alts := [], laidByText := true, laidKinds := [.data, .pinned], laidTests := true, laidLooks := .later }
def NameFormsUptoCardSaid : Prop := Claim7.holds Tryd.pinned (.plain (OpenSpec.upto nameFormsSpec)) nameFormsUptoCard

/-- THE SECOND FORM's CARD OF 'hostlerlaw01.NameKeys'. -/
def nameKeysUptoCard : Claim7 := { stood := { row := nameKeysUptoRow, standIns := [], harness := (true, "ece1a079565be3175fb1f0ed39a88e3e577d301347042d66b540fb5a4ca900a3"), looks := false }, kinds := [], alts := [], laidByText := true, laidKinds := [.data, .pinned], laidTests := true, laidLooks := .later }
def NameKeysUptoCardSaid : Prop := Claim7.holds Tryd.pinned (.plain (OpenSpec.upto nameKeysSpec)) nameKeysUptoCard

/-- THE SECOND FORM's CARD OF 'hostlerlaw01.NameOrder'. -/
def nameOrderUptoCard : Claim7 := { stood := { row := nameOrderUptoRow, standIns := [], harness := (true, "ece1a079565be3175fb1f0ed39a88e3e577d301347042d66b540fb5a4ca900a3"), looks := false }, kinds := [], alts := [], laidByText := true, laidKinds := [.data, .pinned], laidTests := true, laidLooks := .later }
def NameOrderUptoCardSaid : Prop := Claim7.holds Tryd.pinned (.plain (OpenSpec.upto nameOrderSpec)) nameOrderUptoCard

/-- THE SECOND FORM's CARD OF 'hostlerlaw01.NameTells'. -/
def nameTellsUptoCard : Claim7 := { stood := { row := nameTellsUptoRow, standIns := [], harness := (true, "ece1a079565be3175fb1f0ed39a88e3e577d301347042d66b540fb5a4ca900a3"), looks := false }, kinds := [], alts := [], laidByText := true, laidKinds := [.data, .pinned], laidTests := true, laidLooks := .later }
def NameTellsUptoCardSaid : Prop := Claim7.holds Tryd.pinned (.plain (OpenSpec.upto nameTellsSpec)) nameTellsUptoCard

/-- THE SECOND FORM's CARD OF 'hostlerlaw06.PathForms'. -/
def pathFormsUptoCard : Claim7 := { stood := { row := pathFormsUptoRow, standIns := [], harness := (true, "ece1a079565be3175fb1f0ed39a88e3e577d301347042d66b540fb5a4ca900a3"), looks := false }, kinds := [], alts := [], laidByText := true, laidKinds := [.data, .data, .data, .data, .pinned], laidTests := true, laidLooks := .later }
def PathFormsUptoCardSaid : Prop := Claim7.holds Tryd.pinned (.plain (OpenSpec.upto pathFormsSpec)) pathFormsUptoCard

/-- THE SECOND FORM's CARD OF 'hostlerlaw06.PathTells'. -/
def pathTellsUptoCard : Claim7 := { stood := { row := pathTellsUptoRow, standIns := [], harness := (true, "ece1a079565be3175fb1f0ed39a88e3e577d301347042d66b540fb5a4ca900a3"), looks := false }, kinds := [], alts := [], laidByText := true, laidKinds := [.data, .data, .data, .data, .pinned], laidTests := true, laidLooks := .later }
def PathTellsUptoCardSaid : Prop := Claim7.holds Tryd.pinned (.plain (OpenSpec.upto pathTellsSpec)) pathTellsUptoCard

/-- THE SECOND FORM's CARD OF 'hostlerlaw06.PathApart'. -/
def pathApartUptoCard : Claim7 := { stood := { row := pathApartUptoRow, standIns := [], harness := (true, "ece1a079565be3175fb1f0ed39a88e3e577d301347042d66b540fb5a4ca900a3"), looks := false }, kinds := [], alts := [], laidByText := true, laidKinds := [.data, .data, .data, .data, .pinned], laidTests := true, laidLooks := .later }
def PathApartUptoCardSaid : Prop := Claim7.holds Tryd.pinned (.plain (OpenSpec.upto pathApartSpec)) pathApartUptoCard
end Rows
end Go.Proofs.YtecgaggkpbikbaaDoor
