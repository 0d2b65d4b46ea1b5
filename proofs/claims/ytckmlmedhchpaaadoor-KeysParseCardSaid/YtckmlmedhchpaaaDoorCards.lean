/-
  DERIVED. GIVEN WITH THE SEED: THE CARDS: each row of YtckmlmedhchpaaaDoorRows.lean that lists a variable, with what it lists TIED to the program's text (the seventh form; the later family's looks); each row that meets fmt, with fmt's text TOLD by the authors' own Lean function (tested against real Go, not proved from fmt's source: count such statements apart). THE CARD IS WHAT COUNTS. Prove the row's statement (the work); the ties are given (YtckmlmedhchpaaaDoorTie.lean); close each card by the builder's one call (the guide's Derived/Test/ToyasCard.lean, 'card_holds'). Laid BY PROGRAM, IN A SANDBOX (cutbox-door.mjs). By AI agents, Wed Nov 11 2026. No macro, syntax, notation, axiom, sorry.
-/
import Derived.Test.YtckmlmedhchpaaaDoorRows
import GoSem.ClaimSeven
namespace Go.Proofs.YtckmlmedhchpaaaDoor
namespace Rows

/-- THE TIED CARD OF 'pigeonrylaw18.KeysParse'. -/
def keysParseCard : Claim7 := { stood := { row := keysParseRow, standIns := [], harness := (true, "a38e3e8efaeadc1fdea13a4b3d090fc0a8c1e8d0e136c5ac13a7e067d138df0e"), looks := true }, kinds := [], alts := [], laidByText := true, laidKinds := [.data, .pinned], laidTests := true, laidLooks := .later }
def KeysParseCardSaid : Prop := Claim7.holds Tryd.pinned (.plain (OpenSpec.ofChange keysParseSpec)) keysParseCard

/-- THE TIED CARD OF 'pigeonrylaw18.KeysParts'. -/
def keysPartsCard : Claim7 := { stood := { row := keysPartsRow, standIns := [], harness := (true, "a38e3e8efaeadc1fdea13a4b3d090fc0a8c1e8d0e136c5ac13a7e067d138df0e"), looks := true }, kinds := [], alts := [], laidByText := true, laidKinds := [.data, .pinned], laidTests := true, laidLooks := .later }
def KeysPartsCardSaid : Prop := Claim7.holds Tryd.pinned (.plain (OpenSpec.ofChange keysPartsSpec)) keysPartsCard

/-- THE TIED CARD OF 'pigeonrylaw18.KeysFloats'. -/
def keysFloatsCard : Claim7 := { stood := { row := keysFloatsRow, standIns := [], harness := (true, "a38e3e8efaeadc1fdea13a4b3d090fc0a8c1e8d0e136c5ac13a7e067d138df0e"), looks := true }, kinds := [], alts := [], laidByText := true, laidKinds := [.data, .pinned], laidTests := true, laidLooks := .later }
def KeysFloatsCardSaid : Prop := Claim7.holds Tryd.pinned (.plain (OpenSpec.ofChange keysFloatsSpec)) keysFloatsCard

/-- THE TIED CARD OF 'pigeonrylaw18.KeysRaw'. -/
def keysRawCard : Claim7 := { stood := { row := keysRawRow, standIns := [], harness := (true, "a38e3e8efaeadc1fdea13a4b3d090fc0a8c1e8d0e136c5ac13a7e067d138df0e"), looks := true }, kinds := [], alts := [], laidByText := true, laidKinds := [.data, .pinned], laidTests := true, laidLooks := .later }
def KeysRawCardSaid : Prop := Claim7.holds Tryd.pinned (.plain (OpenSpec.ofChange keysRawSpec)) keysRawCard

/-- THE TIED CARD OF 'pigeonrylaw18.KeysPrefix'. -/
def keysPrefixCard : Claim7 := { stood := { row := keysPrefixRow, standIns := [], harness := (true, "a38e3e8efaeadc1fdea13a4b3d090fc0a8c1e8d0e136c5ac13a7e067d138df0e"), looks := true }, kinds := [], alts := [], laidByText := true, laidKinds := [.data, .pinned], laidTests := true, laidLooks := .later }
def KeysPrefixCardSaid : Prop := Claim7.holds Tryd.pinned (.plain (OpenSpec.ofChange keysPrefixSpec)) keysPrefixCard

/-- THE TIED CARD OF 'pigeonrylaw18.KeysOrder'. -/
def keysOrderCard : Claim7 := { stood := { row := keysOrderRow, standIns := [], harness := (true, "a38e3e8efaeadc1fdea13a4b3d090fc0a8c1e8d0e136c5ac13a7e067d138df0e"), looks := true }, kinds := [], alts := [], laidByText := true, laidKinds := [.data, .pinned], laidTests := true, laidLooks := .later }
def KeysOrderCardSaid : Prop := Claim7.holds Tryd.pinned (.plain (OpenSpec.ofChange keysOrderSpec)) keysOrderCard

/-- THE SECOND FORM's CARD OF 'pigeonrylaw18.KeysParse'. -/
def keysParseUptoCard : Claim7 := { stood := { row := keysParseUptoRow, standIns := [], harness := (true, "a38e3e8efaeadc1fdea13a4b3d090fc0a8c1e8d0e136c5ac13a7e067d138df0e"), looks := true }, kinds := [], alts := [], laidByText := true, laidKinds := [.data, .pinned], laidTests := true, laidLooks := .later }
def KeysParseUptoCardSaid : Prop := Claim7.holds Tryd.pinned (.plain (OpenSpec.upto keysParseSpec)) keysParseUptoCard

/-- THE SECOND FORM's CARD OF 'pigeonrylaw18.KeysParts'. -/
def keysPartsUptoCard : Claim7 := { stood := { row := keysPartsUptoRow, standIns := [], harness := (true, "a38e3e8efaeadc1fdea13a4b3d090fc0a8c1e8d0e136c5ac13a7e067d138df0e"), looks := true }, kinds := [], alts := [], laidByText := true, laidKinds := [.data, .pinned], laidTests := true, laidLooks := .later }
def KeysPartsUptoCardSaid : Prop := Claim7.holds Tryd.pinned (.plain (OpenSpec.upto keysPartsSpec)) keysPartsUptoCard

/-- THE SECOND FORM's CARD OF 'pigeonrylaw18.KeysFloats'. -/
def keysFloatsUptoCard : Claim7 := { stood := { row := keysFloatsUptoRow, standIns := [], harness := (true, "a38e3e8efaeadc1fdea13a4b3d090fc0a8c1e8d0e136c5ac13a7e067d138df0e"), looks := true }, kinds := [], alts := [], laidByText := true, laidKinds := [.data, .pinned], laidTests := true, laidLooks := .later }
def KeysFloatsUptoCardSaid : Prop := Claim7.holds Tryd.pinned (.plain (OpenSpec.upto keysFloatsSpec)) keysFloatsUptoCard

/-- THE SECOND FORM's CARD OF 'pigeonrylaw18.KeysRaw'. -/
def keysRawUptoCard : Claim7 := { stood := { row := keysRawUptoRow, standIns := [], harness := (true, "a38e3e8efaeadc1fdea13a4b3d090fc0a8c1e8d0e136c5ac13a7e067d138df0e"), looks := true }, kinds := [], alts := [], laidByText := true, laidKinds := [.data, .pinned], laidTests := true, laidLooks := .later }
def KeysRawUptoCardSaid : Prop := Claim7.holds Tryd.pinned (.plain (OpenSpec.upto keysRawSpec)) keysRawUptoCard

/-- THE SECOND FORM's CARD OF 'pigeonrylaw18.KeysPrefix'. -/
def keysPrefixUptoCard : Claim7 := { stood := { row := keysPrefixUptoRow, standIns := [], harness := (true, "a38e3e8efaeadc1fdea13a4b3d090fc0a8c1e8d0e136c5ac13a7e067d138df0e"), looks := true }, kinds := [], alts := [], laidByText := true, laidKinds := [.data, .pinned], laidTests := true, laidLooks := .later }
def KeysPrefixUptoCardSaid : Prop := Claim7.holds Tryd.pinned (.plain (OpenSpec.upto keysPrefixSpec)) keysPrefixUptoCard

/-- THE SECOND FORM's CARD OF 'pigeonrylaw18.KeysOrder'. -/
def keysOrderUptoCard : Claim7 := { stood := { row := keysOrderUptoRow, standIns := [], harness := (true, "a38e3e8efaeadc1fdea13a4b3d090fc0a8c1e8d0e136c5ac13a7e067d138df0e"), looks := true }, kinds := [], alts := [], laidByText := true, laidKinds := [.data, .pinned], laidTests := true, laidLooks := .later }
def KeysOrderUptoCardSaid : Prop := Claim7.holds Tryd.pinned (.plain (OpenSpec.upto keysOrderSpec)) keysOrderUptoCard
end Rows
end Go.Proofs.YtckmlmedhchpaaaDoor
