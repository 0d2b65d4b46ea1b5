/-
  DERIVED. GIVEN WITH THE SEED: THE CARDS: each row of YtfglgeoookbppaaGreatDoorRows.lean that lists a variable, with what it lists TIED to the program's text (the seventh form; the later family's looks); each row that meets fmt, with fmt's text TOLD by the authors' own Lean function (tested against real Go, not proved from fmt's source: count such statements apart). THE CARD IS WHAT COUNTS. Prove the row's statement (the work); the ties are given (YtfglgeoookbppaaGreatDoorTie.lean); close each card by the builder's one call (the guide's Derived/Test/ToyasCard.lean, 'card_holds'). Laid BY PROGRAM, IN A SANDBOX (cutbox-door.mjs). By AI agents, Wed Nov 11 2026. No macro, syntax, notation, axiom, sorry.
-/
import Derived.Test.YtfglgeoookbppaaGreatDoorRows
import GoSem.ClaimSeven
namespace Go.Proofs.YtfglgeoookbppaaGreatDoor
namespace Rows

/-- THE TIED CARD OF 'pigeonrylaw19.RecordsOrder'. -/
def recordsOrderCard : Claim7 := { stood := { row := recordsOrderRow, standIns := [], harness := (true, "f8ba58f2a54812a014e611f7cb471de9ae266b2c6518d90f27efd261ed577db5"), looks := true }, kinds := [], alts := [], laidByText := true, laidKinds := [.data, .pinned], laidTests := true, laidLooks := .later }
def RecordsOrderCardSaid : Prop := Claim7.holds Tryz.pinned (.plain (OpenSpec.ofChange recordsOrderSpec)) recordsOrderCard

/-- THE TIED CARD OF 'pigeonrylaw19.RecordsSums'. -/
def recordsSumsCard : Claim7 := { stood := { row := recordsSumsRow, standIns := [], harness := (true, "f8ba58f2a54812a014e611f7cb471de9ae266b2c6518d90f27efd261ed577db5"), looks := true }, kinds := [], alts := [], laidByText := true, laidKinds := [.data, .pinned], laidTests := true, laidLooks := .later }
def RecordsSumsCardSaid : Prop := Claim7.holds Tryz.pinned (.plain (OpenSpec.ofChange recordsSumsSpec)) recordsSumsCard

/-- THE TIED CARD OF 'pigeonrylaw19.RecordsReads'. -/
def recordsReadsCard : Claim7 := { stood := { row := recordsReadsRow, standIns := [], harness := (true, "f8ba58f2a54812a014e611f7cb471de9ae266b2c6518d90f27efd261ed577db5"), looks := true }, kinds := [], alts := [], laidByText := true, laidKinds := [.data, .pinned], laidTests := true, laidLooks := .later }
def RecordsReadsCardSaid : Prop := Claim7.holds Tryz.pinned (.plain (OpenSpec.ofChange recordsReadsSpec)) recordsReadsCard

/-- THE TIED CARD OF 'pigeonrylaw19.RecordsBack'. -/
def recordsBackCard : Claim7 := { stood := { row := recordsBackRow, standIns := [], harness := (true, "f8ba58f2a54812a014e611f7cb471de9ae266b2c6518d90f27efd261ed577db5"), looks := true }, kinds := [], alts := [], laidByText := true, laidKinds := [.data, .pinned], laidTests := true, laidLooks := .later }
def RecordsBackCardSaid : Prop := Claim7.holds Tryz.pinned (.plain (OpenSpec.ofChange recordsBackSpec)) recordsBackCard

/-- THE SECOND FORM's CARD OF 'pigeonrylaw19.RecordsOrder'. -/
def recordsOrderUptoCard : Claim7 := { stood := { row := recordsOrderUptoRow, standIns := [], harness := (true, "f8ba58f2a54812a014e611f7cb471de9ae266b2c6518d90f27efd261ed577db5"), looks := true }, kinds := [], alts := [], laidByText := true, laidKinds := [.data, .pinned], laidTests := true, laidLooks := .later }
def RecordsOrderUptoCardSaid : Prop := Claim7.holds Tryz.pinned (.plain (OpenSpec.upto recordsOrderSpec)) recordsOrderUptoCard

/-- THE SECOND FORM's CARD OF 'pigeonrylaw19.RecordsSums'. -/
def recordsSumsUptoCard : Claim7 := { stood := { row := recordsSumsUptoRow, standIns := [], harness := (true, "f8ba58f2a54812a014e611f7cb471de9ae266b2c6518d90f27efd261ed577db5"), looks := true }, kinds := [], alts := [], laidByText := true, laidKinds := [.data, .pinned], laidTests := true, laidLooks := .later }
def RecordsSumsUptoCardSaid : Prop := Claim7.holds Tryz.pinned (.plain (OpenSpec.upto recordsSumsSpec)) recordsSumsUptoCard

/-- THE SECOND FORM's CARD OF 'pigeonrylaw19.RecordsReads'. -/
def recordsReadsUptoCard : Claim7 := { stood := { row := recordsReadsUptoRow, standIns := [], harness := (true, "f8ba58f2a54812a014e611f7cb471de9ae266b2c6518d90f27efd261ed577db5"), looks := true }, kinds := [], alts := [], laidByText := true, laidKinds := [.data, .pinned], laidTests := true, laidLooks := .later }
def RecordsReadsUptoCardSaid : Prop := Claim7.holds Tryz.pinned (.plain (OpenSpec.upto recordsReadsSpec)) recordsReadsUptoCard

/-- THE SECOND FORM's CARD OF 'pigeonrylaw19.RecordsBack'. -/
def recordsBackUptoCard : Claim7 := { stood := { row := recordsBackUptoRow, standIns := [], harness := (true, "f8ba58f2a54812a014e611f7cb471de9ae266b2c6518d90f27efd261ed577db5"), looks := true }, kinds := [], alts := [], laidByText := true, laidKinds := [.data, .pinned], laidTests := true, laidLooks := .later }
def RecordsBackUptoCardSaid : Prop := Claim7.holds Tryz.pinned (.plain (OpenSpec.upto recordsBackSpec)) recordsBackUptoCard
end Rows
end Go.Proofs.YtfglgeoookbppaaGreatDoor
