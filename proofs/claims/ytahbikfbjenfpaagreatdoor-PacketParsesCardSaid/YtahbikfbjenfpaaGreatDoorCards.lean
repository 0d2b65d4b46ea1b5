/-
  DERIVED. GIVEN WITH THE SEED: THE CARDS: each row of YtahbikfbjenfpaaGreatDoorRows.lean that lists a variable, with what it lists TIED to the program's text (the seventh form; the later family's looks); each row that meets fmt, with fmt's text TOLD by the authors' own Lean function (tested against real Go, not proved from fmt's source: count such statements apart). THE CARD IS WHAT COUNTS. Prove the row's statement (the work); the ties are given (YtahbikfbjenfpaaGreatDoorTie.lean); close each card by the builder's one call (the guide's Derived/Test/ToyasCard.lean, 'card_holds'). Laid BY PROGRAM, IN A SANDBOX (cutbox-door.mjs). By AI agents, Wed Nov 11 2026. No macro, syntax, notation, axiom, sorry.
-/
import Derived.Test.YtahbikfbjenfpaaGreatDoorRows
import GoSem.ClaimSeven
namespace Go.Proofs.YtahbikfbjenfpaaGreatDoor
namespace Rows

/-- THE TIED CARD OF 'pigeonrylaw16.PacketRaws'. -/
def packetRawsCard : Claim7 := { stood := { row := packetRawsRow, standIns := [], harness := (true, "121b76a5e4793a0b91d74236c7503857d424352ef666f91030ae3c8c1a8ebba7"), looks := true }, kinds := [], alts := [], laidByText := true, laidKinds := [.data, .pinned], laidTests := true, laidLooks := .later }
def PacketRawsCardSaid : Prop := Claim7.holds Tryz.pinned (.plain (OpenSpec.ofChange packetRawsSpec)) packetRawsCard

/-- THE TIED CARD OF 'pigeonrylaw16.PacketParses'. -/
def packetParsesCard : Claim7 := { stood := { row := packetParsesRow, standIns := [], harness := (true, "121b76a5e4793a0b91d74236c7503857d424352ef666f91030ae3c8c1a8ebba7"), looks := true }, kinds := [], alts := [], laidByText := true, laidKinds := [.data, .pinned], laidTests := true, laidLooks := .later }
def PacketParsesCardSaid : Prop := Claim7.holds Tryz.pinned (.plain (OpenSpec.ofChange packetParsesSpec)) packetParsesCard

/-- THE TIED CARD OF 'pigeonrylaw16.PacketApart'. -/
def packetApartCard : Claim7 := { stood := { row := packetApartRow, standIns := [], harness := (true, "121b76a5e4793a0b91d74236c7503857d424352ef666f91030ae3c8c1a8ebba7"), looks := true }, kinds := [], alts := [], laidByText := true, laidKinds := [.data, .pinned], laidTests := true, laidLooks := .later }
def PacketApartCardSaid : Prop := Claim7.holds Tryz.pinned (.plain (OpenSpec.ofChange packetApartSpec)) packetApartCard

/-- THE TIED CARD OF 'pigeonrylaw16.PacketFlags'. -/
def packetFlagsCard : Claim7 := { stood := { row := packetFlagsRow, standIns := [], harness := (true, "121b76a5e4793a0b91d74236c7503857d424352ef666f91030ae3c8c1a8ebba7"), looks := true }, kinds := [], alts := [], laidByText := true, laidKinds := [.data, .pinned], laidTests := true, laidLooks := .later }
def PacketFlagsCardSaid : Prop := Claim7.holds Tryz.pinned (.plain (OpenSpec.ofChange packetFlagsSpec)) packetFlagsCard

/-- THE TIED CARD OF 'pigeonrylaw16.PacketLists'. -/
def packetListsCard : Claim7 := { stood := { row := packetListsRow, standIns := [], harness := (true, "121b76a5e4793a0b91d74236c7503857d424352ef666f91030ae3c8c1a8ebba7"), looks := true }, kinds := [], alts := [], laidByText := true, laidKinds := [.data, .pinned], laidTests := true, laidLooks := .later }
def PacketListsCardSaid : Prop := Claim7.holds Tryz.pinned (.plain (OpenSpec.ofChange packetListsSpec)) packetListsCard

/-- THE TIED CARD OF 'pigeonrylaw16.PacketKinds'. -/
def packetKindsCard : Claim7 := { stood := { row := packetKindsRow, standIns := [], harness := (true, "121b76a5e4793a0b91d74236c7503857d424352ef666f91030ae3c8c1a8ebba7"), looks := true }, kinds := [], alts := [], laidByText := true, laidKinds := [.data, .pinned], laidTests := true, laidLooks := .later }
def PacketKindsCardSaid : Prop := Claim7.holds Tryz.pinned (.plain (OpenSpec.ofChange packetKindsSpec)) packetKindsCard

/-- THE SECOND FORM's CARD OF 'pigeonrylaw16.PacketRaws'. -/
def packetRawsUptoCard : Claim7 := { stood := { row := packetRawsUptoRow, standIns := [], harness := (true, "121b76a5e4793a0b91d74236c7503857d424352ef666f91030ae3c8c1a8ebba7"), looks := true }, kinds := [], alts := [], laidByText := true, laidKinds := [.data, .pinned], laidTests := true, laidLooks := .later }
def PacketRawsUptoCardSaid : Prop := Claim7.holds Tryz.pinned (.plain (OpenSpec.upto packetRawsSpec)) packetRawsUptoCard

/-- THE SECOND FORM's CARD OF 'pigeonrylaw16.PacketParses'. -/
def packetParsesUptoCard : Claim7 := { stood := { row := packetParsesUptoRow, standIns := [], harness := (true, "121b76a5e4793a0b91d74236c7503857d424352ef666f91030ae3c8c1a8ebba7"), looks := true }, kinds := [], alts := [], laidByText := true, laidKinds := [.data, .pinned], laidTests := true, laidLooks := .later }
def PacketParsesUptoCardSaid : Prop := Claim7.holds Tryz.pinned (.plain (OpenSpec.upto packetParsesSpec)) packetParsesUptoCard

/-- THE SECOND FORM's CARD OF 'pigeonrylaw16.PacketApart'. -/
def packetApartUptoCard : Claim7 := { stood := { row := packetApartUptoRow, standIns := [], harness := (true, "121b76a5e4793a0b91d74236c7503857d424352ef666f91030ae3c8c1a8ebba7"), looks := true }, kinds := [], alts := [], laidByText := true, laidKinds := [.data, .pinned], laidTests := true, laidLooks := .later }
def PacketApartUptoCardSaid : Prop := Claim7.holds Tryz.pinned (.plain (OpenSpec.upto packetApartSpec)) packetApartUptoCard

/-- THE SECOND FORM's CARD OF 'pigeonrylaw16.PacketFlags'. -/
def packetFlagsUptoCard : Claim7 := { stood := { row := packetFlagsUptoRow, standIns := [], harness := (true, "121b76a5e4793a0b91d74236c7503857d424352ef666f91030ae3c8c1a8ebba7"), looks := true }, kinds := [], alts := [], laidByText := true, laidKinds := [.data, .pinned], laidTests := true, laidLooks := .later }
def PacketFlagsUptoCardSaid : Prop := Claim7.holds Tryz.pinned (.plain (OpenSpec.upto packetFlagsSpec)) packetFlagsUptoCard

/-- THE SECOND FORM's CARD OF 'pigeonrylaw16.PacketLists'. -/
def packetListsUptoCard : Claim7 := { stood := { row := packetListsUptoRow, standIns := [], harness := (true, "121b76a5e4793a0b91d74236c7503857d424352ef666f91030ae3c8c1a8ebba7"), looks := true }, kinds := [], alts := [], laidByText := true, laidKinds := [.data, .pinned], laidTests := true, laidLooks := .later }
def PacketListsUptoCardSaid : Prop := Claim7.holds Tryz.pinned (.plain (OpenSpec.upto packetListsSpec)) packetListsUptoCard

/-- THE SECOND FORM's CARD OF 'pigeonrylaw16.PacketKinds'. -/
def packetKindsUptoCard : Claim7 := { stood := { row := packetKindsUptoRow, standIns := [], harness := (true, "121b76a5e4793a0b91d74236c7503857d424352ef666f91030ae3c8c1a8ebba7"), looks := true }, kinds := [], alts := [], laidByText := true, laidKinds := [.data, .pinned], laidTests := true, laidLooks := .later }
def PacketKindsUptoCardSaid : Prop := Claim7.holds Tryz.pinned (.plain (OpenSpec.upto packetKindsSpec)) packetKindsUptoCard
end Rows
end Go.Proofs.YtahbikfbjenfpaaGreatDoor
