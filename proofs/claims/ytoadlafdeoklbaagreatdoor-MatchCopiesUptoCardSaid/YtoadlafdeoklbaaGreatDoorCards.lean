/-
  DERIVED. GIVEN WITH THE SEED: THE CARDS: each row of YtoadlafdeoklbaaGreatDoorRows.lean that lists a variable, with what it lists TIED to the program's text (the seventh form; the later family's looks); each row that meets fmt, with fmt's text TOLD by the authors' own Lean function (tested against real Go, not proved from fmt's source: count such statements apart). THE CARD IS WHAT COUNTS. Prove the row's statement (the work); the ties are given (YtoadlafdeoklbaaGreatDoorTie.lean); close each card by the builder's one call (the guide's Derived/Test/ToyasCard.lean, 'card_holds'). Laid BY PROGRAM, IN A SANDBOX (cutbox-door.mjs). By AI agents, Wed Nov 11 2026. No macro, syntax, notation, axiom, sorry.
-/
import Derived.Test.YtoadlafdeoklbaaGreatDoorRows
import GoSem.ClaimSeven
namespace Go.Proofs.YtoadlafdeoklbaaGreatDoor
namespace Rows

/-- THE TIED CARD OF 'pigeonrylaw14.MatchAlone'. -/
def matchAloneCard : Claim7 := { stood := { row := matchAloneRow, standIns := [], harness := (true, "8aba75f6cf905f1fbdc825d9b5b5d2b4c5aef33c24cc08716c5c9dd843677c45"), looks := false }, kinds := [], alts := [], laidByText := true, laidKinds := [.data, .pinned], laidTests := true, laidLooks := .later }
def MatchAloneCardSaid : Prop := Claim7.holds Tryz.pinned (.plain (OpenSpec.ofChange matchAloneSpec)) matchAloneCard

/-- THE TIED CARD OF 'pigeonrylaw14.MatchOrders'. -/
def matchOrdersCard : Claim7 := { stood := { row := matchOrdersRow, standIns := [], harness := (true, "8aba75f6cf905f1fbdc825d9b5b5d2b4c5aef33c24cc08716c5c9dd843677c45"), looks := false }, kinds := [], alts := [], laidByText := true, laidKinds := [.data, .pinned], laidTests := true, laidLooks := .later }
def MatchOrdersCardSaid : Prop := Claim7.holds Tryz.pinned (.plain (OpenSpec.ofChange matchOrdersSpec)) matchOrdersCard

/-- THE TIED CARD OF 'pigeonrylaw14.MatchPlay'. -/
def matchPlayCard : Claim7 := { stood := { row := matchPlayRow, standIns := [], harness := (true, "8aba75f6cf905f1fbdc825d9b5b5d2b4c5aef33c24cc08716c5c9dd843677c45"), looks := false }, kinds := [], alts := [], laidByText := true, laidKinds := [.data, .pinned], laidTests := true, laidLooks := .later }
def MatchPlayCardSaid : Prop := Claim7.holds Tryz.pinned (.plain (OpenSpec.ofChange matchPlaySpec)) matchPlayCard

/-- THE TIED CARD OF 'pigeonrylaw14.MatchCopies'. -/
def matchCopiesCard : Claim7 := { stood := { row := matchCopiesRow, standIns := [], harness := (true, "8aba75f6cf905f1fbdc825d9b5b5d2b4c5aef33c24cc08716c5c9dd843677c45"), looks := false }, kinds := [], alts := [], laidByText := true, laidKinds := [.data, .pinned], laidTests := true, laidLooks := .later }
def MatchCopiesCardSaid : Prop := Claim7.holds Tryz.pinned (.plain (OpenSpec.ofChange matchCopiesSpec)) matchCopiesCard

/-- THE TIED CARD OF 'pigeonrylaw14.MatchNil'. -/
def matchNilCard : Claim7 := { stood := { row := matchNilRow, standIns := [], harness := (true, "8aba75f6cf905f1fbdc825d9b5b5d2b4c5aef33c24cc08716c5c9dd843677c45"), looks := false }, kinds := [], alts := [], laidByText := true, laidKinds := [.data, .pinned], laidTests := true, laidLooks := .later }
def MatchNilCardSaid : Prop := Claim7.holds Tryz.pinned (.plain (OpenSpec.ofChange matchNilSpec)) matchNilCard

/-- THE SECOND FORM's CARD OF 'pigeonrylaw14.MatchAlone'. -/
def matchAloneUptoCard : Claim7 := { stood := { row := matchAloneUptoRow, standIns := [], harness := (true, "8aba75f6cf905f1fbdc825d9b5b5d2b4c5aef33c24cc08716c5c9dd843677c45"), looks := false }, kinds := [], alts := [], laidByText := true, laidKinds := [.data, .pinned], laidTests := true, laidLooks := .later }
def MatchAloneUptoCardSaid : Prop := Claim7.holds Tryz.pinned (.plain (OpenSpec.upto matchAloneSpec)) matchAloneUptoCard

/-- THE SECOND FORM's CARD OF 'pigeonrylaw14.MatchOrders'. -/
def matchOrdersUptoCard : Claim7 := { stood := { row := matchOrdersUptoRow, standIns := [], harness := (true, "8aba75f6cf905f1fbdc825d9b5b5d2b4c5aef33c24cc08716c5c9dd843677c45"), looks := false }, kinds := [], alts := [], laidByText := true, laidKinds := [.data, .pinned], laidTests := true, laidLooks := .later }
def MatchOrdersUptoCardSaid : Prop := Claim7.holds Tryz.pinned (.plain (OpenSpec.upto matchOrdersSpec)) matchOrdersUptoCard

/-- THE SECOND FORM's CARD OF 'pigeonrylaw14.MatchPlay'. -/
def matchPlayUptoCard : Claim7 := { stood := { row := matchPlayUptoRow, standIns := [], harness := (true, "8aba75f6cf905f1fbdc825d9b5b5d2b4c5aef33c24cc08716c5c9dd843677c45"), looks := false }, kinds := [], alts := [], laidByText := true, laidKinds := [.data, .pinned], laidTests := true, laidLooks := .later }
def MatchPlayUptoCardSaid : Prop := Claim7.holds Tryz.pinned (.plain (OpenSpec.upto matchPlaySpec)) matchPlayUptoCard

/-- THE SECOND FORM's CARD OF 'pigeonrylaw14.MatchCopies'. -/
def matchCopiesUptoCard : Claim7 := { stood := { row := matchCopiesUptoRow, standIns := [], harness := (true, "8aba75f6cf905f1fbdc825d9b5b5d2b4c5aef33c24cc08716c5c9dd843677c45"), looks := false }, kinds := [], alts := [], laidByText := true, laidKinds := [.data, .pinned], laidTests := true, laidLooks := .later }
def MatchCopiesUptoCardSaid : Prop := Claim7.holds Tryz.pinned (.plain (OpenSpec.upto matchCopiesSpec)) matchCopiesUptoCard

/-- THE SECOND FORM's CARD OF 'pigeonrylaw14.MatchNil'. -/
def matchNilUptoCard : Claim7 := { stood := { row := matchNilUptoRow, standIns := [], harness := (true, "8aba75f6cf905f1fbdc825d9b5b5d2b4c5aef33c24cc08716c5c9dd843677c45"), looks := false }, kinds := [], alts := [], laidByText := true, laidKinds := [.data, .pinned], laidTests := true, laidLooks := .later }
def MatchNilUptoCardSaid : Prop := Claim7.holds Tryz.pinned (.plain (OpenSpec.upto matchNilSpec)) matchNilUptoCard
end Rows
end Go.Proofs.YtoadlafdeoklbaaGreatDoor
