/-
  DERIVED. GIVEN WITH THE SEED: THE CARDS: each row of YtoadlafdeoklbaaDoorRows.lean that lists a variable, with what it lists TIED to the program's text (the seventh form; the later family's looks); each row that meets fmt, with fmt's text TOLD by the authors' own Lean function (tested against real Go, not proved from fmt's source: count such statements apart). THE CARD IS WHAT COUNTS. Prove the row's statement (the work); the ties are given (YtoadlafdeoklbaaDoorTie.lean); close each card by the builder's one call (the guide's Derived/Test/ToyasCard.lean, 'card_holds'). Laid BY PROGRAM, IN A SANDBOX (cutbox-door.mjs). By AI agents, Wed Nov 11 2026. No macro, syntax, notation, axiom, sorry.
-/
import Derived.Test.YtoadlafdeoklbaaDoorRows
import GoSem.ClaimSeven
namespace Go.Proofs.YtoadlafdeoklbaaDoor
namespace Rows

/-- THE TIED CARD OF 'pigeonrylaw14.MatchMany'. -/
def matchManyCard : Claim7 := { stood := { row := matchManyRow, standIns := [], harness := (true, "ccfae962b710905c7876c255680e84cf81977dab4f2ad78727feba80a6009517"), looks := false }, kinds := [], alts := [], laidByText := true, laidKinds := [.data, .pinned], laidTests := true, laidLooks := .later }
def MatchManyCardSaid : Prop := Claim7.holds Tryd.pinned (.plain (OpenSpec.ofChange matchManySpec)) matchManyCard

/-- THE SECOND FORM's CARD OF 'pigeonrylaw14.MatchMany'. -/
def matchManyUptoCard : Claim7 := { stood := { row := matchManyUptoRow, standIns := [], harness := (true, "ccfae962b710905c7876c255680e84cf81977dab4f2ad78727feba80a6009517"), looks := false }, kinds := [], alts := [], laidByText := true, laidKinds := [.data, .pinned], laidTests := true, laidLooks := .later }
def MatchManyUptoCardSaid : Prop := Claim7.holds Tryd.pinned (.plain (OpenSpec.upto matchManySpec)) matchManyUptoCard
end Rows
end Go.Proofs.YtoadlafdeoklbaaDoor
