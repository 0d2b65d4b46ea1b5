/-
  NARROWER THAN 'FOR EVERY INPUT', by the rows' own cells (each row's printed sentence says how): TopicMeets: laid · TopicWithin: laid · TopicThree: laid · TopicTells: laid · TopicSigns: laid.
  DERIVED. THE GIVEN ROWS OF THIS SEAT. 5 by the template 'for every input the law returns true; each argument reads behind the call as it read before'; 0 by the template 'total and deterministic' (their statements: YtbjoobanbejgbaaDoorTotals.lean).
  GIVEN WITH THE SEED: the statements are not yours to turn. If you find one false, say at which input.
  Laid BY PROGRAM, IN A SANDBOX (cutbox-rows.mjs): the forced cells as the released guide's own fill.sh prints them over the translation 5c72bb8bae819a1f… (all of the seat's roots in one cut). By AI agents, Wed Nov 11 2026. No macro, syntax, notation, axiom, sorry.
-/
import Derived.Test.YtbjoobanbejgbaaDoorChecked
import GoSem.PinnedTables
import GoSem.Claim
import GoSem.ClaimJoined
import GoSem.ClaimMapViews
import Derived.JoinedTies
import Derived.KernelRfl
namespace Go.Proofs.YtbjoobanbejgbaaDoor
/- THE CELL 'sum', in the pinned program and in every row, IS THE sha256 OF THE DUMP (.gsa) THAT YtbjoobanbejgbaaDoorProg.lean LOADS. Nothing in Lean hashes anything: it is a label: what it is worth is what the hold of that sum in a sandbox is worth. -/
noncomputable def Tryd.pinned : Pinned := { name := "ytbjoobanbejgbaadoor", sum := "5c72bb8bae819a1fc9746b3880e745c3507379d4267df08fd2cbd674dc117fbe", checked := Tryd.checked }
namespace Rows
def none {H : Type} : Left H := { results := [], args := [] }

/- WHAT THE LISTED PACKAGE-LEVEL VARIABLES READ AS WHEN THE CALL BEGINS. Each datum BY PROGRAM (the guide's laid-datum.mjs) off the statement by which the dump's own 'gosem.cut.vars' lays the variable. In a bare row this is a premise. The card (YtbjoobanbejgbaaDoorCards.lean) ties it to the program's text. -/
def laid_unicode_utf8_acceptRanges {H : Type} : DataW H := .agg [.agg [.lit (.int .u8 128), .lit (.int .u8 191)], .agg [.lit (.int .u8 160), .lit (.int .u8 191)], .agg [.lit (.int .u8 128), .lit (.int .u8 159)], .agg [.lit (.int .u8 144), .lit (.int .u8 191)], .agg [.lit (.int .u8 128), .lit (.int .u8 143)], .agg [.lit (.int .u8 0), .lit (.int .u8 0)], .agg [.lit (.int .u8 0), .lit (.int .u8 0)], .agg [.lit (.int .u8 0), .lit (.int .u8 0)], .agg [.lit (.int .u8 0), .lit (.int .u8 0)], .agg [.lit (.int .u8 0), .lit (.int .u8 0)], .agg [.lit (.int .u8 0), .lit (.int .u8 0)], .agg [.lit (.int .u8 0), .lit (.int .u8 0)], .agg [.lit (.int .u8 0), .lit (.int .u8 0)], .agg [.lit (.int .u8 0), .lit (.int .u8 0)], .agg [.lit (.int .u8 0), .lit (.int .u8 0)], .agg [.lit (.int .u8 0), .lit (.int .u8 0)]]
/-- One of Go's own tables, pinned by name: the form's constant. -/
def laid_unicode_utf8_first : DataW Unit := Go.Pinned.utf8First

/-- 'pigeonrylaw13.TopicMeets': WHATEVER THE INPUT: true; the input reads as it did. -/
def topicMeetsSpec : ChangeSpec := { name := "topicMeets", fn := fun _ => fun
  | [d1, d2] => { results := [.lit (.bool true)], args := [d1, d2] }
  | _ => none }
def topicMeetsRow : OpenClaim := { program := "ytbjoobanbejgbaadoor", sum := "5c72bb8bae819a1fc9746b3880e745c3507379d4267df08fd2cbd674dc117fbe", func := "pigeonry/pigeonrylaw13.TopicMeets", spec := "topicMeets", inPlace := ["internal/bytealg.CountString", "internal/bytealg.IndexByteString", "internal/bytealg.IndexString"], unfollowed := true, recurses := true, named := ["unicode/utf8.first", "unicode/utf8.acceptRanges", "internal/bytealg.MaxLen"], apart := false, laid := [("unicode/utf8.acceptRanges", laid_unicode_utf8_acceptRanges), ("unicode/utf8.first", laid_unicode_utf8_first)] }
def TopicMeetsSaid : Prop := topicMeetsRow.holds Tryd.pinned (OpenSpec.ofChange topicMeetsSpec)

/-- ITS FALSE NEIGHBOUR: 'it returns false'. Refute it at one input. -/
def topicMeetsWrong : ChangeSpec := { name := "topicMeets", fn := fun _ => fun
  | [d1, d2] => { results := [.lit (.bool false)], args := [d1, d2] }
  | _ => none }
def TopicMeetsWrongFalsely : Prop := topicMeetsRow.holds Tryd.pinned (OpenSpec.ofChange topicMeetsWrong)

/-- 'pigeonrylaw13.TopicWithin': WHATEVER THE INPUT: true; the input reads as it did. -/
def topicWithinSpec : ChangeSpec := { name := "topicWithin", fn := fun _ => fun
  | [d1, d2, d3] => { results := [.lit (.bool true)], args := [d1, d2, d3] }
  | _ => none }
def topicWithinRow : OpenClaim := { program := "ytbjoobanbejgbaadoor", sum := "5c72bb8bae819a1fc9746b3880e745c3507379d4267df08fd2cbd674dc117fbe", func := "pigeonry/pigeonrylaw13.TopicWithin", spec := "topicWithin", inPlace := ["internal/bytealg.CountString", "internal/bytealg.IndexByteString", "internal/bytealg.IndexString"], unfollowed := true, recurses := true, named := ["unicode/utf8.first", "unicode/utf8.acceptRanges", "internal/bytealg.MaxLen"], apart := false, laid := [("unicode/utf8.acceptRanges", laid_unicode_utf8_acceptRanges), ("unicode/utf8.first", laid_unicode_utf8_first)] }
def TopicWithinSaid : Prop := topicWithinRow.holds Tryd.pinned (OpenSpec.ofChange topicWithinSpec)

/-- ITS FALSE NEIGHBOUR: 'it returns false'. Refute it at one input. -/
def topicWithinWrong : ChangeSpec := { name := "topicWithin", fn := fun _ => fun
  | [d1, d2, d3] => { results := [.lit (.bool false)], args := [d1, d2, d3] }
  | _ => none }
def TopicWithinWrongFalsely : Prop := topicWithinRow.holds Tryd.pinned (OpenSpec.ofChange topicWithinWrong)

/-- 'pigeonrylaw13.TopicThree': WHATEVER THE INPUT: true; the input reads as it did. -/
def topicThreeSpec : ChangeSpec := { name := "topicThree", fn := fun _ => fun
  | [d1, d2, d3] => { results := [.lit (.bool true)], args := [d1, d2, d3] }
  | _ => none }
def topicThreeRow : OpenClaim := { program := "ytbjoobanbejgbaadoor", sum := "5c72bb8bae819a1fc9746b3880e745c3507379d4267df08fd2cbd674dc117fbe", func := "pigeonry/pigeonrylaw13.TopicThree", spec := "topicThree", inPlace := ["internal/bytealg.CountString", "internal/bytealg.IndexByteString", "internal/bytealg.IndexString"], unfollowed := true, recurses := true, named := ["unicode/utf8.first", "unicode/utf8.acceptRanges", "internal/bytealg.MaxLen"], apart := false, laid := [("unicode/utf8.acceptRanges", laid_unicode_utf8_acceptRanges), ("unicode/utf8.first", laid_unicode_utf8_first)] }
def TopicThreeSaid : Prop := topicThreeRow.holds Tryd.pinned (OpenSpec.ofChange topicThreeSpec)

/-- ITS FALSE NEIGHBOUR: 'it returns false'. Refute it at one input. -/
def topicThreeWrong : ChangeSpec := { name := "topicThree", fn := fun _ => fun
  | [d1, d2, d3] => { results := [.lit (.bool false)], args := [d1, d2, d3] }
  | _ => none }
def TopicThreeWrongFalsely : Prop := topicThreeRow.holds Tryd.pinned (OpenSpec.ofChange topicThreeWrong)

/-- 'pigeonrylaw13.TopicTells': WHATEVER THE INPUT: true; the input reads as it did. -/
def topicTellsSpec : ChangeSpec := { name := "topicTells", fn := fun _ => fun
  | [d] => { results := [.lit (.bool true)], args := [d] }
  | _ => none }
def topicTellsRow : OpenClaim := { program := "ytbjoobanbejgbaadoor", sum := "5c72bb8bae819a1fc9746b3880e745c3507379d4267df08fd2cbd674dc117fbe", func := "pigeonry/pigeonrylaw13.TopicTells", spec := "topicTells", inPlace := ["internal/bytealg.CountString", "internal/bytealg.IndexByteString", "internal/bytealg.IndexString"], unfollowed := true, recurses := true, named := ["unicode/utf8.first", "unicode/utf8.acceptRanges", "internal/bytealg.MaxLen"], apart := false, laid := [("unicode/utf8.acceptRanges", laid_unicode_utf8_acceptRanges), ("unicode/utf8.first", laid_unicode_utf8_first)] }
def TopicTellsSaid : Prop := topicTellsRow.holds Tryd.pinned (OpenSpec.ofChange topicTellsSpec)

/-- ITS FALSE NEIGHBOUR: 'it returns false'. Refute it at one input. -/
def topicTellsWrong : ChangeSpec := { name := "topicTells", fn := fun _ => fun
  | [d] => { results := [.lit (.bool false)], args := [d] }
  | _ => none }
def TopicTellsWrongFalsely : Prop := topicTellsRow.holds Tryd.pinned (OpenSpec.ofChange topicTellsWrong)

/-- 'pigeonrylaw13.TopicSigns': WHATEVER THE INPUT: true; the input reads as it did. -/
def topicSignsSpec : ChangeSpec := { name := "topicSigns", fn := fun _ => fun
  | [d1, d2] => { results := [.lit (.bool true)], args := [d1, d2] }
  | _ => none }
def topicSignsRow : OpenClaim := { program := "ytbjoobanbejgbaadoor", sum := "5c72bb8bae819a1fc9746b3880e745c3507379d4267df08fd2cbd674dc117fbe", func := "pigeonry/pigeonrylaw13.TopicSigns", spec := "topicSigns", inPlace := ["internal/bytealg.CountString", "internal/bytealg.IndexByteString", "internal/bytealg.IndexString"], unfollowed := true, recurses := true, named := ["unicode/utf8.first", "unicode/utf8.acceptRanges", "internal/bytealg.MaxLen"], apart := false, laid := [("unicode/utf8.acceptRanges", laid_unicode_utf8_acceptRanges), ("unicode/utf8.first", laid_unicode_utf8_first)] }
def TopicSignsSaid : Prop := topicSignsRow.holds Tryd.pinned (OpenSpec.ofChange topicSignsSpec)

/-- ITS FALSE NEIGHBOUR: 'it returns false'. Refute it at one input. -/
def topicSignsWrong : ChangeSpec := { name := "topicSigns", fn := fun _ => fun
  | [d1, d2] => { results := [.lit (.bool false)], args := [d1, d2] }
  | _ => none }
def TopicSignsWrongFalsely : Prop := topicSignsRow.holds Tryd.pinned (OpenSpec.ofChange topicSignsWrong)

/- THE SECOND FORM. 'bulk': how many values and letters a reading holds, each counted each time it is reached (what is shared counts as often as it is met; a slice's spare places count too). A statement '..UptoSaid' is the law's where the arguments, and the package variables that the reading takes, are together of bulk at most 1048576: NARROWER than '..Said'. Prove '..Said' where nothing that the law and all that it calls make is longer than what came in: it says more and counts as full. Else prove '..UptoSaid'. A law counts once. -/
mutual
def uptoBulk {H : Type} : DataW H → Nat
  | .lit (.string bytes) => bytes.length + 1
  | .lit _ => 1
  | .nil => 1
  | .ptr d => uptoBulk d + 1
  | .slice elems spare => uptoBulkAll elems + uptoBulkAll spare + 1
  | .agg parts => uptoBulkAll parts + 1
  | .iface _ d => uptoBulk d + 1
  | .map entries => uptoBulkEntries entries + 1
  | .held _ => 1
def uptoBulkAll {H : Type} : List (DataW H) → Nat
  | [] => 0
  | d :: r => uptoBulk d + uptoBulkAll r
def uptoBulkEntries {H : Type} : List (Lit × DataW H) → Nat
  | [] => 0
  | x :: r => uptoBulkEntry x + uptoBulkEntries r
def uptoBulkEntry {H : Type} : Lit × DataW H → Nat
  | (.string bytes, d) => bytes.length + uptoBulk d + 1
  | (_, d) => uptoBulk d + 1
 end
def uptoSmall : (H : Type) → List (DataW H) → Bool := fun _ ds => decide (uptoBulkAll ds ≤ 1048576)
def OpenSpec.upto (s : _root_.Go.ChangeSpec) : _root_.Go.OpenSpec := { _root_.Go.OpenSpec.ofChange s with cond := some uptoSmall }

/-- 'pigeonrylaw13.TopicMeets', WHERE WHAT IT READS IS OF BULK AT MOST 1048576: true; the input reads as it did. -/
def topicMeetsUptoRow : OpenClaim := { program := "ytbjoobanbejgbaadoor", sum := "5c72bb8bae819a1fc9746b3880e745c3507379d4267df08fd2cbd674dc117fbe", func := "pigeonry/pigeonrylaw13.TopicMeets", spec := "topicMeets", inPlace := ["internal/bytealg.CountString", "internal/bytealg.IndexByteString", "internal/bytealg.IndexString"], unfollowed := true, recurses := true, named := ["unicode/utf8.first", "unicode/utf8.acceptRanges", "internal/bytealg.MaxLen"], apart := false, laid := [("unicode/utf8.acceptRanges", laid_unicode_utf8_acceptRanges), ("unicode/utf8.first", laid_unicode_utf8_first)], narrowed := true }
def TopicMeetsUptoSaid : Prop := topicMeetsUptoRow.holds Tryd.pinned (OpenSpec.upto topicMeetsSpec)

/-- 'pigeonrylaw13.TopicWithin', WHERE WHAT IT READS IS OF BULK AT MOST 1048576: true; the input reads as it did. -/
def topicWithinUptoRow : OpenClaim := { program := "ytbjoobanbejgbaadoor", sum := "5c72bb8bae819a1fc9746b3880e745c3507379d4267df08fd2cbd674dc117fbe", func := "pigeonry/pigeonrylaw13.TopicWithin", spec := "topicWithin", inPlace := ["internal/bytealg.CountString", "internal/bytealg.IndexByteString", "internal/bytealg.IndexString"], unfollowed := true, recurses := true, named := ["unicode/utf8.first", "unicode/utf8.acceptRanges", "internal/bytealg.MaxLen"], apart := false, laid := [("unicode/utf8.acceptRanges", laid_unicode_utf8_acceptRanges), ("unicode/utf8.first", laid_unicode_utf8_first)], narrowed := true }
def TopicWithinUptoSaid : Prop := topicWithinUptoRow.holds Tryd.pinned (OpenSpec.upto topicWithinSpec)

/-- 'pigeonrylaw13.TopicThree', WHERE WHAT IT READS IS OF BULK AT MOST 1048576: true; the input reads as it did. -/
def topicThreeUptoRow : OpenClaim := { program := "ytbjoobanbejgbaadoor", sum := "5c72bb8bae819a1fc9746b3880e745c3507379d4267df08fd2cbd674dc117fbe", func := "pigeonry/pigeonrylaw13.TopicThree", spec := "topicThree", inPlace := ["internal/bytealg.CountString", "internal/bytealg.IndexByteString", "internal/bytealg.IndexString"], unfollowed := true, recurses := true, named := ["unicode/utf8.first", "unicode/utf8.acceptRanges", "internal/bytealg.MaxLen"], apart := false, laid := [("unicode/utf8.acceptRanges", laid_unicode_utf8_acceptRanges), ("unicode/utf8.first", laid_unicode_utf8_first)], narrowed := true }
def TopicThreeUptoSaid : Prop := topicThreeUptoRow.holds Tryd.pinned (OpenSpec.upto topicThreeSpec)

/-- 'pigeonrylaw13.TopicTells', WHERE WHAT IT READS IS OF BULK AT MOST 1048576: true; the input reads as it did. -/
def topicTellsUptoRow : OpenClaim := { program := "ytbjoobanbejgbaadoor", sum := "5c72bb8bae819a1fc9746b3880e745c3507379d4267df08fd2cbd674dc117fbe", func := "pigeonry/pigeonrylaw13.TopicTells", spec := "topicTells", inPlace := ["internal/bytealg.CountString", "internal/bytealg.IndexByteString", "internal/bytealg.IndexString"], unfollowed := true, recurses := true, named := ["unicode/utf8.first", "unicode/utf8.acceptRanges", "internal/bytealg.MaxLen"], apart := false, laid := [("unicode/utf8.acceptRanges", laid_unicode_utf8_acceptRanges), ("unicode/utf8.first", laid_unicode_utf8_first)], narrowed := true }
def TopicTellsUptoSaid : Prop := topicTellsUptoRow.holds Tryd.pinned (OpenSpec.upto topicTellsSpec)

/-- 'pigeonrylaw13.TopicSigns', WHERE WHAT IT READS IS OF BULK AT MOST 1048576: true; the input reads as it did. -/
def topicSignsUptoRow : OpenClaim := { program := "ytbjoobanbejgbaadoor", sum := "5c72bb8bae819a1fc9746b3880e745c3507379d4267df08fd2cbd674dc117fbe", func := "pigeonry/pigeonrylaw13.TopicSigns", spec := "topicSigns", inPlace := ["internal/bytealg.CountString", "internal/bytealg.IndexByteString", "internal/bytealg.IndexString"], unfollowed := true, recurses := true, named := ["unicode/utf8.first", "unicode/utf8.acceptRanges", "internal/bytealg.MaxLen"], apart := false, laid := [("unicode/utf8.acceptRanges", laid_unicode_utf8_acceptRanges), ("unicode/utf8.first", laid_unicode_utf8_first)], narrowed := true }
def TopicSignsUptoSaid : Prop := topicSignsUptoRow.holds Tryd.pinned (OpenSpec.upto topicSignsSpec)

end Rows
end Go.Proofs.YtbjoobanbejgbaaDoor
