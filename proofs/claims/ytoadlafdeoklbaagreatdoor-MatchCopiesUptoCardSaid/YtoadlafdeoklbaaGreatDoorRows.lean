/-
  NARROWER THAN 'FOR EVERY INPUT', by the rows' own cells (each row's printed sentence says how): MatchAlone: laid · MatchOrders: laid · MatchPlay: laid · MatchCopies: laid · MatchNil: laid.
  DERIVED. THE GIVEN ROWS OF THIS SEAT. 5 by the template 'for every input the law returns true; each argument reads behind the call as it read before'; 0 by the template 'total and deterministic' (their statements: YtoadlafdeoklbaaGreatDoorTotals.lean).
  GIVEN WITH THE SEED: the statements are not yours to turn. If you find one false, say at which input.
  Laid BY PROGRAM, IN A SANDBOX (cutbox-rows.mjs): the forced cells as the released guide's own fill.sh prints them over the translation 157d30499ccefca5… (all of the seat's roots in one cut). By AI agents, Wed Nov 11 2026. No macro, syntax, notation, axiom, sorry.
-/
import Derived.Test.YtoadlafdeoklbaaGreatDoorChecked
import GoSem.PinnedTables
import GoSem.Claim
import GoSem.ClaimJoined
import GoSem.ClaimMapViews
import Derived.JoinedTies
import Derived.KernelRfl
namespace Go.Proofs.YtoadlafdeoklbaaGreatDoor
/- THE CELL 'sum', in the pinned program and in every row, IS THE sha256 OF THE DUMP (.gsa) THAT YtoadlafdeoklbaaGreatDoorProg.lean LOADS. Nothing in Lean hashes anything: it is a label: what it is worth is what the hold of that sum in a sandbox is worth. -/
noncomputable def Tryz.pinned : Pinned := { name := "ytoadlafdeoklbaagreatdoor", sum := "157d30499ccefca52fd82aa84228f7bc037f503beba7ac56f3ef094a43c34b5d", checked := Tryz.checked }
namespace Rows
def none {H : Type} : Left H := { results := [], args := [] }

/- WHAT THE LISTED PACKAGE-LEVEL VARIABLES READ AS WHEN THE CALL BEGINS. Each datum BY PROGRAM (the guide's laid-datum.mjs) off the statement by which the dump's own 'gosem.cut.vars' lays the variable. In a bare row this is a premise. The card (YtoadlafdeoklbaaGreatDoorCards.lean) ties it to the program's text. -/
def laid_unicode_utf8_acceptRanges {H : Type} : DataW H := .agg [.agg [.lit (.int .u8 128), .lit (.int .u8 191)], .agg [.lit (.int .u8 160), .lit (.int .u8 191)], .agg [.lit (.int .u8 128), .lit (.int .u8 159)], .agg [.lit (.int .u8 144), .lit (.int .u8 191)], .agg [.lit (.int .u8 128), .lit (.int .u8 143)], .agg [.lit (.int .u8 0), .lit (.int .u8 0)], .agg [.lit (.int .u8 0), .lit (.int .u8 0)], .agg [.lit (.int .u8 0), .lit (.int .u8 0)], .agg [.lit (.int .u8 0), .lit (.int .u8 0)], .agg [.lit (.int .u8 0), .lit (.int .u8 0)], .agg [.lit (.int .u8 0), .lit (.int .u8 0)], .agg [.lit (.int .u8 0), .lit (.int .u8 0)], .agg [.lit (.int .u8 0), .lit (.int .u8 0)], .agg [.lit (.int .u8 0), .lit (.int .u8 0)], .agg [.lit (.int .u8 0), .lit (.int .u8 0)], .agg [.lit (.int .u8 0), .lit (.int .u8 0)]]
/-- One of Go's own tables, pinned by name: the form's constant. -/
def laid_unicode_utf8_first : DataW Unit := Go.Pinned.utf8First

/-- 'pigeonrylaw14.MatchAlone': WHATEVER THE INPUT: true; the input reads as it did. -/
def matchAloneSpec : ChangeSpec := { name := "matchAlone", fn := fun _ => fun
  | [d1, d2] => { results := [.lit (.bool true)], args := [d1, d2] }
  | _ => none }
def matchAloneRow : OpenClaim := { program := "ytoadlafdeoklbaagreatdoor", sum := "157d30499ccefca52fd82aa84228f7bc037f503beba7ac56f3ef094a43c34b5d", func := "pigeonry/pigeonrylaw14.MatchAlone", spec := "matchAlone", inPlace := ["internal/bytealg.CountString", "internal/bytealg.IndexByteString", "internal/bytealg.IndexString"], unfollowed := true, recurses := true, named := ["unicode/utf8.first", "unicode/utf8.acceptRanges", "internal/bytealg.MaxLen"], apart := false, laid := [("unicode/utf8.acceptRanges", laid_unicode_utf8_acceptRanges), ("unicode/utf8.first", laid_unicode_utf8_first)] }
def MatchAloneSaid : Prop := matchAloneRow.holds Tryz.pinned (OpenSpec.ofChange matchAloneSpec)

/-- ITS FALSE NEIGHBOUR: 'it returns false'. Refute it at one input. -/
def matchAloneWrong : ChangeSpec := { name := "matchAlone", fn := fun _ => fun
  | [d1, d2] => { results := [.lit (.bool false)], args := [d1, d2] }
  | _ => none }
def MatchAloneWrongFalsely : Prop := matchAloneRow.holds Tryz.pinned (OpenSpec.ofChange matchAloneWrong)

/-- 'pigeonrylaw14.MatchOrders': WHATEVER THE INPUT: true; the input reads as it did. -/
def matchOrdersSpec : ChangeSpec := { name := "matchOrders", fn := fun _ => fun
  | [d1, d2, d3] => { results := [.lit (.bool true)], args := [d1, d2, d3] }
  | _ => none }
def matchOrdersRow : OpenClaim := { program := "ytoadlafdeoklbaagreatdoor", sum := "157d30499ccefca52fd82aa84228f7bc037f503beba7ac56f3ef094a43c34b5d", func := "pigeonry/pigeonrylaw14.MatchOrders", spec := "matchOrders", inPlace := ["internal/bytealg.CountString", "internal/bytealg.IndexByteString", "internal/bytealg.IndexString"], unfollowed := true, recurses := true, named := ["unicode/utf8.first", "unicode/utf8.acceptRanges", "internal/bytealg.MaxLen"], apart := false, laid := [("unicode/utf8.acceptRanges", laid_unicode_utf8_acceptRanges), ("unicode/utf8.first", laid_unicode_utf8_first)] }
def MatchOrdersSaid : Prop := matchOrdersRow.holds Tryz.pinned (OpenSpec.ofChange matchOrdersSpec)

/-- ITS FALSE NEIGHBOUR: 'it returns false'. Refute it at one input. -/
def matchOrdersWrong : ChangeSpec := { name := "matchOrders", fn := fun _ => fun
  | [d1, d2, d3] => { results := [.lit (.bool false)], args := [d1, d2, d3] }
  | _ => none }
def MatchOrdersWrongFalsely : Prop := matchOrdersRow.holds Tryz.pinned (OpenSpec.ofChange matchOrdersWrong)

/-- 'pigeonrylaw14.MatchPlay': WHATEVER THE INPUT: true; the input reads as it did. -/
def matchPlaySpec : ChangeSpec := { name := "matchPlay", fn := fun _ => fun
  | [d1, d2] => { results := [.lit (.bool true)], args := [d1, d2] }
  | _ => none }
def matchPlayRow : OpenClaim := { program := "ytoadlafdeoklbaagreatdoor", sum := "157d30499ccefca52fd82aa84228f7bc037f503beba7ac56f3ef094a43c34b5d", func := "pigeonry/pigeonrylaw14.MatchPlay", spec := "matchPlay", inPlace := ["internal/bytealg.CountString", "internal/bytealg.IndexByteString", "internal/bytealg.IndexString"], unfollowed := true, recurses := true, named := ["unicode/utf8.first", "unicode/utf8.acceptRanges", "internal/bytealg.MaxLen"], apart := false, laid := [("unicode/utf8.acceptRanges", laid_unicode_utf8_acceptRanges), ("unicode/utf8.first", laid_unicode_utf8_first)] }
def MatchPlaySaid : Prop := matchPlayRow.holds Tryz.pinned (OpenSpec.ofChange matchPlaySpec)

/-- ITS FALSE NEIGHBOUR: 'it returns false'. Refute it at one input. -/
def matchPlayWrong : ChangeSpec := { name := "matchPlay", fn := fun _ => fun
  | [d1, d2] => { results := [.lit (.bool false)], args := [d1, d2] }
  | _ => none }
def MatchPlayWrongFalsely : Prop := matchPlayRow.holds Tryz.pinned (OpenSpec.ofChange matchPlayWrong)

/-- 'pigeonrylaw14.MatchCopies': WHATEVER THE INPUT: true; the input reads as it did. -/
def matchCopiesSpec : ChangeSpec := { name := "matchCopies", fn := fun _ => fun
  | [d1, d2, d3] => { results := [.lit (.bool true)], args := [d1, d2, d3] }
  | _ => none }
def matchCopiesRow : OpenClaim := { program := "ytoadlafdeoklbaagreatdoor", sum := "157d30499ccefca52fd82aa84228f7bc037f503beba7ac56f3ef094a43c34b5d", func := "pigeonry/pigeonrylaw14.MatchCopies", spec := "matchCopies", inPlace := ["internal/bytealg.CountString", "internal/bytealg.IndexByteString", "internal/bytealg.IndexString"], unfollowed := true, recurses := true, named := ["unicode/utf8.first", "unicode/utf8.acceptRanges", "internal/bytealg.MaxLen"], apart := false, laid := [("unicode/utf8.acceptRanges", laid_unicode_utf8_acceptRanges), ("unicode/utf8.first", laid_unicode_utf8_first)] }
def MatchCopiesSaid : Prop := matchCopiesRow.holds Tryz.pinned (OpenSpec.ofChange matchCopiesSpec)

/-- ITS FALSE NEIGHBOUR: 'it returns false'. Refute it at one input. -/
def matchCopiesWrong : ChangeSpec := { name := "matchCopies", fn := fun _ => fun
  | [d1, d2, d3] => { results := [.lit (.bool false)], args := [d1, d2, d3] }
  | _ => none }
def MatchCopiesWrongFalsely : Prop := matchCopiesRow.holds Tryz.pinned (OpenSpec.ofChange matchCopiesWrong)

/-- 'pigeonrylaw14.MatchNil': WHATEVER THE INPUT: true; the input reads as it did. -/
def matchNilSpec : ChangeSpec := { name := "matchNil", fn := fun _ => fun
  | [d] => { results := [.lit (.bool true)], args := [d] }
  | _ => none }
def matchNilRow : OpenClaim := { program := "ytoadlafdeoklbaagreatdoor", sum := "157d30499ccefca52fd82aa84228f7bc037f503beba7ac56f3ef094a43c34b5d", func := "pigeonry/pigeonrylaw14.MatchNil", spec := "matchNil", inPlace := ["internal/bytealg.CountString", "internal/bytealg.IndexByteString", "internal/bytealg.IndexString"], unfollowed := true, recurses := true, named := ["unicode/utf8.first", "unicode/utf8.acceptRanges", "internal/bytealg.MaxLen"], apart := false, laid := [("unicode/utf8.acceptRanges", laid_unicode_utf8_acceptRanges), ("unicode/utf8.first", laid_unicode_utf8_first)] }
def MatchNilSaid : Prop := matchNilRow.holds Tryz.pinned (OpenSpec.ofChange matchNilSpec)

/-- ITS FALSE NEIGHBOUR: 'it returns false'. Refute it at one input. -/
def matchNilWrong : ChangeSpec := { name := "matchNil", fn := fun _ => fun
  | [d] => { results := [.lit (.bool false)], args := [d] }
  | _ => none }
def MatchNilWrongFalsely : Prop := matchNilRow.holds Tryz.pinned (OpenSpec.ofChange matchNilWrong)

/- THE SECOND FORM. 'bulk': how many values and letters a reading holds, each counted each time it is reached (what is shared counts as often as it is met; a slice's spare places count too). A statement '..UptoSaid' is the law's where the arguments, and the package variables that the reading takes, are together of bulk at most 1048576: NARROWER than '..Said'. Prove '..Said' where nothing that the law and all that it calls make is longer than what came in: it says more and counts as full. Else prove '..UptoSaid'. A law counts once. -/
mutual
def uptoBulk {H : Type} : DataW H → Nat
  | .lit (.string bytes) => bytes.length + 1
  | .lit _ => 1
  | .nil => 1
  | .ptr d => uptoBulk d + 1
  | .slice elems spare => uptoBulkAll elems + uptoBulkAll spare + 1
  | .agg parts => uptoBulkAll parts + 1
  | .iface _ d => uptoBulk d + 1
  | .map entries => uptoBulkEntries entries + 1
  | .held _ => 1
def uptoBulkAll {H : Type} : List (DataW H) → Nat
  | [] => 0
  | d :: r => uptoBulk d + uptoBulkAll r
def uptoBulkEntries {H : Type} : List (Lit × DataW H) → Nat
  | [] => 0
  | x :: r => uptoBulkEntry x + uptoBulkEntries r
def uptoBulkEntry {H : Type} : Lit × DataW H → Nat
  | (.string bytes, d) => bytes.length + uptoBulk d + 1
  | (_, d) => uptoBulk d + 1
 end
def uptoSmall : (H : Type) → List (DataW H) → Bool := fun _ ds => decide (uptoBulkAll ds ≤ 1048576)
def OpenSpec.upto (s : _root_.Go.ChangeSpec) : _root_.Go.OpenSpec := { _root_.Go.OpenSpec.ofChange s with cond := some uptoSmall }

/-- 'pigeonrylaw14.MatchAlone', WHERE WHAT IT READS IS OF BULK AT MOST 1048576: true; the input reads as it did. -/
def matchAloneUptoRow : OpenClaim := { program := "ytoadlafdeoklbaagreatdoor", sum := "157d30499ccefca52fd82aa84228f7bc037f503beba7ac56f3ef094a43c34b5d", func := "pigeonry/pigeonrylaw14.MatchAlone", spec := "matchAlone", inPlace := ["internal/bytealg.CountString", "internal/bytealg.IndexByteString", "internal/bytealg.IndexString"], unfollowed := true, recurses := true, named := ["unicode/utf8.first", "unicode/utf8.acceptRanges", "internal/bytealg.MaxLen"], apart := false, laid := [("unicode/utf8.acceptRanges", laid_unicode_utf8_acceptRanges), ("unicode/utf8.first", laid_unicode_utf8_first)], narrowed := true }
def MatchAloneUptoSaid : Prop := matchAloneUptoRow.holds Tryz.pinned (OpenSpec.upto matchAloneSpec)

/-- 'pigeonrylaw14.MatchOrders', WHERE WHAT IT READS IS OF BULK AT MOST 1048576: true; the input reads as it did. -/
def matchOrdersUptoRow : OpenClaim := { program := "ytoadlafdeoklbaagreatdoor", sum := "157d30499ccefca52fd82aa84228f7bc037f503beba7ac56f3ef094a43c34b5d", func := "pigeonry/pigeonrylaw14.MatchOrders", spec := "matchOrders", inPlace := ["internal/bytealg.CountString", "internal/bytealg.IndexByteString", "internal/bytealg.IndexString"], unfollowed := true, recurses := true, named := ["unicode/utf8.first", "unicode/utf8.acceptRanges", "internal/bytealg.MaxLen"], apart := false, laid := [("unicode/utf8.acceptRanges", laid_unicode_utf8_acceptRanges), ("unicode/utf8.first", laid_unicode_utf8_first)], narrowed := true }
def MatchOrdersUptoSaid : Prop := matchOrdersUptoRow.holds Tryz.pinned (OpenSpec.upto matchOrdersSpec)

/-- 'pigeonrylaw14.MatchPlay', WHERE WHAT IT READS IS OF BULK AT MOST 1048576: true; the input reads as it did. -/
def matchPlayUptoRow : OpenClaim := { program := "ytoadlafdeoklbaagreatdoor", sum := "157d30499ccefca52fd82aa84228f7bc037f503beba7ac56f3ef094a43c34b5d", func := "pigeonry/pigeonrylaw14.MatchPlay", spec := "matchPlay", inPlace := ["internal/bytealg.CountString", "internal/bytealg.IndexByteString", "internal/bytealg.IndexString"], unfollowed := true, recurses := true, named := ["unicode/utf8.first", "unicode/utf8.acceptRanges", "internal/bytealg.MaxLen"], apart := false, laid := [("unicode/utf8.acceptRanges", laid_unicode_utf8_acceptRanges), ("unicode/utf8.first", laid_unicode_utf8_first)], narrowed := true }
def MatchPlayUptoSaid : Prop := matchPlayUptoRow.holds Tryz.pinned (OpenSpec.upto matchPlaySpec)

/-- 'pigeonrylaw14.MatchCopies', WHERE WHAT IT READS IS OF BULK AT MOST 1048576: true; the input reads as it did. -/
def matchCopiesUptoRow : OpenClaim := { program := "ytoadlafdeoklbaagreatdoor", sum := "157d30499ccefca52fd82aa84228f7bc037f503beba7ac56f3ef094a43c34b5d", func := "pigeonry/pigeonrylaw14.MatchCopies", spec := "matchCopies", inPlace := ["internal/bytealg.CountString", "internal/bytealg.IndexByteString", "internal/bytealg.IndexString"], unfollowed := true, recurses := true, named := ["unicode/utf8.first", "unicode/utf8.acceptRanges", "internal/bytealg.MaxLen"], apart := false, laid := [("unicode/utf8.acceptRanges", laid_unicode_utf8_acceptRanges), ("unicode/utf8.first", laid_unicode_utf8_first)], narrowed := true }
def MatchCopiesUptoSaid : Prop := matchCopiesUptoRow.holds Tryz.pinned (OpenSpec.upto matchCopiesSpec)

/-- 'pigeonrylaw14.MatchNil', WHERE WHAT IT READS IS OF BULK AT MOST 1048576: true; the input reads as it did. -/
def matchNilUptoRow : OpenClaim := { program := "ytoadlafdeoklbaagreatdoor", sum := "157d30499ccefca52fd82aa84228f7bc037f503beba7ac56f3ef094a43c34b5d", func := "pigeonry/pigeonrylaw14.MatchNil", spec := "matchNil", inPlace := ["internal/bytealg.CountString", "internal/bytealg.IndexByteString", "internal/bytealg.IndexString"], unfollowed := true, recurses := true, named := ["unicode/utf8.first", "unicode/utf8.acceptRanges", "internal/bytealg.MaxLen"], apart := false, laid := [("unicode/utf8.acceptRanges", laid_unicode_utf8_acceptRanges), ("unicode/utf8.first", laid_unicode_utf8_first)], narrowed := true }
def MatchNilUptoSaid : Prop := matchNilUptoRow.holds Tryz.pinned (OpenSpec.upto matchNilSpec)

end Rows
end Go.Proofs.YtoadlafdeoklbaaGreatDoor
