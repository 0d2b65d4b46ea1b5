/-
  NARROWER THAN 'FOR EVERY INPUT', by the rows' own cells (each row's printed sentence says how): RecordsOrder: laid · RecordsSums: laid · RecordsReads: laid · RecordsBack: laid.
  DERIVED. THE GIVEN ROWS OF THIS SEAT. 4 by the template 'for every input the law returns true; each argument reads behind the call as it read before'; 0 by the template 'total and deterministic' (their statements: YtfglgeoookbppaaGreatDoorTotals.lean).
  GIVEN WITH THE SEED: the statements are not yours to turn. If you find one false, say at which input.
  Laid BY PROGRAM, IN A SANDBOX (cutbox-rows.mjs): the forced cells as the released guide's own fill.sh prints them over the translation d75bf7e887a607f6… (all of the seat's roots in one cut). By AI agents, Wed Nov 11 2026. No macro, syntax, notation, axiom, sorry.
-/
import Derived.Test.YtfglgeoookbppaaGreatDoorChecked
import GoSem.PinnedTables
import GoSem.Claim
import GoSem.ClaimJoined
import GoSem.ClaimMapViews
import Derived.JoinedTies
import Derived.KernelRfl
namespace Go.Proofs.YtfglgeoookbppaaGreatDoor
/- THE CELL 'sum', in the pinned program and in every row, IS THE sha256 OF THE DUMP (.gsa) THAT YtfglgeoookbppaaGreatDoorProg.lean LOADS. Nothing in Lean hashes anything: it is a label: what it is worth is what the hold of that sum in a sandbox is worth. -/
noncomputable def Tryz.pinned : Pinned := { name := "ytfglgeoookbppaagreatdoor", sum := "d75bf7e887a607f614bec6d5c1d0419a3b554fdda20d807cb763f6a35c9b3017", checked := Tryz.checked }
namespace Rows
def none {H : Type} : Left H := { results := [], args := [] }

/- WHAT THE LISTED PACKAGE-LEVEL VARIABLES READ AS WHEN THE CALL BEGINS. Each datum BY PROGRAM (the guide's laid-datum.mjs) off the statement by which the dump's own 'gosem.cut.vars' lays the variable. In a bare row this is a premise. The card (YtfglgeoookbppaaGreatDoorCards.lean) ties it to the program's text. -/
def laid_unicode_utf8_acceptRanges {H : Type} : DataW H := .agg [.agg [.lit (.int .u8 128), .lit (.int .u8 191)], .agg [.lit (.int .u8 160), .lit (.int .u8 191)], .agg [.lit (.int .u8 128), .lit (.int .u8 159)], .agg [.lit (.int .u8 144), .lit (.int .u8 191)], .agg [.lit (.int .u8 128), .lit (.int .u8 143)], .agg [.lit (.int .u8 0), .lit (.int .u8 0)], .agg [.lit (.int .u8 0), .lit (.int .u8 0)], .agg [.lit (.int .u8 0), .lit (.int .u8 0)], .agg [.lit (.int .u8 0), .lit (.int .u8 0)], .agg [.lit (.int .u8 0), .lit (.int .u8 0)], .agg [.lit (.int .u8 0), .lit (.int .u8 0)], .agg [.lit (.int .u8 0), .lit (.int .u8 0)], .agg [.lit (.int .u8 0), .lit (.int .u8 0)], .agg [.lit (.int .u8 0), .lit (.int .u8 0)], .agg [.lit (.int .u8 0), .lit (.int .u8 0)], .agg [.lit (.int .u8 0), .lit (.int .u8 0)]]
/-- One of Go's own tables, pinned by name: the form's constant. -/
def laid_unicode_utf8_first : DataW Unit := Go.Pinned.utf8First

/-- 'pigeonrylaw19.RecordsOrder': WHATEVER THE INPUT: true; the input reads as it did. -/
def recordsOrderSpec : ChangeSpec := { name := "recordsOrder", fn := fun _ => fun
  | [d1, d2] => { results := [.lit (.bool true)], args := [d1, d2] }
  | _ => none }
def recordsOrderRow : OpenClaim := { program := "ytfglgeoookbppaagreatdoor", sum := "d75bf7e887a607f614bec6d5c1d0419a3b554fdda20d807cb763f6a35c9b3017", func := "pigeonry/pigeonrylaw19.RecordsOrder", spec := "recordsOrder", inPlace := ["internal/bytealg.CountString", "internal/bytealg.IndexByteString", "internal/bytealg.IndexString", "math.Float64bits", "math.Float64frombits", "internal/abi.NoEscape", "internal/bytealg.MakeNoZero"], unfollowed := true, recurses := true, named := ["unicode/utf8.first", "unicode/utf8.acceptRanges", "internal/bytealg.MaxLen"], apart := false, laid := [("unicode/utf8.acceptRanges", laid_unicode_utf8_acceptRanges), ("unicode/utf8.first", laid_unicode_utf8_first)] }
def RecordsOrderSaid : Prop := recordsOrderRow.holds Tryz.pinned (OpenSpec.ofChange recordsOrderSpec)

/-- ITS FALSE NEIGHBOUR: 'it returns false'. Refute it at one input. -/
def recordsOrderWrong : ChangeSpec := { name := "recordsOrder", fn := fun _ => fun
  | [d1, d2] => { results := [.lit (.bool false)], args := [d1, d2] }
  | _ => none }
def RecordsOrderWrongFalsely : Prop := recordsOrderRow.holds Tryz.pinned (OpenSpec.ofChange recordsOrderWrong)

/-- 'pigeonrylaw19.RecordsSums': WHATEVER THE INPUT: true; the input reads as it did. -/
def recordsSumsSpec : ChangeSpec := { name := "recordsSums", fn := fun _ => fun
  | [d1, d2, d3] => { results := [.lit (.bool true)], args := [d1, d2, d3] }
  | _ => none }
def recordsSumsRow : OpenClaim := { program := "ytfglgeoookbppaagreatdoor", sum := "d75bf7e887a607f614bec6d5c1d0419a3b554fdda20d807cb763f6a35c9b3017", func := "pigeonry/pigeonrylaw19.RecordsSums", spec := "recordsSums", inPlace := ["internal/bytealg.CountString", "internal/bytealg.IndexByteString", "internal/bytealg.IndexString", "math.Float64bits", "math.Float64frombits", "internal/abi.NoEscape", "internal/bytealg.MakeNoZero"], unfollowed := true, recurses := true, named := ["unicode/utf8.first", "unicode/utf8.acceptRanges", "internal/bytealg.MaxLen"], apart := false, laid := [("unicode/utf8.acceptRanges", laid_unicode_utf8_acceptRanges), ("unicode/utf8.first", laid_unicode_utf8_first)] }
def RecordsSumsSaid : Prop := recordsSumsRow.holds Tryz.pinned (OpenSpec.ofChange recordsSumsSpec)

/-- ITS FALSE NEIGHBOUR: 'it returns false'. Refute it at one input. -/
def recordsSumsWrong : ChangeSpec := { name := "recordsSums", fn := fun _ => fun
  | [d1, d2, d3] => { results := [.lit (.bool false)], args := [d1, d2, d3] }
  | _ => none }
def RecordsSumsWrongFalsely : Prop := recordsSumsRow.holds Tryz.pinned (OpenSpec.ofChange recordsSumsWrong)

/-- 'pigeonrylaw19.RecordsReads': WHATEVER THE INPUT: true; the input reads as it did. -/
def recordsReadsSpec : ChangeSpec := { name := "recordsReads", fn := fun _ => fun
  | [d1, d2, d3] => { results := [.lit (.bool true)], args := [d1, d2, d3] }
  | _ => none }
def recordsReadsRow : OpenClaim := { program := "ytfglgeoookbppaagreatdoor", sum := "d75bf7e887a607f614bec6d5c1d0419a3b554fdda20d807cb763f6a35c9b3017", func := "pigeonry/pigeonrylaw19.RecordsReads", spec := "recordsReads", inPlace := ["internal/bytealg.CountString", "internal/bytealg.IndexByteString", "internal/bytealg.IndexString", "math.Float64bits", "math.Float64frombits", "internal/abi.NoEscape", "internal/bytealg.MakeNoZero"], unfollowed := true, recurses := true, named := ["unicode/utf8.first", "unicode/utf8.acceptRanges", "internal/bytealg.MaxLen"], apart := false, laid := [("unicode/utf8.acceptRanges", laid_unicode_utf8_acceptRanges), ("unicode/utf8.first", laid_unicode_utf8_first)] }
def RecordsReadsSaid : Prop := recordsReadsRow.holds Tryz.pinned (OpenSpec.ofChange recordsReadsSpec)

/-- ITS FALSE NEIGHBOUR: 'it returns false'. Refute it at one input. -/
def recordsReadsWrong : ChangeSpec := { name := "recordsReads", fn := fun _ => fun
  | [d1, d2, d3] => { results := [.lit (.bool false)], args := [d1, d2, d3] }
  | _ => none }
def RecordsReadsWrongFalsely : Prop := recordsReadsRow.holds Tryz.pinned (OpenSpec.ofChange recordsReadsWrong)

/-- 'pigeonrylaw19.RecordsBack': WHATEVER THE INPUT: true; the input reads as it did. -/
def recordsBackSpec : ChangeSpec := { name := "recordsBack", fn := fun _ => fun
  | [d1, d2] => { results := [.lit (.bool true)], args := [d1, d2] }
  | _ => none }
def recordsBackRow : OpenClaim := { program := "ytfglgeoookbppaagreatdoor", sum := "d75bf7e887a607f614bec6d5c1d0419a3b554fdda20d807cb763f6a35c9b3017", func := "pigeonry/pigeonrylaw19.RecordsBack", spec := "recordsBack", inPlace := ["internal/bytealg.CountString", "internal/bytealg.IndexByteString", "internal/bytealg.IndexString", "math.Float64bits", "math.Float64frombits", "internal/abi.NoEscape", "internal/bytealg.MakeNoZero"], unfollowed := true, recurses := true, named := ["unicode/utf8.first", "unicode/utf8.acceptRanges", "internal/bytealg.MaxLen"], apart := false, laid := [("unicode/utf8.acceptRanges", laid_unicode_utf8_acceptRanges), ("unicode/utf8.first", laid_unicode_utf8_first)] }
def RecordsBackSaid : Prop := recordsBackRow.holds Tryz.pinned (OpenSpec.ofChange recordsBackSpec)

/-- ITS FALSE NEIGHBOUR: 'it returns false'. Refute it at one input. -/
def recordsBackWrong : ChangeSpec := { name := "recordsBack", fn := fun _ => fun
  | [d1, d2] => { results := [.lit (.bool false)], args := [d1, d2] }
  | _ => none }
def RecordsBackWrongFalsely : Prop := recordsBackRow.holds Tryz.pinned (OpenSpec.ofChange recordsBackWrong)

/- THE SECOND FORM. 'bulk': how many values and letters a reading holds, each counted each time it is reached (what is shared counts as often as it is met; a slice's spare places count too). A statement '..UptoSaid' is the law's where the arguments, and the package variables that the reading takes, are together of bulk at most 1048576: NARROWER than '..Said'. Prove '..Said' where nothing that the law and all that it calls make is longer than what came in: it says more and counts as full. Else prove '..UptoSaid'. A law counts once. -/
mutual
def uptoBulk {H : Type} : DataW H → Nat
  | .lit (.string bytes) => bytes.length + 1
  | .lit _ => 1
  | .nil => 1
  | .ptr d => uptoBulk d + 1
  | .slice elems spare => uptoBulkAll elems + uptoBulkAll spare + 1
  | .agg parts => uptoBulkAll parts + 1
  | .iface _ d => uptoBulk d + 1
  | .map entries => uptoBulkEntries entries + 1
  | .held _ => 1
def uptoBulkAll {H : Type} : List (DataW H) → Nat
  | [] => 0
  | d :: r => uptoBulk d + uptoBulkAll r
def uptoBulkEntries {H : Type} : List (Lit × DataW H) → Nat
  | [] => 0
  | x :: r => uptoBulkEntry x + uptoBulkEntries r
def uptoBulkEntry {H : Type} : Lit × DataW H → Nat
  | (.string bytes, d) => bytes.length + uptoBulk d + 1
  | (_, d) => uptoBulk d + 1
 end
def uptoSmall : (H : Type) → List (DataW H) → Bool := fun _ ds => decide (uptoBulkAll ds ≤ 1048576)
def OpenSpec.upto (s : _root_.Go.ChangeSpec) : _root_.Go.OpenSpec := { _root_.Go.OpenSpec.ofChange s with cond := some uptoSmall }

/-- 'pigeonrylaw19.RecordsOrder', WHERE WHAT IT READS IS OF BULK AT MOST 1048576: true; the input reads as it did. -/
def recordsOrderUptoRow : OpenClaim := { program := "ytfglgeoookbppaagreatdoor", sum := "d75bf7e887a607f614bec6d5c1d0419a3b554fdda20d807cb763f6a35c9b3017", func := "pigeonry/pigeonrylaw19.RecordsOrder", spec := "recordsOrder", inPlace := ["internal/bytealg.CountString", "internal/bytealg.IndexByteString", "internal/bytealg.IndexString", "math.Float64bits", "math.Float64frombits", "internal/abi.NoEscape", "internal/bytealg.MakeNoZero"], unfollowed := true, recurses := true, named := ["unicode/utf8.first", "unicode/utf8.acceptRanges", "internal/bytealg.MaxLen"], apart := false, laid := [("unicode/utf8.acceptRanges", laid_unicode_utf8_acceptRanges), ("unicode/utf8.first", laid_unicode_utf8_first)], narrowed := true }
def RecordsOrderUptoSaid : Prop := recordsOrderUptoRow.holds Tryz.pinned (OpenSpec.upto recordsOrderSpec)

/-- 'pigeonrylaw19.RecordsSums', WHERE WHAT IT READS IS OF BULK AT MOST 1048576: true; the input reads as it did. -/
def recordsSumsUptoRow : OpenClaim := { program := "ytfglgeoookbppaagreatdoor", sum := "d75bf7e887a607f614bec6d5c1d0419a3b554fdda20d807cb763f6a35c9b3017", func := "pigeonry/pigeonrylaw19.RecordsSums", spec := "recordsSums", inPlace := ["internal/bytealg.CountString", "internal/bytealg.IndexByteString", "internal/bytealg.IndexString", "math.Float64bits", "math.Float64frombits", "internal/abi.NoEscape", "internal/bytealg.MakeNoZero"], unfollowed := true, recurses := true, named := ["unicode/utf8.first", "unicode/utf8.acceptRanges", "internal/bytealg.MaxLen"], apart := false, laid := [("unicode/utf8.acceptRanges", laid_unicode_utf8_acceptRanges), ("unicode/utf8.first", laid_unicode_utf8_first)], narrowed := true }
def RecordsSumsUptoSaid : Prop := recordsSumsUptoRow.holds Tryz.pinned (OpenSpec.upto recordsSumsSpec)

/-- 'pigeonrylaw19.RecordsReads', WHERE WHAT IT READS IS OF BULK AT MOST 1048576: true; the input reads as it did. -/
def recordsReadsUptoRow : OpenClaim := { program := "ytfglgeoookbppaagreatdoor", sum := "d75bf7e887a607f614bec6d5c1d0419a3b554fdda20d807cb763f6a35c9b3017", func := "pigeonry/pigeonrylaw19.RecordsReads", spec := "recordsReads", inPlace := ["internal/bytealg.CountString", "internal/bytealg.IndexByteString", "internal/bytealg.IndexString", "math.Float64bits", "math.Float64frombits", "internal/abi.NoEscape", "internal/bytealg.MakeNoZero"], unfollowed := true, recurses := true, named := ["unicode/utf8.first", "unicode/utf8.acceptRanges", "internal/bytealg.MaxLen"], apart := false, laid := [("unicode/utf8.acceptRanges", laid_unicode_utf8_acceptRanges), ("unicode/utf8.first", laid_unicode_utf8_first)], narrowed := true }
def RecordsReadsUptoSaid : Prop := recordsReadsUptoRow.holds Tryz.pinned (OpenSpec.upto recordsReadsSpec)

/-- 'pigeonrylaw19.RecordsBack', WHERE WHAT IT READS IS OF BULK AT MOST 1048576: true; the input reads as it did. -/
def recordsBackUptoRow : OpenClaim := { program := "ytfglgeoookbppaagreatdoor", sum := "d75bf7e887a607f614bec6d5c1d0419a3b554fdda20d807cb763f6a35c9b3017", func := "pigeonry/pigeonrylaw19.RecordsBack", spec := "recordsBack", inPlace := ["internal/bytealg.CountString", "internal/bytealg.IndexByteString", "internal/bytealg.IndexString", "math.Float64bits", "math.Float64frombits", "internal/abi.NoEscape", "internal/bytealg.MakeNoZero"], unfollowed := true, recurses := true, named := ["unicode/utf8.first", "unicode/utf8.acceptRanges", "internal/bytealg.MaxLen"], apart := false, laid := [("unicode/utf8.acceptRanges", laid_unicode_utf8_acceptRanges), ("unicode/utf8.first", laid_unicode_utf8_first)], narrowed := true }
def RecordsBackUptoSaid : Prop := recordsBackUptoRow.holds Tryz.pinned (OpenSpec.upto recordsBackSpec)

end Rows
end Go.Proofs.YtfglgeoookbppaaGreatDoor
