/-
  NARROWER THAN 'FOR EVERY INPUT', by the rows' own cells (each row's printed sentence says how): PacketRaws: laid · PacketParses: laid · PacketApart: laid · PacketFlags: laid · PacketLists: laid · PacketKinds: laid.
  DERIVED. THE GIVEN ROWS OF THIS SEAT. 6 by the template 'for every input the law returns true; each argument reads behind the call as it read before'; 0 by the template 'total and deterministic' (their statements: YtahbikfbjenfpaaGreatDoorTotals.lean).
  GIVEN WITH THE SEED: the statements are not yours to turn. If you find one false, say at which input.
  Laid BY PROGRAM, IN A SANDBOX (cutbox-rows.mjs): the forced cells as the released guide's own fill.sh prints them over the translation 69dc688a504b4d41… (all of the seat's roots in one cut). By AI agents, Wed Nov 11 2026. No macro, syntax, notation, axiom, sorry.
-/
import Derived.Test.YtahbikfbjenfpaaGreatDoorChecked
import GoSem.PinnedTables
import GoSem.Claim
import GoSem.ClaimJoined
import GoSem.ClaimMapViews
import Derived.JoinedTies
import Derived.KernelRfl
namespace Go.Proofs.YtahbikfbjenfpaaGreatDoor
/- THE CELL 'sum', in the pinned program and in every row, IS THE sha256 OF THE DUMP (.gsa) THAT YtahbikfbjenfpaaGreatDoorProg.lean LOADS. Nothing in Lean hashes anything: it is a label: what it is worth is what the hold of that sum in a sandbox is worth. -/
noncomputable def Tryz.pinned : Pinned := { name := "ytahbikfbjenfpaagreatdoor", sum := "69dc688a504b4d41adb1292be0aa36fd7ffbfb798c94f33546f03ee772548ff9", checked := Tryz.checked }
namespace Rows
def none {H : Type} : Left H := { results := [], args := [] }

/- WHAT THE LISTED PACKAGE-LEVEL VARIABLES READ AS WHEN THE CALL BEGINS. Each datum BY PROGRAM (the guide's laid-datum.mjs) off the statement by which the dump's own 'gosem.cut.vars' lays the variable. In a bare row this is a premise. The card (YtahbikfbjenfpaaGreatDoorCards.lean) ties it to the program's text. -/
def laid_unicode_utf8_acceptRanges {H : Type} : DataW H := .agg [.agg [.lit (.int .u8 128), .lit (.int .u8 191)], .agg [.lit (.int .u8 160), .lit (.int .u8 191)], .agg [.lit (.int .u8 128), .lit (.int .u8 159)], .agg [.lit (.int .u8 144), .lit (.int .u8 191)], .agg [.lit (.int .u8 128), .lit (.int .u8 143)], .agg [.lit (.int .u8 0), .lit (.int .u8 0)], .agg [.lit (.int .u8 0), .lit (.int .u8 0)], .agg [.lit (.int .u8 0), .lit (.int .u8 0)], .agg [.lit (.int .u8 0), .lit (.int .u8 0)], .agg [.lit (.int .u8 0), .lit (.int .u8 0)], .agg [.lit (.int .u8 0), .lit (.int .u8 0)], .agg [.lit (.int .u8 0), .lit (.int .u8 0)], .agg [.lit (.int .u8 0), .lit (.int .u8 0)], .agg [.lit (.int .u8 0), .lit (.int .u8 0)], .agg [.lit (.int .u8 0), .lit (.int .u8 0)], .agg [.lit (.int .u8 0), .lit (.int .u8 0)]]
/-- One of Go's own tables, pinned by name: the form's constant. -/
def laid_unicode_utf8_first : DataW Unit := Go.Pinned.utf8First

/-- 'pigeonrylaw16.PacketRaws': WHATEVER THE INPUT: true; the input reads as it did. -/
def packetRawsSpec : ChangeSpec := { name := "packetRaws", fn := fun _ => fun
  | [d] => { results := [.lit (.bool true)], args := [d] }
  | _ => none }
def packetRawsRow : OpenClaim := { program := "ytahbikfbjenfpaagreatdoor", sum := "69dc688a504b4d41adb1292be0aa36fd7ffbfb798c94f33546f03ee772548ff9", func := "pigeonry/pigeonrylaw16.PacketRaws", spec := "packetRaws", inPlace := ["internal/bytealg.CountString", "internal/bytealg.IndexByteString", "internal/bytealg.IndexString"], unfollowed := true, recurses := true, named := ["unicode/utf8.first", "unicode/utf8.acceptRanges", "internal/bytealg.MaxLen"], apart := false, laid := [("unicode/utf8.acceptRanges", laid_unicode_utf8_acceptRanges), ("unicode/utf8.first", laid_unicode_utf8_first)] }
def PacketRawsSaid : Prop := packetRawsRow.holds Tryz.pinned (OpenSpec.ofChange packetRawsSpec)

/-- ITS FALSE NEIGHBOUR: 'it returns false'. Refute it at one input. -/
def packetRawsWrong : ChangeSpec := { name := "packetRaws", fn := fun _ => fun
  | [d] => { results := [.lit (.bool false)], args := [d] }
  | _ => none }
def PacketRawsWrongFalsely : Prop := packetRawsRow.holds Tryz.pinned (OpenSpec.ofChange packetRawsWrong)

/-- 'pigeonrylaw16.PacketParses': WHATEVER THE INPUT: true; the input reads as it did. -/
def packetParsesSpec : ChangeSpec := { name := "packetParses", fn := fun _ => fun
  | [d] => { results := [.lit (.bool true)], args := [d] }
  | _ => none }
def packetParsesRow : OpenClaim := { program := "ytahbikfbjenfpaagreatdoor", sum := "69dc688a504b4d41adb1292be0aa36fd7ffbfb798c94f33546f03ee772548ff9", func := "pigeonry/pigeonrylaw16.PacketParses", spec := "packetParses", inPlace := ["internal/bytealg.CountString", "internal/bytealg.IndexByteString", "internal/bytealg.IndexString"], unfollowed := true, recurses := true, named := ["unicode/utf8.first", "unicode/utf8.acceptRanges", "internal/bytealg.MaxLen"], apart := false, laid := [("unicode/utf8.acceptRanges", laid_unicode_utf8_acceptRanges), ("unicode/utf8.first", laid_unicode_utf8_first)] }
def PacketParsesSaid : Prop := packetParsesRow.holds Tryz.pinned (OpenSpec.ofChange packetParsesSpec)

/-- ITS FALSE NEIGHBOUR: 'it returns false'. Refute it at one input. -/
def packetParsesWrong : ChangeSpec := { name := "packetParses", fn := fun _ => fun
  | [d] => { results := [.lit (.bool false)], args := [d] }
  | _ => none }
def PacketParsesWrongFalsely : Prop := packetParsesRow.holds Tryz.pinned (OpenSpec.ofChange packetParsesWrong)

/-- 'pigeonrylaw16.PacketApart': WHATEVER THE INPUT: true; the input reads as it did. -/
def packetApartSpec : ChangeSpec := { name := "packetApart", fn := fun _ => fun
  | [d1, d2] => { results := [.lit (.bool true)], args := [d1, d2] }
  | _ => none }
def packetApartRow : OpenClaim := { program := "ytahbikfbjenfpaagreatdoor", sum := "69dc688a504b4d41adb1292be0aa36fd7ffbfb798c94f33546f03ee772548ff9", func := "pigeonry/pigeonrylaw16.PacketApart", spec := "packetApart", inPlace := ["internal/bytealg.CountString", "internal/bytealg.IndexByteString", "internal/bytealg.IndexString"], unfollowed := true, recurses := true, named := ["unicode/utf8.first", "unicode/utf8.acceptRanges", "internal/bytealg.MaxLen"], apart := false, laid := [("unicode/utf8.acceptRanges", laid_unicode_utf8_acceptRanges), ("unicode/utf8.first", laid_unicode_utf8_first)] }
def PacketApartSaid : Prop := packetApartRow.holds Tryz.pinned (OpenSpec.ofChange packetApartSpec)

/-- ITS FALSE NEIGHBOUR: 'it returns false'. Refute it at one input. -/
def packetApartWrong : ChangeSpec := { name := "packetApart", fn := fun _ => fun
  | [d1, d2] => { results := [.lit (.bool false)], args := [d1, d2] }
  | _ => none }
def PacketApartWrongFalsely : Prop := packetApartRow.holds Tryz.pinned (OpenSpec.ofChange packetApartWrong)

/-- 'pigeonrylaw16.PacketFlags': WHATEVER THE INPUT: true; the input reads as it did. -/
def packetFlagsSpec : ChangeSpec := { name := "packetFlags", fn := fun _ => fun
  | [d1, d2] => { results := [.lit (.bool true)], args := [d1, d2] }
  | _ => none }
def packetFlagsRow : OpenClaim := { program := "ytahbikfbjenfpaagreatdoor", sum := "69dc688a504b4d41adb1292be0aa36fd7ffbfb798c94f33546f03ee772548ff9", func := "pigeonry/pigeonrylaw16.PacketFlags", spec := "packetFlags", inPlace := ["internal/bytealg.CountString", "internal/bytealg.IndexByteString", "internal/bytealg.IndexString"], unfollowed := true, recurses := true, named := ["unicode/utf8.first", "unicode/utf8.acceptRanges", "internal/bytealg.MaxLen"], apart := false, laid := [("unicode/utf8.acceptRanges", laid_unicode_utf8_acceptRanges), ("unicode/utf8.first", laid_unicode_utf8_first)] }
def PacketFlagsSaid : Prop := packetFlagsRow.holds Tryz.pinned (OpenSpec.ofChange packetFlagsSpec)

/-- ITS FALSE NEIGHBOUR: 'it returns false'. Refute it at one input. -/
def packetFlagsWrong : ChangeSpec := { name := "packetFlags", fn := fun _ => fun
  | [d1, d2] => { results := [.lit (.bool false)], args := [d1, d2] }
  | _ => none }
def PacketFlagsWrongFalsely : Prop := packetFlagsRow.holds Tryz.pinned (OpenSpec.ofChange packetFlagsWrong)

/-- 'pigeonrylaw16.PacketLists': WHATEVER THE INPUT: true; the input reads as it did. -/
def packetListsSpec : ChangeSpec := { name := "packetLists", fn := fun _ => fun
  | [d1, d2] => { results := [.lit (.bool true)], args := [d1, d2] }
  | _ => none }
def packetListsRow : OpenClaim := { program := "ytahbikfbjenfpaagreatdoor", sum := "69dc688a504b4d41adb1292be0aa36fd7ffbfb798c94f33546f03ee772548ff9", func := "pigeonry/pigeonrylaw16.PacketLists", spec := "packetLists", inPlace := ["internal/bytealg.CountString", "internal/bytealg.IndexByteString", "internal/bytealg.IndexString"], unfollowed := true, recurses := true, named := ["unicode/utf8.first", "unicode/utf8.acceptRanges", "internal/bytealg.MaxLen"], apart := false, laid := [("unicode/utf8.acceptRanges", laid_unicode_utf8_acceptRanges), ("unicode/utf8.first", laid_unicode_utf8_first)] }
def PacketListsSaid : Prop := packetListsRow.holds Tryz.pinned (OpenSpec.ofChange packetListsSpec)

/-- ITS FALSE NEIGHBOUR: 'it returns false'. Refute it at one input. -/
def packetListsWrong : ChangeSpec := { name := "packetLists", fn := fun _ => fun
  | [d1, d2] => { results := [.lit (.bool false)], args := [d1, d2] }
  | _ => none }
def PacketListsWrongFalsely : Prop := packetListsRow.holds Tryz.pinned (OpenSpec.ofChange packetListsWrong)

/-- 'pigeonrylaw16.PacketKinds': WHATEVER THE INPUT: true; the input reads as it did. -/
def packetKindsSpec : ChangeSpec := { name := "packetKinds", fn := fun _ => fun
  | [d1, d2, d3] => { results := [.lit (.bool true)], args := [d1, d2, d3] }
  | _ => none }
def packetKindsRow : OpenClaim := { program := "ytahbikfbjenfpaagreatdoor", sum := "69dc688a504b4d41adb1292be0aa36fd7ffbfb798c94f33546f03ee772548ff9", func := "pigeonry/pigeonrylaw16.PacketKinds", spec := "packetKinds", inPlace := ["internal/bytealg.CountString", "internal/bytealg.IndexByteString", "internal/bytealg.IndexString"], unfollowed := true, recurses := true, named := ["unicode/utf8.first", "unicode/utf8.acceptRanges", "internal/bytealg.MaxLen"], apart := false, laid := [("unicode/utf8.acceptRanges", laid_unicode_utf8_acceptRanges), ("unicode/utf8.first", laid_unicode_utf8_first)] }
def PacketKindsSaid : Prop := packetKindsRow.holds Tryz.pinned (OpenSpec.ofChange packetKindsSpec)

/-- ITS FALSE NEIGHBOUR: 'it returns false'. Refute it at one input. -/
def packetKindsWrong : ChangeSpec := { name := "packetKinds", fn := fun _ => fun
  | [d1, d2, d3] => { results := [.lit (.bool false)], args := [d1, d2, d3] }
  | _ => none }
def PacketKindsWrongFalsely : Prop := packetKindsRow.holds Tryz.pinned (OpenSpec.ofChange packetKindsWrong)

/- THE SECOND FORM. 'bulk': how many values and letters a reading holds, each counted each time it is reached (what is shared counts as often as it is met; a slice's spare places count too). A statement '..UptoSaid' is the law's where the arguments, and the package variables that the reading takes, are together of bulk at most 1048576: NARROWER than '..Said'. Prove '..Said' where nothing that the law and all that it calls make is longer than what came in: it says more and counts as full. Else prove '..UptoSaid'. A law counts once. -/
mutual
def uptoBulk {H : Type} : DataW H → Nat
  | .lit (.string bytes) => bytes.length + 1
  | .lit _ => 1
  | .nil => 1
  | .ptr d => uptoBulk d + 1
  | .slice elems spare => uptoBulkAll elems + uptoBulkAll spare + 1
  | .agg parts => uptoBulkAll parts + 1
  | .iface _ d => uptoBulk d + 1
  | .map entries => uptoBulkEntries entries + 1
  | .held _ => 1
def uptoBulkAll {H : Type} : List (DataW H) → Nat
  | [] => 0
  | d :: r => uptoBulk d + uptoBulkAll r
def uptoBulkEntries {H : Type} : List (Lit × DataW H) → Nat
  | [] => 0
  | x :: r => uptoBulkEntry x + uptoBulkEntries r
def uptoBulkEntry {H : Type} : Lit × DataW H → Nat
  | (.string bytes, d) => bytes.length + uptoBulk d + 1
  | (_, d) => uptoBulk d + 1
 end
def uptoSmall : (H : Type) → List (DataW H) → Bool := fun _ ds => decide (uptoBulkAll ds ≤ 1048576)
def OpenSpec.upto (s : _root_.Go.ChangeSpec) : _root_.Go.OpenSpec := { _root_.Go.OpenSpec.ofChange s with cond := some uptoSmall }

/-- 'pigeonrylaw16.PacketRaws', WHERE WHAT IT READS IS OF BULK AT MOST 1048576: true; the input reads as it did. -/
def packetRawsUptoRow : OpenClaim := { program := "ytahbikfbjenfpaagreatdoor", sum := "69dc688a504b4d41adb1292be0aa36fd7ffbfb798c94f33546f03ee772548ff9", func := "pigeonry/pigeonrylaw16.PacketRaws", spec := "packetRaws", inPlace := ["internal/bytealg.CountString", "internal/bytealg.IndexByteString", "internal/bytealg.IndexString"], unfollowed := true, recurses := true, named := ["unicode/utf8.first", "unicode/utf8.acceptRanges", "internal/bytealg.MaxLen"], apart := false, laid := [("unicode/utf8.acceptRanges", laid_unicode_utf8_acceptRanges), ("unicode/utf8.first", laid_unicode_utf8_first)], narrowed := true }
def PacketRawsUptoSaid : Prop := packetRawsUptoRow.holds Tryz.pinned (OpenSpec.upto packetRawsSpec)

/-- 'pigeonrylaw16.PacketParses', WHERE WHAT IT READS IS OF BULK AT MOST 1048576: true; the input reads as it did. -/
def packetParsesUptoRow : OpenClaim := { program := "ytahbikfbjenfpaagreatdoor", sum := "69dc688a504b4d41adb1292be0aa36fd7ffbfb798c94f33546f03ee772548ff9", func := "pigeonry/pigeonrylaw16.PacketParses", spec := "packetParses", inPlace := ["internal/bytealg.CountString", "internal/bytealg.IndexByteString", "internal/bytealg.IndexString"], unfollowed := true, recurses := true, named := ["unicode/utf8.first", "unicode/utf8.acceptRanges", "internal/bytealg.MaxLen"], apart := false, laid := [("unicode/utf8.acceptRanges", laid_unicode_utf8_acceptRanges), ("unicode/utf8.first", laid_unicode_utf8_first)], narrowed := true }
def PacketParsesUptoSaid : Prop := packetParsesUptoRow.holds Tryz.pinned (OpenSpec.upto packetParsesSpec)

/-- 'pigeonrylaw16.PacketApart', WHERE WHAT IT READS IS OF BULK AT MOST 1048576: true; the input reads as it did. -/
def packetApartUptoRow : OpenClaim := { program := "ytahbikfbjenfpaagreatdoor", sum := "69dc688a504b4d41adb1292be0aa36fd7ffbfb798c94f33546f03ee772548ff9", func := "pigeonry/pigeonrylaw16.PacketApart", spec := "packetApart", inPlace := ["internal/bytealg.CountString", "internal/bytealg.IndexByteString", "internal/bytealg.IndexString"], unfollowed := true, recurses := true, named := ["unicode/utf8.first", "unicode/utf8.acceptRanges", "internal/bytealg.MaxLen"], apart := false, laid := [("unicode/utf8.acceptRanges", laid_unicode_utf8_acceptRanges), ("unicode/utf8.first", laid_unicode_utf8_first)], narrowed := true }
def PacketApartUptoSaid : Prop := packetApartUptoRow.holds Tryz.pinned (OpenSpec.upto packetApartSpec)

/-- 'pigeonrylaw16.PacketFlags', WHERE WHAT IT READS IS OF BULK AT MOST 1048576: true; the input reads as it did. -/
def packetFlagsUptoRow : OpenClaim := { program := "ytahbikfbjenfpaagreatdoor", sum := "69dc688a504b4d41adb1292be0aa36fd7ffbfb798c94f33546f03ee772548ff9", func := "pigeonry/pigeonrylaw16.PacketFlags", spec := "packetFlags", inPlace := ["internal/bytealg.CountString", "internal/bytealg.IndexByteString", "internal/bytealg.IndexString"], unfollowed := true, recurses := true, named := ["unicode/utf8.first", "unicode/utf8.acceptRanges", "internal/bytealg.MaxLen"], apart := false, laid := [("unicode/utf8.acceptRanges", laid_unicode_utf8_acceptRanges), ("unicode/utf8.first", laid_unicode_utf8_first)], narrowed := true }
def PacketFlagsUptoSaid : Prop := packetFlagsUptoRow.holds Tryz.pinned (OpenSpec.upto packetFlagsSpec)

/-- 'pigeonrylaw16.PacketLists', WHERE WHAT IT READS IS OF BULK AT MOST 1048576: true; the input reads as it did. -/
def packetListsUptoRow : OpenClaim := { program := "ytahbikfbjenfpaagreatdoor", sum := "69dc688a504b4d41adb1292be0aa36fd7ffbfb798c94f33546f03ee772548ff9", func := "pigeonry/pigeonrylaw16.PacketLists", spec := "packetLists", inPlace := ["internal/bytealg.CountString", "internal/bytealg.IndexByteString", "internal/bytealg.IndexString"], unfollowed := true, recurses := true, named := ["unicode/utf8.first", "unicode/utf8.acceptRanges", "internal/bytealg.MaxLen"], apart := false, laid := [("unicode/utf8.acceptRanges", laid_unicode_utf8_acceptRanges), ("unicode/utf8.first", laid_unicode_utf8_first)], narrowed := true }
def PacketListsUptoSaid : Prop := packetListsUptoRow.holds Tryz.pinned (OpenSpec.upto packetListsSpec)

/-- 'pigeonrylaw16.PacketKinds', WHERE WHAT IT READS IS OF BULK AT MOST 1048576: true; the input reads as it did. -/
def packetKindsUptoRow : OpenClaim := { program := "ytahbikfbjenfpaagreatdoor", sum := "69dc688a504b4d41adb1292be0aa36fd7ffbfb798c94f33546f03ee772548ff9", func := "pigeonry/pigeonrylaw16.PacketKinds", spec := "packetKinds", inPlace := ["internal/bytealg.CountString", "internal/bytealg.IndexByteString", "internal/bytealg.IndexString"], unfollowed := true, recurses := true, named := ["unicode/utf8.first", "unicode/utf8.acceptRanges", "internal/bytealg.MaxLen"], apart := false, laid := [("unicode/utf8.acceptRanges", laid_unicode_utf8_acceptRanges), ("unicode/utf8.first", laid_unicode_utf8_first)], narrowed := true }
def PacketKindsUptoSaid : Prop := packetKindsUptoRow.holds Tryz.pinned (OpenSpec.upto packetKindsSpec)

end Rows
end Go.Proofs.YtahbikfbjenfpaaGreatDoor
