/-
  No cell of these rows narrows 'for every input' (looked for: loops, veiled, ifaces, maps, wideKeys, modest, calm, conditions, laid).
  DERIVED. THE GIVEN ROWS OF THIS SEAT. 10 by the template 'for every input the law returns true; each argument reads behind the call as it read before'; 0 by the template 'total and deterministic' (their statements: YthepcoifcoinoaaTotals.lean).
  GIVEN WITH THE SEED: the statements are not yours to turn. If you find one false, say at which input.
  Laid BY PROGRAM, IN A SANDBOX (cutbox-rows.mjs): the forced cells as the released guide's own fill.sh prints them over the translation 7706554a30e12809… (all of the seat's roots in one cut). By AI agents, Wed Nov 11 2026. No macro, syntax, notation, axiom, sorry.
-/
import Derived.Test.YthepcoifcoinoaaChecked
import GoSem.Claim
import GoSem.ClaimJoined
import GoSem.ClaimMapViews
import Derived.JoinedTies
import Derived.KernelRfl
namespace Go.Proofs.Ythepcoifcoinoaa
/- THE CELL 'sum', in the pinned program and in every row, IS THE sha256 OF THE DUMP (.gsa) THAT YthepcoifcoinoaaProg.lean LOADS. Nothing in Lean hashes anything: it is a label: what it is worth is what the hold of that sum in a sandbox is worth. -/
noncomputable def Try.pinned : Pinned := { name := "ythepcoifcoinoaa", sum := "7706554a30e128097306ce320e0c3e05f2cc4080da63aaf331de82e561cf1b0c", checked := Try.checked }
namespace Rows
def none {H : Type} : Left H := { results := [], args := [] }

/-- 'pigeonrylaw04.PageLooks': WHATEVER THE INPUT: true; the input reads as it did. -/
def pageLooksSpec : ChangeSpec := { name := "pageLooks", fn := fun _ => fun
  | [d1, d2] => { results := [.lit (.bool true)], args := [d1, d2] }
  | _ => none }
def pageLooksRow : OpenClaim := { program := "ythepcoifcoinoaa", sum := "7706554a30e128097306ce320e0c3e05f2cc4080da63aaf331de82e561cf1b0c", func := "pigeonry/pigeonrylaw04.PageLooks", spec := "pageLooks", unfollowed := true, recurses := true, apart := false }
def PageLooksSaid : Prop := pageLooksRow.holds Try.pinned (OpenSpec.ofChange pageLooksSpec)

/-- ITS FALSE NEIGHBOUR: 'it returns false'. Refute it at one input. -/
def pageLooksWrong : ChangeSpec := { name := "pageLooks", fn := fun _ => fun
  | [d1, d2] => { results := [.lit (.bool false)], args := [d1, d2] }
  | _ => none }
def PageLooksWrongFalsely : Prop := pageLooksRow.holds Try.pinned (OpenSpec.ofChange pageLooksWrong)

/-- 'pigeonrylaw04.PageTurned': WHATEVER THE INPUT: true; the input reads as it did. -/
def pageTurnedSpec : ChangeSpec := { name := "pageTurned", fn := fun _ => fun
  | [d1, d2, d3] => { results := [.lit (.bool true)], args := [d1, d2, d3] }
  | _ => none }
def pageTurnedRow : OpenClaim := { program := "ythepcoifcoinoaa", sum := "7706554a30e128097306ce320e0c3e05f2cc4080da63aaf331de82e561cf1b0c", func := "pigeonry/pigeonrylaw04.PageTurned", spec := "pageTurned", unfollowed := true, recurses := true, apart := false }
def PageTurnedSaid : Prop := pageTurnedRow.holds Try.pinned (OpenSpec.ofChange pageTurnedSpec)

/-- ITS FALSE NEIGHBOUR: 'it returns false'. Refute it at one input. -/
def pageTurnedWrong : ChangeSpec := { name := "pageTurned", fn := fun _ => fun
  | [d1, d2, d3] => { results := [.lit (.bool false)], args := [d1, d2, d3] }
  | _ => none }
def PageTurnedWrongFalsely : Prop := pageTurnedRow.holds Try.pinned (OpenSpec.ofChange pageTurnedWrong)

/-- 'pigeonrylaw04.PageMoves': WHATEVER THE INPUT: true; the input reads as it did. -/
def pageMovesSpec : ChangeSpec := { name := "pageMoves", fn := fun _ => fun
  | [d1, d2, d3] => { results := [.lit (.bool true)], args := [d1, d2, d3] }
  | _ => none }
def pageMovesRow : OpenClaim := { program := "ythepcoifcoinoaa", sum := "7706554a30e128097306ce320e0c3e05f2cc4080da63aaf331de82e561cf1b0c", func := "pigeonry/pigeonrylaw04.PageMoves", spec := "pageMoves", unfollowed := true, recurses := true, apart := false }
def PageMovesSaid : Prop := pageMovesRow.holds Try.pinned (OpenSpec.ofChange pageMovesSpec)

/-- ITS FALSE NEIGHBOUR: 'it returns false'. Refute it at one input. -/
def pageMovesWrong : ChangeSpec := { name := "pageMoves", fn := fun _ => fun
  | [d1, d2, d3] => { results := [.lit (.bool false)], args := [d1, d2, d3] }
  | _ => none }
def PageMovesWrongFalsely : Prop := pageMovesRow.holds Try.pinned (OpenSpec.ofChange pageMovesWrong)

/-- 'pigeonrylaw04.PageRaws': WHATEVER THE INPUT: true; the input reads as it did. -/
def pageRawsSpec : ChangeSpec := { name := "pageRaws", fn := fun _ => fun
  | [d1, d2] => { results := [.lit (.bool true)], args := [d1, d2] }
  | _ => none }
def pageRawsRow : OpenClaim := { program := "ythepcoifcoinoaa", sum := "7706554a30e128097306ce320e0c3e05f2cc4080da63aaf331de82e561cf1b0c", func := "pigeonry/pigeonrylaw04.PageRaws", spec := "pageRaws", unfollowed := true, recurses := true, apart := false }
def PageRawsSaid : Prop := pageRawsRow.holds Try.pinned (OpenSpec.ofChange pageRawsSpec)

/-- ITS FALSE NEIGHBOUR: 'it returns false'. Refute it at one input. -/
def pageRawsWrong : ChangeSpec := { name := "pageRaws", fn := fun _ => fun
  | [d1, d2] => { results := [.lit (.bool false)], args := [d1, d2] }
  | _ => none }
def PageRawsWrongFalsely : Prop := pageRawsRow.holds Try.pinned (OpenSpec.ofChange pageRawsWrong)

/-- 'pigeonrylaw04.PageSame': WHATEVER THE INPUT: true; the input reads as it did. -/
def pageSameSpec : ChangeSpec := { name := "pageSame", fn := fun _ => fun
  | [d1, d2, d3] => { results := [.lit (.bool true)], args := [d1, d2, d3] }
  | _ => none }
def pageSameRow : OpenClaim := { program := "ythepcoifcoinoaa", sum := "7706554a30e128097306ce320e0c3e05f2cc4080da63aaf331de82e561cf1b0c", func := "pigeonry/pigeonrylaw04.PageSame", spec := "pageSame", unfollowed := true, recurses := true, apart := false }
def PageSameSaid : Prop := pageSameRow.holds Try.pinned (OpenSpec.ofChange pageSameSpec)

/-- ITS FALSE NEIGHBOUR: 'it returns false'. Refute it at one input. -/
def pageSameWrong : ChangeSpec := { name := "pageSame", fn := fun _ => fun
  | [d1, d2, d3] => { results := [.lit (.bool false)], args := [d1, d2, d3] }
  | _ => none }
def PageSameWrongFalsely : Prop := pageSameRow.holds Try.pinned (OpenSpec.ofChange pageSameWrong)

/-- 'pigeonrylaw06.MetaCounts': WHATEVER THE INPUT: true; the input reads as it did. -/
def metaCountsSpec : ChangeSpec := { name := "metaCounts", fn := fun _ => fun
  | [d1, d2, d3] => { results := [.lit (.bool true)], args := [d1, d2, d3] }
  | _ => none }
def metaCountsRow : OpenClaim := { program := "ythepcoifcoinoaa", sum := "7706554a30e128097306ce320e0c3e05f2cc4080da63aaf331de82e561cf1b0c", func := "pigeonry/pigeonrylaw06.MetaCounts", spec := "metaCounts", unfollowed := true, recurses := true, apart := false }
def MetaCountsSaid : Prop := metaCountsRow.holds Try.pinned (OpenSpec.ofChange metaCountsSpec)

/-- ITS FALSE NEIGHBOUR: 'it returns false'. Refute it at one input. -/
def metaCountsWrong : ChangeSpec := { name := "metaCounts", fn := fun _ => fun
  | [d1, d2, d3] => { results := [.lit (.bool false)], args := [d1, d2, d3] }
  | _ => none }
def MetaCountsWrongFalsely : Prop := metaCountsRow.holds Try.pinned (OpenSpec.ofChange metaCountsWrong)

/-- 'pigeonrylaw06.MetaRaws': WHATEVER THE INPUT: true; the input reads as it did. -/
def metaRawsSpec : ChangeSpec := { name := "metaRaws", fn := fun _ => fun
  | [d] => { results := [.lit (.bool true)], args := [d] }
  | _ => none }
def metaRawsRow : OpenClaim := { program := "ythepcoifcoinoaa", sum := "7706554a30e128097306ce320e0c3e05f2cc4080da63aaf331de82e561cf1b0c", func := "pigeonry/pigeonrylaw06.MetaRaws", spec := "metaRaws", unfollowed := true, recurses := true, apart := false }
def MetaRawsSaid : Prop := metaRawsRow.holds Try.pinned (OpenSpec.ofChange metaRawsSpec)

/-- ITS FALSE NEIGHBOUR: 'it returns false'. Refute it at one input. -/
def metaRawsWrong : ChangeSpec := { name := "metaRaws", fn := fun _ => fun
  | [d] => { results := [.lit (.bool false)], args := [d] }
  | _ => none }
def MetaRawsWrongFalsely : Prop := metaRawsRow.holds Try.pinned (OpenSpec.ofChange metaRawsWrong)

/-- 'pigeonrylaw06.MetaTorn': WHATEVER THE INPUT: true; the input reads as it did. -/
def metaTornSpec : ChangeSpec := { name := "metaTorn", fn := fun _ => fun
  | [d1, d2, d3] => { results := [.lit (.bool true)], args := [d1, d2, d3] }
  | _ => none }
def metaTornRow : OpenClaim := { program := "ythepcoifcoinoaa", sum := "7706554a30e128097306ce320e0c3e05f2cc4080da63aaf331de82e561cf1b0c", func := "pigeonry/pigeonrylaw06.MetaTorn", spec := "metaTorn", unfollowed := true, recurses := true, apart := false }
def MetaTornSaid : Prop := metaTornRow.holds Try.pinned (OpenSpec.ofChange metaTornSpec)

/-- ITS FALSE NEIGHBOUR: 'it returns false'. Refute it at one input. -/
def metaTornWrong : ChangeSpec := { name := "metaTorn", fn := fun _ => fun
  | [d1, d2, d3] => { results := [.lit (.bool false)], args := [d1, d2, d3] }
  | _ => none }
def MetaTornWrongFalsely : Prop := metaTornRow.holds Try.pinned (OpenSpec.ofChange metaTornWrong)

/-- 'pigeonrylaw06.MetaNewer': WHATEVER THE INPUT: true; the input reads as it did. -/
def metaNewerSpec : ChangeSpec := { name := "metaNewer", fn := fun _ => fun
  | [d1, d2] => { results := [.lit (.bool true)], args := [d1, d2] }
  | _ => none }
def metaNewerRow : OpenClaim := { program := "ythepcoifcoinoaa", sum := "7706554a30e128097306ce320e0c3e05f2cc4080da63aaf331de82e561cf1b0c", func := "pigeonry/pigeonrylaw06.MetaNewer", spec := "metaNewer", unfollowed := true, recurses := true, apart := false }
def MetaNewerSaid : Prop := metaNewerRow.holds Try.pinned (OpenSpec.ofChange metaNewerSpec)

/-- ITS FALSE NEIGHBOUR: 'it returns false'. Refute it at one input. -/
def metaNewerWrong : ChangeSpec := { name := "metaNewer", fn := fun _ => fun
  | [d1, d2] => { results := [.lit (.bool false)], args := [d1, d2] }
  | _ => none }
def MetaNewerWrongFalsely : Prop := metaNewerRow.holds Try.pinned (OpenSpec.ofChange metaNewerWrong)

/-- 'pigeonrylaw06.MetaFirst': WHATEVER THE INPUT: true; the input reads as it did. -/
def metaFirstSpec : ChangeSpec := { name := "metaFirst", fn := fun _ => fun
  | [d1, d2] => { results := [.lit (.bool true)], args := [d1, d2] }
  | _ => none }
def metaFirstRow : OpenClaim := { program := "ythepcoifcoinoaa", sum := "7706554a30e128097306ce320e0c3e05f2cc4080da63aaf331de82e561cf1b0c", func := "pigeonry/pigeonrylaw06.MetaFirst", spec := "metaFirst", unfollowed := true, recurses := true, apart := false }
def MetaFirstSaid : Prop := metaFirstRow.holds Try.pinned (OpenSpec.ofChange metaFirstSpec)

/-- ITS FALSE NEIGHBOUR: 'it returns false'. Refute it at one input. -/
def metaFirstWrong : ChangeSpec := { name := "metaFirst", fn := fun _ => fun
  | [d1, d2] => { results := [.lit (.bool false)], args := [d1, d2] }
  | _ => none }
def MetaFirstWrongFalsely : Prop := metaFirstRow.holds Try.pinned (OpenSpec.ofChange metaFirstWrong)

/- THE SECOND FORM. 'bulk': how many values and letters a reading holds, each counted each time it is reached (what is shared counts as often as it is met; a slice's spare places count too). A statement '..UptoSaid' is the law's where the arguments, and the package variables that the reading takes, are together of bulk at most 1048576: NARROWER than '..Said'. Prove '..Said' where nothing that the law and all that it calls make is longer than what came in: it says more and counts as full. Else prove '..UptoSaid'. A law counts once. -/
mutual
def uptoBulk {H : Type} : DataW H → Nat
  | .lit (.string bytes) => bytes.length + 1
  | .lit _ => 1
  | .nil => 1
  | .ptr d => uptoBulk d + 1
  | .slice elems spare => uptoBulkAll elems + uptoBulkAll spare + 1
  | .agg parts => uptoBulkAll parts + 1
  | .iface _ d => uptoBulk d + 1
  | .map entries => uptoBulkEntries entries + 1
  | .held _ => 1
def uptoBulkAll {H : Type} : List (DataW H) → Nat
  | [] => 0
  | d :: r => uptoBulk d + uptoBulkAll r
def uptoBulkEntries {H : Type} : List (Lit × DataW H) → Nat
  | [] => 0
  | x :: r => uptoBulkEntry x + uptoBulkEntries r
def uptoBulkEntry {H : Type} : Lit × DataW H → Nat
  | (.string bytes, d) => bytes.length + uptoBulk d + 1
  | (_, d) => uptoBulk d + 1
 end
def uptoSmall : (H : Type) → List (DataW H) → Bool := fun _ ds => decide (uptoBulkAll ds ≤ 1048576)
def OpenSpec.upto (s : _root_.Go.ChangeSpec) : _root_.Go.OpenSpec := { _root_.Go.OpenSpec.ofChange s with cond := some uptoSmall }

/-- 'pigeonrylaw04.PageLooks', WHERE WHAT IT READS IS OF BULK AT MOST 1048576: true; the input reads as it did. -/
def pageLooksUptoRow : OpenClaim := { program := "ythepcoifcoinoaa", sum := "7706554a30e128097306ce320e0c3e05f2cc4080da63aaf331de82e561cf1b0c", func := "pigeonry/pigeonrylaw04.PageLooks", spec := "pageLooks", unfollowed := true, recurses := true, apart := false, narrowed := true }
def PageLooksUptoSaid : Prop := pageLooksUptoRow.holds Try.pinned (OpenSpec.upto pageLooksSpec)

/-- 'pigeonrylaw04.PageTurned', WHERE WHAT IT READS IS OF BULK AT MOST 1048576: true; the input reads as it did. -/
def pageTurnedUptoRow : OpenClaim := { program := "ythepcoifcoinoaa", sum := "7706554a30e128097306ce320e0c3e05f2cc4080da63aaf331de82e561cf1b0c", func := "pigeonry/pigeonrylaw04.PageTurned", spec := "pageTurned", unfollowed := true, recurses := true, apart := false, narrowed := true }
def PageTurnedUptoSaid : Prop := pageTurnedUptoRow.holds Try.pinned (OpenSpec.upto pageTurnedSpec)

/-- 'pigeonrylaw04.PageMoves', WHERE WHAT IT READS IS OF BULK AT MOST 1048576: true; the input reads as it did. -/
def pageMovesUptoRow : OpenClaim := { program := "ythepcoifcoinoaa", sum := "7706554a30e128097306ce320e0c3e05f2cc4080da63aaf331de82e561cf1b0c", func := "pigeonry/pigeonrylaw04.PageMoves", spec := "pageMoves", unfollowed := true, recurses := true, apart := false, narrowed := true }
def PageMovesUptoSaid : Prop := pageMovesUptoRow.holds Try.pinned (OpenSpec.upto pageMovesSpec)

/-- 'pigeonrylaw04.PageRaws', WHERE WHAT IT READS IS OF BULK AT MOST 1048576: true; the input reads as it did. -/
def pageRawsUptoRow : OpenClaim := { program := "ythepcoifcoinoaa", sum := "7706554a30e128097306ce320e0c3e05f2cc4080da63aaf331de82e561cf1b0c", func := "pigeonry/pigeonrylaw04.PageRaws", spec := "pageRaws", unfollowed := true, recurses := true, apart := false, narrowed := true }
def PageRawsUptoSaid : Prop := pageRawsUptoRow.holds Try.pinned (OpenSpec.upto pageRawsSpec)

/-- 'pigeonrylaw04.PageSame', WHERE WHAT IT READS IS OF BULK AT MOST 1048576: true; the input reads as it did. -/
def pageSameUptoRow : OpenClaim := { program := "ythepcoifcoinoaa", sum := "7706554a30e128097306ce320e0c3e05f2cc4080da63aaf331de82e561cf1b0c", func := "pigeonry/pigeonrylaw04.PageSame", spec := "pageSame", unfollowed := true, recurses := true, apart := false, narrowed := true }
def PageSameUptoSaid : Prop := pageSameUptoRow.holds Try.pinned (OpenSpec.upto pageSameSpec)

/-- 'pigeonrylaw06.MetaCounts', WHERE WHAT IT READS IS OF BULK AT MOST 1048576: true; the input reads as it did. -/
def metaCountsUptoRow : OpenClaim := { program := "ythepcoifcoinoaa", sum := "7706554a30e128097306ce320e0c3e05f2cc4080da63aaf331de82e561cf1b0c", func := "pigeonry/pigeonrylaw06.MetaCounts", spec := "metaCounts", unfollowed := true, recurses := true, apart := false, narrowed := true }
def MetaCountsUptoSaid : Prop := metaCountsUptoRow.holds Try.pinned (OpenSpec.upto metaCountsSpec)

/-- 'pigeonrylaw06.MetaRaws', WHERE WHAT IT READS IS OF BULK AT MOST 1048576: true; the input reads as it did. -/
def metaRawsUptoRow : OpenClaim := { program := "ythepcoifcoinoaa", sum := "7706554a30e128097306ce320e0c3e05f2cc4080da63aaf331de82e561cf1b0c", func := "pigeonry/pigeonrylaw06.MetaRaws", spec := "metaRaws", unfollowed := true, recurses := true, apart := false, narrowed := true }
def MetaRawsUptoSaid : Prop := metaRawsUptoRow.holds Try.pinned (OpenSpec.upto metaRawsSpec)

/-- 'pigeonrylaw06.MetaTorn', WHERE WHAT IT READS IS OF BULK AT MOST 1048576: true; the input reads as it did. -/
def metaTornUptoRow : OpenClaim := { program := "ythepcoifcoinoaa", sum := "7706554a30e128097306ce320e0c3e05f2cc4080da63aaf331de82e561cf1b0c", func := "pigeonry/pigeonrylaw06.MetaTorn", spec := "metaTorn", unfollowed := true, recurses := true, apart := false, narrowed := true }
def MetaTornUptoSaid : Prop := metaTornUptoRow.holds Try.pinned (OpenSpec.upto metaTornSpec)

/-- 'pigeonrylaw06.MetaNewer', WHERE WHAT IT READS IS OF BULK AT MOST 1048576: true; the input reads as it did. -/
def metaNewerUptoRow : OpenClaim := { program := "ythepcoifcoinoaa", sum := "7706554a30e128097306ce320e0c3e05f2cc4080da63aaf331de82e561cf1b0c", func := "pigeonry/pigeonrylaw06.MetaNewer", spec := "metaNewer", unfollowed := true, recurses := true, apart := false, narrowed := true }
def MetaNewerUptoSaid : Prop := metaNewerUptoRow.holds Try.pinned (OpenSpec.upto metaNewerSpec)

/-- 'pigeonrylaw06.MetaFirst', WHERE WHAT IT READS IS OF BULK AT MOST 1048576: true; the input reads as it did. -/
def metaFirstUptoRow : OpenClaim := { program := "ythepcoifcoinoaa", sum := "7706554a30e128097306ce320e0c3e05f2cc4080da63aaf331de82e561cf1b0c", func := "pigeonry/pigeonrylaw06.MetaFirst", spec := "metaFirst", unfollowed := true, recurses := true, apart := false, narrowed := true }
def MetaFirstUptoSaid : Prop := metaFirstUptoRow.holds Try.pinned (OpenSpec.upto metaFirstSpec)

end Rows
end Go.Proofs.Ythepcoifcoinoaa
