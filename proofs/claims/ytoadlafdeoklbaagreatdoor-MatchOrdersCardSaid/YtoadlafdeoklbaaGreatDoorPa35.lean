/- Reference 14: Leave, whole. Package match: the closure of Of. Plain: the place of the first thing of which something is so. Package match: slices.IndexFunc at entries. -/
import Derived.Test.YtoadlafdeoklbaaGreatDoorPa34
import Derived.Test.YtoadlafdeoklbaaGreatDoorPa7

namespace Go.Proofs.YtoadlafdeoklbaaGreatDoor
open Go.RowKit Go.Maps Go.Shelf

/-- What the reference's Leave answers. -/
def RlPost (w:World)(L:List Sb)(c:List UInt8)(e:Ending)(w' :World):Prop:=Keeps w w' []∧∃v,e= .returned (.tuple #[v,.int .i64 ((mtLeaveA L c).2.1:Nat),.int .i64 (mtLeaveA L c).2.2])∧LsAt w' v (mtLeaveA L c).1

end Go.Proofs.YtoadlafdeoklbaaGreatDoor

namespace Go.Proofs.YtoadlafdeoklbaaGreatDoor
open Go.RowKit

def fIdx {α:Type}(p:α→Bool)(l:List α):Int:=match l.findIdx? p with
 | some i=>(i:Int)
 | none=> -1
end Go.Proofs.YtoadlafdeoklbaaGreatDoor

namespace Go.Proofs.YtoadlafdeoklbaaGreatDoor
open Go.RowKit Go.Maps Go.Shelf

abbrev ofFn (bx:Nat):Value:= .func (.func 60) #[] #[ptr0 bx]
end Go.Proofs.YtoadlafdeoklbaaGreatDoor
