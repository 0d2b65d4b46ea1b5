/- Package match: a book that is not there. -/
import Derived.Test.YtoadlafdeoklbaaGreatDoorPa46
import Derived.Test.YtoadlafdeoklbaaGreatDoorPa35

namespace Go.Proofs.YtoadlafdeoklbaaGreatDoor
open Go.RowKit Go.Maps Go.Shelf

/-- There is no book. -/
def NoBk (w:World)(nv:Value):Prop:=∀W,Keeps w W []→Calls Tryz.prog 33 #[nv] W fun e w' =>e= .returned (.bool true)∧w' =W
section
variable {w:World} {nv:Value}
theorem BkIn.list {W:World}{d:Nat}{L:List Sb}(h:BkIn w W d L):Calls Tryz.prog 28 #[ptr0 d] W fun e w' =>∃v,e= .returned v∧OwnN w' W.heap.size 25 3 sbC v L∧Keeps W w' []:=
 callsIn_wide.1 (mtList_in 3 (by omega) W (ptr0 d) L (Nat.le_trans h.ok.le (by omega)) fun W' hk=>mtAllF_any W' _ L (h.keeps hk).all)
end
end Go.Proofs.YtoadlafdeoklbaaGreatDoor
