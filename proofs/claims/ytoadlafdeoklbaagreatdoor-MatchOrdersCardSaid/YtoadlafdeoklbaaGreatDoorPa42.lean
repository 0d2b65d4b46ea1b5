/- Cells of a row stored in one go. -/
import Derived.Test.YtoadlafdeoklbaaGreatDoorPa0
import Derived.Deep.MidRow

namespace Go.Proofs.YtoadlafdeoklbaaGreatDoor
open Go.RowKit

def setFrom:List Value→Nat→Array Value→Array Value
 | [],_,cs=>cs
 | v::vs,o,cs=>setFrom vs (o+1) (cs.setIfInBounds o v)
theorem setFrom_size:∀(vs:List Value) (o:Nat) (cs:Array Value),(setFrom vs o cs).size=cs.size
 | [],_,_=>rfl
 | v::vs,o,cs=>by rw[setFrom,setFrom_size vs (o+1)];simp
theorem setFrom_get:∀(vs:List Value) (o:Nat) (cs:Array Value) (i:Nat),i < cs.size→(setFrom vs o cs)[i]? =if o≤i∧i < o+vs.length then vs[i - o]? else cs[i]?
 | [],o,cs,i,hi=>by rw[setFrom,if_neg (by simp)]
 | v::vs,o,cs,i,hi=>by
  rw[setFrom,setFrom_get vs (o+1) _ i (by simpa using hi)]
  by_cases h1:o+1≤i∧i < o+1+vs.length
  ·rw[if_pos h1,if_pos (by simp;omega),show i - o=(i - (o+1))+1 by omega,zgs]
  ·rw[if_neg h1]
   by_cases h2:i=o
   ·subst h2
    rw[if_pos (by simp),Nat.sub_self,zgz];simp[hi]
   ·rw[if_neg (by simp;omega)]
    simp[Ne.symm h2]
theorem Row.setCells {t:TypeId}{g:Nat}:∀(vs:List Value) (o:Nat) {w:World} {cs:Array Value},Row w g t cs→Row (w.setCells g o vs) g t (setFrom vs o cs)
 | [],_,_,_,h=>h
 | v::vs,o,_,_,h=>Row.setCells vs (o+1) (h.store o v)
theorem Keeps.setCells {g:Nat}:∀(vs:List Value) (o:Nat) (w:World),Keeps w (w.setCells g o vs) [g]
 | [],_,w=>Keeps.refl w [g]
 | v::vs,o,w=>(Keeps.setCell w ⟨g,o,none⟩ v).trans (Keeps.setCells vs (o+1) _) (fun _ h _=>h)
theorem Row.there {w:World}{g:Nat}{t:TypeId}{cs:Array Value}(h:Row w g t cs){o n:Nat}(hn:o+n≤cs.size):w.there g o n:=fun j hj=>⟨by rw[h.cell (o+j),Array.getElem?_eq_getElem (by omega)];rfl,h.frozen (o+j)⟩
end Go.Proofs.YtoadlafdeoklbaaGreatDoor
