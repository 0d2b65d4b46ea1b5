/- Cells of a row stored in one go. An element of a list of one's own is laid anew. -/
import Derived.Test.YtoadlafdeoklbaaGreatDoorPa0
import Derived.Deep.MidRow
import Derived.Test.YtoadlafdeoklbaaGreatDoorPa7

namespace Go.Proofs.YtoadlafdeoklbaaGreatDoor
open Go.RowKit

def setFrom:List Value→Nat→Array Value→Array Value
 | [],_,cs=>cs
 | v::vs,o,cs=>setFrom vs (o+1) (cs.setIfInBounds o v)
theorem setFrom_size:∀(vs:List Value) (o:Nat) (cs:Array Value),(setFrom vs o cs).size=cs.size
 | [],_,_=>rfl
 | v::vs,o,cs=>by rw[setFrom,setFrom_size vs (o+1)];simp
theorem setFrom_get:∀(vs:List Value) (o:Nat) (cs:Array Value) (i:Nat),i < cs.size→(setFrom vs o cs)[i]? =if o≤i∧i < o+vs.length then vs[i - o]? else cs[i]?
 | [],o,cs,i,hi=>by rw[setFrom,if_neg (by simp)]
 | v::vs,o,cs,i,hi=>by
  rw[setFrom,setFrom_get vs (o+1) _ i (by simpa using hi)]
  by_cases h1:o+1≤i∧i < o+1+vs.length
  ·rw[if_pos h1,if_pos (by simp;omega),show i - o=(i - (o+1))+1 by omega,zgs]
  ·rw[if_neg h1]
   by_cases h2:i=o
   ·subst h2
    rw[if_pos (by simp),Nat.sub_self,zgz];simp[hi]
   ·rw[if_neg (by simp;omega)]
    simp[Ne.symm h2]
theorem Row.setCells {t:TypeId}{g:Nat}:∀(vs:List Value) (o:Nat) {w:World} {cs:Array Value},Row w g t cs→Row (w.setCells g o vs) g t (setFrom vs o cs)
 | [],_,_,_,h=>h
 | v::vs,o,_,_,h=>Row.setCells vs (o+1) (h.store o v)
theorem Keeps.setCells {g:Nat}:∀(vs:List Value) (o:Nat) (w:World),Keeps w (w.setCells g o vs) [g]
 | [],_,w=>Keeps.refl w [g]
 | v::vs,o,w=>(Keeps.setCell w ⟨g,o,none⟩ v).trans (Keeps.setCells vs (o+1) _) (fun _ h _=>h)
theorem Row.there {w:World}{g:Nat}{t:TypeId}{cs:Array Value}(h:Row w g t cs){o n:Nat}(hn:o+n≤cs.size):w.there g o n:=fun j hj=>⟨by rw[h.cell (o+j),Array.getElem?_eq_getElem (by omega)];rfl,h.frozen (o+j)⟩
theorem setFrom_all {X Z:Array Value}(h:Z.size=X.size):setFrom X.toList 0 Z=X:=by
 apply Array.ext_getElem?;intro i
 by_cases hi:i < Z.size
 ·rw[setFrom_get _ _ _ _ hi,if_pos ⟨Nat.zero_le _,by simp;omega⟩,Nat.sub_zero,Array.getElem?_toList]
 ·rw[Array.getElem?_eq_none (by rw[setFrom_size];omega),Array.getElem?_eq_none (by omega)]
/-- A whole value is laid into a box. -/
theorem wpList_store_row {P:Program}{ops:Array Oper}{Q:Exit→Act→World→Prop}{rest:List Oper}{op:Oper}{a:Act}{w:World}(hgd:op.guard=none)(x y:Operand)(t:TypeId)(ho:op.op= .store t x y)(g:Nat)(X Z:Array Value)(hr:Row w g t Z)(hi:(P.info? t).map (·.size)=some X.size)(hZ:Z.size=X.size)(h1:X.all (·.oneCell')=true)
  (hx:a.eval x= .pointer (some ⟨g,0,none⟩)) (hy:a.eval y= .agg X)
  (h:∀w',Row w' g t X→Keeps w w' [g]→wpList P ops Q rest (a.put op.dst undef) w'):wpList P ops Q (op::rest) a w:=by
 refine wpList_plain hgd fun _ hK=> ?_
 have hrun:=run_storeAt_mid (P:=P) w g 0 t X (hr.there (by omega)) hi h1;have h2:=hr.setCells X.toList 0;rw[setFrom_all hZ]at h2;unfold Oper.wp execOp;simp only[ho,hx,hy,Sem.run_bind,hrun,Result.andThen_ok,Sem.run_pure];exact hK _ _ (h _ h2 (Keeps.setCells _ _ _))

section
variable {α:Type} {k:Nat} {f:α→List Value} {W:World} {e:TypeId} {B:Nat}
theorem OwnN.put (E:Enc k f){g c:Nat}{l:List α}(h:OwnN W B e k f (.slice (some ⟨g,0,none⟩) l.length c) l){i:Nat}(hi:i < l.length)(y:α):
  ∃Z,Row W g e Z∧i*k+k≤Z.size∧B≤g∧∀W',Row W' g e (setFrom (f y) (i*k) Z)→OwnN W' B e k f (.slice (some ⟨g,0,none⟩) l.length c) (l.set i y):=by
 obtain⟨hn,⟨h2,_⟩ | ⟨g',cap,cur,h2,h3,h4,h5,h6,h7,h8⟩⟩:=h
 ·cases h2
 injection h2 with e1 _ e3
 injection e1 with e1
 injection e1 with e1
 subst e1 e3;have hk:=E.pos;have hik:i*k+k≤l.length*k:=by rw[←Nat.succ_mul];exact Nat.mul_le_mul_right _ hi
 have hcap:l.length*k≤c*k:=Nat.mul_le_mul_right _ h5;refine⟨cur,h4,by omega,h3,fun W' hr=> ?_⟩;unfold OwnN;rw[List.length_set];refine⟨?_,.inr ⟨g,c,_,rfl,h3,hr,h5,h6, ?_, ?_⟩⟩
 ·rw[flat_length E,List.length_set]
 ·rw[setFrom_size,h7]
 ·refine List.ext_getElem? fun q=> ?_
  by_cases hq:q < l.length*k
  ·have h9:q / k < l.length:=(Nat.div_lt_iff_lt_mul hk).2 hq
   have h10:q % k < k:=Nat.mod_lt _ hk;have h11:q / k*k+q % k=q:=by rw[Nat.mul_comm];exact Nat.div_add_mod q k
   have hs:q / k < (l.set i y).length:=by rw[List.length_set];exact h9
   have hr1:((l.set i y).flatMap f)[q]? =(f (l.set i y)[q / k])[q % k]? :=by rw[←flat_get E hs h10,h11]
   have hr2:cur[q]? =(f l[q / k])[q % k]? :=by
    rw[←flat_get E h9 h10,h11,←h8,List.getElem?_take,if_pos hq,Array.getElem?_toList]
   rw[hr1,List.getElem?_take,if_pos hq,Array.getElem?_toList,setFrom_get _ _ _ _ (by omega),E.len]
   by_cases hqi:i=q / k
   ·subst hqi
    rw[if_pos (by omega),List.getElem_set_self]
    congr 1
    omega
   ·rw[if_neg (fun hc=>hqi (by
     refine(Nat.div_eq_of_lt_le ?_ ?_).symm
     ·exact hc.1
     ·rw[Nat.succ_mul];exact hc.2)),hr2,List.getElem_set_ne hqi]
  ·rw[List.getElem?_eq_none (by rw[List.length_take];omega),List.getElem?_eq_none (by rw[flat_length E,List.length_set];omega)]
end
/-- A whole value is laid into the middle of a row. -/
theorem wpList_store_mid {P:Program}{ops:Array Oper}{Q:Exit→Act→World→Prop}{rest:List Oper}{op:Oper}{a:Act}{w:World}(hgd:op.guard=none)(x y:Operand)(t u:TypeId)(ho:op.op= .store t x y)(g o:Nat)(X Z:Array Value)(hr:Row w g u Z)(hi:(P.info? t).map (·.size)=some X.size)(hZ:o+X.size≤Z.size)(h1:X.all (·.oneCell')=true)
  (hx:a.eval x= .pointer (some ⟨g,o,none⟩)) (hy:a.eval y= .agg X)
  (h:∀w',Row w' g u (setFrom X.toList o Z)→Keeps w w' [g]→wpList P ops Q rest (a.put op.dst undef) w'):wpList P ops Q (op::rest) a w:=by
 refine wpList_plain hgd fun _ hK=> ?_
 have hrun:=run_storeAt_mid (P:=P) w g o t X (hr.there hZ) hi h1;have h2:=hr.setCells X.toList o;unfold Oper.wp execOp;simp only[ho,hx,hy,Sem.run_bind,hrun,Result.andThen_ok,Sem.run_pure];exact hK _ _ (h _ h2 (Keeps.setCells _ _ _))
end Go.Proofs.YtoadlafdeoklbaaGreatDoor
