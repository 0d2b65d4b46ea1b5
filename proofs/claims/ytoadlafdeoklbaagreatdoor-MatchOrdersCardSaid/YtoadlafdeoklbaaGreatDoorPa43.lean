/- An element of a list of one's own is laid anew. -/
import Derived.Test.YtoadlafdeoklbaaGreatDoorPa7
import Derived.Test.YtoadlafdeoklbaaGreatDoorPa42

namespace Go.Proofs.YtoadlafdeoklbaaGreatDoor
open Go.RowKit

section
variable {α:Type} {k:Nat} {f:α→List Value} {W:World} {e:TypeId} {B:Nat}
theorem OwnN.put (E:Enc k f){g c:Nat}{l:List α}(h:OwnN W B e k f (.slice (some ⟨g,0,none⟩) l.length c) l){i:Nat}(hi:i < l.length)(y:α):
  ∃Z,Row W g e Z∧i*k+k≤Z.size∧B≤g∧∀W',Row W' g e (setFrom (f y) (i*k) Z)→OwnN W' B e k f (.slice (some ⟨g,0,none⟩) l.length c) (l.set i y):=by
 obtain⟨hn,⟨h2,_⟩ | ⟨g',cap,cur,h2,h3,h4,h5,h6,h7,h8⟩⟩:=h
 ·cases h2
 injection h2 with e1 _ e3
 injection e1 with e1
 injection e1 with e1
 subst e1 e3;have hk:=E.pos;have hik:i*k+k≤l.length*k:=by rw[←Nat.succ_mul];exact Nat.mul_le_mul_right _ hi
 have hcap:l.length*k≤c*k:=Nat.mul_le_mul_right _ h5;refine⟨cur,h4,by omega,h3,fun W' hr=> ?_⟩;unfold OwnN;rw[List.length_set];refine⟨?_,.inr ⟨g,c,_,rfl,h3,hr,h5,h6, ?_, ?_⟩⟩
 ·rw[flat_length E,List.length_set]
 ·rw[setFrom_size,h7]
 ·refine List.ext_getElem? fun q=> ?_
  by_cases hq:q < l.length*k
  ·have h9:q / k < l.length:=(Nat.div_lt_iff_lt_mul hk).2 hq
   have h10:q % k < k:=Nat.mod_lt _ hk;have h11:q / k*k+q % k=q:=by rw[Nat.mul_comm];exact Nat.div_add_mod q k
   have hs:q / k < (l.set i y).length:=by rw[List.length_set];exact h9
   have hr1:((l.set i y).flatMap f)[q]? =(f (l.set i y)[q / k])[q % k]? :=by rw[←flat_get E hs h10,h11]
   have hr2:cur[q]? =(f l[q / k])[q % k]? :=by
    rw[←flat_get E h9 h10,h11,←h8,List.getElem?_take,if_pos hq,Array.getElem?_toList]
   rw[hr1,List.getElem?_take,if_pos hq,Array.getElem?_toList,setFrom_get _ _ _ _ (by omega),E.len]
   by_cases hqi:i=q / k
   ·subst hqi
    rw[if_pos (by omega),List.getElem_set_self]
    congr 1
    omega
   ·rw[if_neg (fun hc=>hqi (by
     refine(Nat.div_eq_of_lt_le ?_ ?_).symm
     ·exact hc.1
     ·rw[Nat.succ_mul];exact hc.2)),hr2,List.getElem_set_ne hqi]
  ·rw[List.getElem?_eq_none (by rw[List.length_take];omega),List.getElem?_eq_none (by rw[flat_length E,List.length_set];omega)]
end
/-- A whole value is laid into the middle of a row. -/
theorem wpList_store_mid {P:Program}{ops:Array Oper}{Q:Exit→Act→World→Prop}{rest:List Oper}{op:Oper}{a:Act}{w:World}(hgd:op.guard=none)(x y:Operand)(t u:TypeId)(ho:op.op= .store t x y)(g o:Nat)(X Z:Array Value)(hr:Row w g u Z)(hi:(P.info? t).map (·.size)=some X.size)(hZ:o+X.size≤Z.size)(h1:X.all (·.oneCell')=true)
  (hx:a.eval x= .pointer (some ⟨g,o,none⟩)) (hy:a.eval y= .agg X)
  (h:∀w',Row w' g u (setFrom X.toList o Z)→Keeps w w' [g]→wpList P ops Q rest (a.put op.dst undef) w'):wpList P ops Q (op::rest) a w:=by
 refine wpList_plain hgd fun _ hK=> ?_
 have hrun:=run_storeAt_mid (P:=P) w g o t X (hr.there hZ) hi h1;have h2:=hr.setCells X.toList o;unfold Oper.wp execOp;simp only[ho,hx,hy,Sem.run_bind,hrun,Result.andThen_ok,Sem.run_pure];exact hK _ _ (h _ h2 (Keeps.setCells _ _ _))
end Go.Proofs.YtoadlafdeoklbaaGreatDoor
