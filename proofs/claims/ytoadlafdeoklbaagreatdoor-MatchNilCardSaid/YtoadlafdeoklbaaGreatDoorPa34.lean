/- Reference 14: Of, Leave. Reference 14: parts of lists of entries; Drop. Reference 14: Drop. -/
import Derived.Test.YtoadlafdeoklbaaGreatDoorPa33

namespace Go.Proofs.YtoadlafdeoklbaaGreatDoor
open Go.RowKit Go.Maps Go.Shelf

/-- Where a loop is that keeps some of a list. -/
structure KpAt (w wr:World)(v:Value)(l:List Sb):Prop where
 own:OwnN wr w.heap.size 25 3 sbC v l
 k:Keeps w wr []

theorem elemSbS:Tryz.prog.underlying 22=some (.slice (Tryz.prog.elem 22)):=by kernel_rfl
theorem sizeSub:∀W,(sizeOf (Tryz.prog.elem 22)).run Tryz.prog W= .ok 3 W:=fun W=>by kernel_rfl
section
variable {e:Operand→Value} {o:Oper} {W:World} {x lo hi:Operand} {a:Option Addr} {len cap l h:Nat} {kl kh:IntKind}
theorem sbSliceL (ho:o.op= .slice 22 x (some lo) none none)(hx:e x= .slice a len cap)(h1:e lo= .int kl (l:Nat))(hl:l≤len):
  (execOp e o).run Tryz.prog W= .ok (.value (.slice (if cap=l then a else a.map (·.add (l*3))) (len - l) (cap - l))) W:=by
 have hs:=run_slice_l (P:=Tryz.prog) W 22 a len cap elemSbS kl (l:Int) (by omega) (by omega);rw[←run_sliceAt_slice W _ _ _ _ _ elemSbS,sizeSub]at hs;unfold execOp;simp only[ho,hx,h1,Option.map_some,Option.map_none,Sem.run_bind,hs,Result.andThen_ok,Sem.run_pure,sliced,Int.toNat_natCast]
theorem sbSliceH (ho:o.op= .slice 22 x none (some hi) none)(hx:e x= .slice a len cap)(h1:e hi= .int kl (l:Nat))(hl:l≤cap):
  (execOp e o).run Tryz.prog W= .ok (.value (.slice a l cap)) W:=by
 have hs:=run_slice_h (P:=Tryz.prog) W 22 a len cap elemSbS kl (l:Int) (by omega) (by omega);rw[←run_sliceAt_slice W _ _ _ _ _ elemSbS,sizeSub]at hs;unfold execOp;simp only[ho,hx,h1,Option.map_some,Option.map_none,Sem.run_bind,hs,Result.andThen_ok,Sem.run_pure,sliced,Int.toNat_natCast]
 try simp
 try (intro _;cases a <;> simp[Addr.add])
end
theorem listAt_drop {α:Type}{f:α→List Value}{w:World}{e:TypeId}{k n cap:Nat}{A:Option Addr}{l:List α}(h:ListAt w e k f A l)(hc:l.length≤cap):ListAt w e k f (if cap=n then A else A.map (·.add (n*k))) (l.drop n):=fun hp=>by
 rw[List.length_drop]at hp;obtain⟨b,o,cs,rfl,hr,hcs⟩:=h (by omega);rw[if_neg (by omega)];refine⟨b,o+n*k,cs,by simp[Addr.add],hr,fun i hi j hj=> ?_⟩;rw[List.length_drop]at hi;have h1:=hcs (n+i) (by omega) j hj;rw[List.getElem_drop,←h1]
 congr 1
 rw[Nat.add_mul];omega
theorem find_parts {L:List Sb}{f c:List UInt8}{j:Nat}(hL:SbUp L)(h:FindIs L f c j)(hh:mtHas L f c=true):mtDrop L f c=L.take j++L.drop (j+1)∧j < L.length:=by
 obtain⟨h1,h2,h3⟩:=h;obtain⟨x,hx,e1,e2⟩:=mtHas_iff.1 hh;have hj:j < L.length:=by
  refine Nat.lt_of_le_of_ne h1 fun e=> ?_
  subst e;have:=h2 x (by rw[List.take_length];exact hx);rw[e1,e2,kLt_irrefl]at this
  cases this
 refine⟨?_,hj⟩;have hd:L.drop j=L[j]::L.drop (j+1):=List.drop_eq_getElem_cons hj;have hfs:=find_stop hL hj h2 (h3 _ (by rw[hd];exact List.mem_cons_self));rw[hh]at hfs;have hk:=hfs.2.symm;simp only[Bool.and_eq_true,beq_iff_eq]at hk;have hs:SbUp (L.drop j):=List.Pairwise.sublist (List.drop_sublist _ _) hL;rw[hd]at hs;have h4:=(List.pairwise_cons.1 hs).1;unfold mtDrop
 conv=>lhs;rw[←List.take_append_drop j L,hd]
 rw[List.filter_append,List.filter_cons,if_neg (by simp[sbIs,hk.1,hk.2])]
 congr 1
 ·rw[List.filter_eq_self]
  intro y hy;have:=h2 y hy;simp only[Bool.not_eq_true'];rw[←Bool.not_eq_true];intro e;rw[sbIs_iff]at e;rw[e.1,e.2,kLt_irrefl]at this
  cases this
 ·rw[List.filter_eq_self]
  intro y hy;have:=h4 y hy;unfold sbLt at this;simp only[Bool.not_eq_true'];rw[←Bool.not_eq_true];intro e;rw[sbIs_iff]at e;rw[e.1,e.2,hk.1,hk.2,kLt_irrefl]at this
  cases this

section
variable {P:Program} {Ws:List Wr} {C:World→World→Prop} {A:Nat→World→World→Prop} {w0:World} {ops:Array Oper} {a0:Act} {Q:List Ent→Prop} {o:Oper} {rest:List Oper} {env:List Ent}
end
theorem keepIfM_ok (w0:World):RelOk (fun W W' =>Keeps w0 W []→Keeps w0 W' []):=⟨fun h k=>k.then_ h,fun h k x=>k (h x)⟩
/-- A list of entries as a value. -/
def LsAt (w:World)(v:Value)(l:List Sb):Prop:=∃A c,v= .slice A l.length c∧ListAt w 25 3 sbC A l∧l.length≤c
theorem LsAt.keeps {w w' :World}{v:Value}{l:List Sb}(h:LsAt w v l)(hk:Keeps w w' []):LsAt w' v l:=by
 obtain⟨A,c,e,h1,h2⟩:=h;exact⟨A,c,e,h1.keeps hk,h2⟩
theorem LsAt.own {w:World}{B:Nat}{v:Value}{l:List Sb}(h:OwnN w B 25 3 sbC v l):LsAt w v l:=by
 obtain⟨A,c,rfl⟩:=OwnN.slice h;refine⟨A,c,rfl,h.at_ encSb, ?_⟩;obtain⟨h1,⟨h2,h3⟩ | ⟨g,c',cur,h2,h3,h4,h5,h6⟩⟩:=h
 ·rw[h3]
  omega
 ·injection h2 with e1 e2 e3
  omega
def ansV (v:Value)(b:Bool)(e:Int):Ending:= .returned (.tuple #[v,.bool b,.int .i64 e])
/-- What the reference's Set and Drop answer. -/
def RfPost (w:World)(a:List Sb×Bool×Int)(e:Ending)(w' :World):Prop:=Keeps w w' []∧∃v,e=ansV v a.2.1 a.2.2∧LsAt w' v a.1
end Go.Proofs.YtoadlafdeoklbaaGreatDoor
