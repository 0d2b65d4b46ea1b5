/- Package match: how many beginnings go on from one. Package match: all entries are gathered. Package match: the closure that goes over all entries. Package match: entries held against each other. -/
import Derived.Test.YtoadlafdeoklbaaDoorPa24
import Derived.Test.YtoadlafdeoklbaaDoorLays

namespace Go.Proofs.YtoadlafdeoklbaaDoor
open Go.RowKit Go.Maps

theorem sum_erase {l:List (List UInt8)}{x:List UInt8}(h:x∈l)(v:List UInt8→Nat):(l.map v).sum=v x+((l.erase x).map v).sum:=by
 have:=((List.perm_cons_erase h).map v).sum_nat;rw[this,List.map_cons,List.sum_cons]
/-- Where the loop of count is. -/
structure CoAt (W wr:World)(B:Nat)(L:List Sb)(S:List Path)(N:Path→Nd)(p:Path)(r s:Nat)(left:List (List UInt8)):Prop where
 rg:SRange wr Tryd.prog 9 (N p).k r (fun x=>(if p++ [x]∈S then some (N (p++ [x])).b else none).map ptr0) left
 sum:s+(left.map fun x=>1+mtBelow L (p++ [x])).sum=mtBelow L p
 k:Keeps W wr []
 r:W.heap.size≤r
theorem below_le {L:List Sb}(h:MtOk L)(p:Path):mtBelow L p≤900000:=by
 have h1:=mtNodes_le fun x hx=>(h.ok x hx).1
 have h2:=h.le;have h3:mtBelow L p≤mtNodes L:=List.length_filter_le _ _;omega
set_option maxRecDepth 100000 in
set_option maxHeartbeats 1000000 in
theorem mtCount_any (B:Nat)(L:List Sb)(S:List Path)(N:Path→Nd)(hok:MtOk L)(hS:∀p,p∈S↔Stand L p):∀(m:Nat) (p:Path) (W:World),TreeAt W B S (hereF L) N→p∈S→202≤p.length+m→
  Calls Tryd.prog 26 #[ptr0 (N p).b] W fun e w' =>e= .returned (.int .i64 (mtBelow L p:Nat))∧Keeps W w' []:=by
 intro m
 induction m with
 | zero=>
  intro p W T hp hm;have:=((hS p).1 hp).len fun x hx=>(hok.ok x hx).1
  omega
 | succ m ih=>
  intro p W T hp hm;have HT:=zh T;have HP:=zh hp;have HLE:=zh (below_le hok p);have HI:=zh (fun x (hx:p++ [x]∈S) (W' :World) (hW:Keeps W W' [])=>ih (p++ [x]) W' (T.keeps hW) hx (by simp;omega));have c1:=(T.row p hp).cell 1;simp only[ndRow,zga,zgz,zgs]at c1;obtain⟨w1,ks,hrun,hrg,hks,hk1,_⟩:=(T.kids p hp).range mtUndStr mtUndKids;have HST:=zh (show CoAt W w1 B L S N p W.heap.size 0 ks from⟨hrg,by
   rw[Nat.zero_add];refine(below_kids ?_ fun x=> ?_).symm
   ·obtain⟨_,_,_,_,_,_,h,_⟩:=hrg
    exact h
   ·rw[hks,←hS]
    by_cases hx:p++ [x]∈S <;> simp[hx],hk1,Nat.le_refl _⟩)
  obtain⟨r,hr⟩:∃r,W.heap.size=r:=⟨_,rfl⟩;rw[hr]at hrun HST;clear T hp hrg hks hk1 ih hr
  go_enter Tryd.func26,Tryd.ntmps26
  go_wp2_with fail
  clear hrun c1
  go_loopw [3] (fun t wr=>∃(s:Nat) (left:List (List UInt8)),t= .int .i64 s∧Hid (CoAt W wr B L S N p r s left)) (fun _ wr=>wr.rangeLeft (N p).k r)
  case atStart=>exact⟨0,ks,rfl,HST⟩
  case round=>
   clear HST;obtain⟨s,left,rfl,HR⟩:=hrel
   rcases HR.out.rg.next mtUndStr with⟨rfl,hrun⟩ | ⟨x,v,w5,hx,hv,hxl,hrun,hrg,hlt,hk5,_,hen⟩
   ·have HE:=zh (show s=mtBelow L p from by have:=HR.out.sum;simpa using this)
    go_wp2_with fail
    go_ret;exact⟨by rw[HE.out];rfl,HR.out.k⟩
   ·obtain⟨hm2,rfl⟩:p++ [x]∈S∧v=ptr0 (N (p++ [x])).b:=by
     by_cases hx:p++ [x]∈S
     ·rw[if_pos hx]at hv
      exact⟨hx,(Option.some.inj hv).symm⟩
     ·rw[if_neg hx]at hv
      cases hv
    have HK5:=zh (HR.out.k.trans hk5 (fun y hy hl=>by have:=HR.out.r;simp at hy;omega));have HC:=zh (HI.out x hm2 w5 HK5.out);have hsum:=HR.out.sum;rw[sum_erase hx]at hsum;have HSU:=zh hsum;have HRG:=zh hrg;have HLT:=zh hlt;have hb:s+(1+mtBelow L (p++ [x]))≤900000:=by have:=HLE.out;omega
    clear hrg hlt hk5 hv hm2 hxl hsum
    go_wp2_with fail
    refine HC.out.mono ?_;rintro e w6 ⟨rfl,hk6⟩;obtain⟨b1,hb1⟩:∃b1,mtBelow L (p++ [x])=b1:=⟨_,rfl⟩;rw[hb1]at hb;have HB1:=zh hb1;rw[hb1];clear hb1
    go_wp2_with fail
    refine⟨⟨s+(1+b1),left.erase x,by go_num,zh ⟨HRG.out.keeps hk6, ?_,HK5.out.then_ hk6,HR.out.r⟩⟩, ?_⟩
    ·rw[←HB1.out,Nat.add_assoc]
     exact HSU.out
    ·rw[HRG.out.left_keep hk6 (by simp) (by simp)]
     exact HLT.out

/-- Blocks that are no cells stay. -/
structure NcKeeps (w w' :World):Prop where
 z:w.heap.size≤w'.heap.size
 b:∀i,i < w.heap.size→(∀cs t fr,w.heap[i]?≠some (.cells cs t fr))→w'.heap[i]? =w.heap[i]?
theorem SRange.noRow {P:Program}{k:TypeId}{w:World}{b r:Nat}{f:List UInt8→Option Value}{L:List (List UInt8)}(h:SRange w P k b r f L):∀t cs,¬Row w r t cs:=by
 intro t cs hr;obtain⟨n,D,lf,cnt,⟨es,clock,since,seen,c0,e1,F,e2,e3,e4,e5⟩,h2⟩:=h;rw[hr]at e4
 cases e4
def sliceOf (v:Value):Nat:=match v with
 | .slice _ n _=>n
 | _=>0

end Go.Proofs.YtoadlafdeoklbaaDoor

namespace Go.Proofs.YtoadlafdeoklbaaDoor
open Go.RowKit Go.Maps Go.Shelf Go.Sort

/-- Go's cmp.Compare at texts. -/
def cmpB (a b:List UInt8):Int:=if Op.bytesLess a b=true then -1 else if Op.bytesLess b a=true then 1 else 0
theorem gtB (x y:List UInt8):(!(Op.bytesLess x y || x==y))=Op.bytesLess y x:=by
 rcases bl_tri x y with h | rfl | h
 ·rw[h,bl_asymm h]
  rfl
 ·simp[bl_irrefl]
 ·rw[h,bl_asymm h]
  have:(x==y)=false:=by
   rw[←Bool.not_eq_true];intro e;rw[eq_of_beq e,bl_irrefl]at h
   cases h
  rw[this];rfl
set_option maxRecDepth 100000 in
theorem mtNaN_any (w:World)(s:List UInt8):Calls Tryd.prog 35 #[.string ⟨s.toArray⟩] w fun e w' =>e= .returned (.bool false)∧w' =w:=by
 obtain⟨S,hS⟩:∃S:ByteArray,(⟨s.toArray⟩:ByteArray)=S:=⟨_,rfl⟩;rw[hS];clear hS;have h1:(S.toList==S.toList)=true:=by simp
 go_enter Tryd.func35,Tryd.ntmps35
 go_wp2
 go_ret;exact⟨rfl,rfl⟩
set_option maxRecDepth 100000 in
theorem mtCmp_any (w:World)(a b:List UInt8):Calls Tryd.prog 25 #[.string ⟨a.toArray⟩,.string ⟨b.toArray⟩] w fun e w' =>e= .returned (.int .i64 (cmpB a b))∧w' =w:=by
 have H1:=zh (mtNaN_any w a);have H2:=zh (mtNaN_any w b);obtain⟨X,hX⟩:∃S:ByteArray,(⟨a.toArray⟩:ByteArray)=S:=⟨_,rfl⟩;obtain⟨Y,hY⟩:∃S:ByteArray,(⟨b.toArray⟩:ByteArray)=S:=⟨_,rfl⟩;have eX:X.toList=a:=by rw[←hX,Lib.toList_data]
 have eY:Y.toList=b:=by rw[←hY,Lib.toList_data]
 rw[hX]at H1 ⊢
 rw[hY]at H2 ⊢
 by_cases h1:Op.bytesLess a b=true
 ·have HC:=zh (show cmpB a b= -1 by unfold cmpB;rw[if_pos h1])
  have f1:Op.bytesLess X.toList Y.toList=true:=by rw[eX,eY];exact h1
  clear hX hY eX eY h1
  go_enter Tryd.func25,Tryd.ntmps25
  go_wp2_with fail
  refine H1.out.mono ?_;rintro e w1 ⟨rfl,rfl⟩
  go_wp2_with fail
  refine H2.out.mono ?_;rintro e w1 ⟨rfl,rfl⟩
  go_wp2_with fail
  go_ret;exact⟨by rw[HC.out];rfl,rfl⟩
 ·have f1:Op.bytesLess X.toList Y.toList=false:=by rw[eX,eY];simpa using h1
  by_cases h2:Op.bytesLess b a=true
  ·have HC:=zh (show cmpB a b=1 by unfold cmpB;rw[if_neg h1,if_pos h2])
   have f2:(!(Op.bytesLess X.toList Y.toList || X.toList==Y.toList))=true:=by rw[eX,eY,gtB];exact h2
   have f3:(X.toList==Y.toList)=false:=by rw[f1]at f2;simpa using f2
   clear hX hY eX eY h1 h2 f2
   go_enter Tryd.func25,Tryd.ntmps25
   go_wp2_with fail
   refine H1.out.mono ?_;rintro e w1 ⟨rfl,rfl⟩
   go_wp2_with fail
   refine H2.out.mono ?_;rintro e w1 ⟨rfl,rfl⟩
   go_wp2_with fail
   go_ret;exact⟨by rw[HC.out];rfl,rfl⟩
  ·have HC:=zh (show cmpB a b=0 by unfold cmpB;rw[if_neg h1,if_neg h2])
   have f2:(!(Op.bytesLess X.toList Y.toList || X.toList==Y.toList))=false:=by rw[eX,eY,gtB];simpa using h2
   have f3:(X.toList==Y.toList)=true:=by rw[f1]at f2;simpa using f2
   clear hX hY eX eY h1 h2 f2
   go_enter Tryd.func25,Tryd.ntmps25
   go_wp2_with fail
   refine H1.out.mono ?_;rintro e w1 ⟨rfl,rfl⟩
   go_wp2_with fail
   refine H2.out.mono ?_;rintro e w1 ⟨rfl,rfl⟩
   go_wp2_with fail
   go_ret;exact⟨by rw[HC.out];rfl,rfl⟩
end Go.Proofs.YtoadlafdeoklbaaDoor
