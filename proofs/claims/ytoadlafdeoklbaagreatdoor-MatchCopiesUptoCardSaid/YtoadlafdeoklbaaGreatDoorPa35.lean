/- Reference 14: Leave, whole. Package match: the closure of Of. Plain: the place of the first thing of which something is so. Package match: slices.IndexFunc at entries. -/
import Derived.Test.YtoadlafdeoklbaaGreatDoorPa34
import Derived.Test.YtoadlafdeoklbaaGreatDoorPa7

namespace Go.Proofs.YtoadlafdeoklbaaGreatDoor
open Go.RowKit Go.Maps Go.Shelf

/-- What the reference's Leave answers. -/
def RlPost (w:World)(L:List Sb)(c:List UInt8)(e:Ending)(w' :World):Prop:=Keeps w w' []∧∃v,e= .returned (.tuple #[v,.int .i64 ((mtLeaveA L c).2.1:Nat),.int .i64 (mtLeaveA L c).2.2])∧LsAt w' v (mtLeaveA L c).1
set_option maxRecDepth 100000 in
set_option maxHeartbeats 2000000 in
theorem rfLeaveE_any (w:World)(v:Value)(L:List Sb)(c:List UInt8)(hl:LsAt w v L)(hle:L.length≤400000)(hc:c.length≤50000):
  Calls Tryz.prog 56 #[v,.string ⟨c.toArray⟩] w (RlPost w L c):=by
 obtain⟨A,cap,rfl,hla,hcap⟩:=hl
 cases h:mtCl c with
 | true=>
  refine(rfLeave_any w A cap L c hla (by omega) (by omega) h).mono ?_;rintro e w' ⟨v,rfl,hk⟩;have hE:mtLeaveA L c=(mtLeave L c,(mtOf L c).length,0):=by unfold mtLeaveA;rw[if_neg (by rw[h];simp)]
  exact⟨hk.k,v,by rw[hE],by rw[hE];exact LsAt.own hk.own⟩
 | false=>
  have HE:=zh (show mtLeaveA L c=(L,0,2)by unfold mtLeaveA;rw[if_pos h]);have HCL:=zh (rfClient_any w c (by omega));have HL:=zh (show LsAt w (.slice A L.length cap) L from⟨A,cap,rfl,hla,hcap⟩);rw[h]at HCL;obtain⟨C,hC⟩:∃S:ByteArray,(⟨c.toArray⟩:ByteArray)=S:=⟨_,rfl⟩;rw[hC]at HCL ⊢
  clear h hla hcap hC hle hc
  go_enter Tryz.func56,Tryz.ntmps56
  go_wp2_with fail
  refine HCL.out.mono ?_;rintro e w1 ⟨rfl,rfl⟩
  go_wp2_with fail
  go_ret3
  exact⟨Keeps.refl _ _,.slice A L.length cap,by rw[HE.out];rfl,by rw[HE.out];exact HL.out⟩

set_option maxRecDepth 100000 in
theorem mtOfNot_any (w:World)(x:Sb)(bx:Nat)(c:List UInt8)(hb:w.cell? ⟨bx,0,none⟩=some (.string ⟨c.toArray⟩))(hlt:bx < w.heap.size):
  Calls Tryz.prog 60 #[sbV x,ptr0 bx] w (TruePost w (!(x.c==c))):=by
 obtain⟨xf,xc,xq⟩:=x;unfold sbV;simp only;obtain⟨X,hX⟩:∃S:ByteArray,(⟨xf.toArray⟩:ByteArray)=S:=⟨_,rfl⟩;obtain⟨Y,hY⟩:∃S:ByteArray,(⟨xc.toArray⟩:ByteArray)=S:=⟨_,rfl⟩;obtain⟨C,hC⟩:∃S:ByteArray,(⟨c.toArray⟩:ByteArray)=S:=⟨_,rfl⟩;have eY:Y.toList=xc:=by rw[←hY,Lib.toList_data]
 have eC:C.toList=c:=by rw[←hC,Lib.toList_data]
 rw[hX,hY];rw[hC]at hb;have HK:=zh (Keeps.alloc w (.cells #[.string X,.string Y,.int .i64 xq] 25));have cb:(w.alloc (.cells #[.string X,.string Y,.int .i64 xq] 25)).cell? ⟨bx,0,none⟩=some (.string C):=(HK.out.cell (p:=⟨bx,0,none⟩) hlt (by simp)).trans hb;rw[←eY,←eC];clear eY eC hX hY hC hb hlt
 cases hz:(Y.toList==C.toList)with
 | true=>
  have hz2:(Y.toList !=C.toList)=false:=by simpa using hz
  go_enter Tryz.func60,Tryz.ntmps60
  go_wp2_with fail
  go_ret;exact⟨rfl,HK.out⟩
 | false=>
  have hz2:(Y.toList !=C.toList)=true:=by simpa using hz
  go_enter Tryz.func60,Tryz.ntmps60
  go_wp2_with fail
  go_ret;exact⟨rfl,HK.out⟩
end Go.Proofs.YtoadlafdeoklbaaGreatDoor

namespace Go.Proofs.YtoadlafdeoklbaaGreatDoor
open Go.RowKit

def fIdx {α:Type}(p:α→Bool)(l:List α):Int:=match l.findIdx? p with
 | some i=>(i:Int)
 | none=> -1
theorem fIdx_found {α:Type}{p:α→Bool}{l:List α}{j:Nat}(hj:j < l.length)(h:(l.take j).all (fun x=> !p x)=true)(hp:p l[j]=true):fIdx p l=j:=by
 unfold fIdx;have e:l.findIdx? p=some j:=by
  rw[List.findIdx?_eq_some_iff_getElem];refine⟨hj,hp,fun i hi=> ?_⟩;have hm:l[i]'(by omega)∈l.take j:=by
   rw[List.mem_take_iff_getElem];exact⟨i,by omega,rfl⟩
  have:=List.all_eq_true.1 h _ hm
  simpa using this
 rw[e]
theorem fIdx_none {α:Type}{p:α→Bool}{l:List α}(h:l.all (fun x=> !p x)=true):fIdx p l= -1:=by
 unfold fIdx;have e:l.findIdx? p=none:=by
  rw[List.findIdx?_eq_none_iff];intro x hx;have:=List.all_eq_true.1 h x hx
  simpa using this
 rw[e]
theorem fIdx_take {α:Type}{p:α→Bool}{l:List α}{j:Nat}(hj:j < l.length)(h:(l.take j).all (fun x=> !p x)=true)(hp:p l[j]=false):(l.take (j+1)).all (fun x=> !p x)=true:=by
 rw[List.take_succ_eq_append_getElem hj,List.all_append,h];simp[hp]
end Go.Proofs.YtoadlafdeoklbaaGreatDoor

namespace Go.Proofs.YtoadlafdeoklbaaGreatDoor
open Go.RowKit Go.Maps Go.Shelf

abbrev ofFn (bx:Nat):Value:= .func (.func 60) #[] #[ptr0 bx]
set_option maxRecDepth 100000 in
set_option maxHeartbeats 1000000 in
theorem mtIdx_any (w:World)(bx:Nat)(A:Option Addr)(c:Nat)(l:List Sb)(p:Sb→Bool)(hL:ListAt w 25 3 sbC A l)(hl:l.length≤1000000)
  (HC:∀W,Keeps w W []→∀x∈l,Calls Tryz.prog 60 #[sbV x,ptr0 bx] W (TruePost W (p x))):
  Calls Tryz.prog 76 #[.slice A l.length c,ofFn bx] w fun e w' =>e= .returned (.int .i64 (fIdx p l))∧Keeps w w' []:=by
 have HC:=zh HC;have HL:=zh hL;clear hL
 go_enter Tryz.func76,Tryz.ntmps76
 go_wp2_with fail
 go_loopw [8] (fun i wr=>∃j:Nat,j≤l.length∧i= .int .i64 j∧Hid ((l.take j).all (fun x=> !p x)=true∧Keeps w wr [])) (fun i _=>l.length - (intOf i).toNat)
 case atStart=>exact⟨0,by omega,rfl,zh ⟨rfl,Keeps.refl _ _⟩⟩
 case round=>
  obtain⟨j,hj,rfl,HJ⟩:=hrel
  by_cases hjl:j < l.length
  ·obtain⟨b,o,cs,rfl,hr,hc⟩:=HL.out (by omega)
   have c0:=((hr.keeps HJ.out.2).cell (o+j*3+0)).trans (hc j hjl 0 (by omega));have c1:=((hr.keeps HJ.out.2).cell (o+j*3+1)).trans (hc j hjl 1 (by omega));have c2:=((hr.keeps HJ.out.2).cell (o+j*3+2)).trans (hc j hjl 2 (by omega));have HF:=zh (fun h=>fIdx_take (p:=p) (j:=j) hjl HJ.out.1 h);have HCX:=zh (HC.out wr HJ.out.2 l[j] (List.getElem_mem _));have HP:=zh (fun h=>fIdx_found (p:=p) (j:=j) hjl HJ.out.1 h);obtain⟨q,hq⟩:∃q,p l[j]=q:=⟨_,rfl⟩;rw[hq]at HCX HP HF;obtain⟨⟨xf,xc,xq⟩,hx⟩:∃x,l[j]=x:=⟨_,rfl⟩;rw[hx]at c0 c1 c2 HCX;unfold sbV at HCX;simp only[sbC,zgz,zgs,Nat.add_zero]at c0 c1 c2 HCX;obtain⟨X,hX⟩:∃S:ByteArray,(⟨xf.toArray⟩:ByteArray)=S:=⟨_,rfl⟩;obtain⟨Y,hY⟩:∃S:ByteArray,(⟨xc.toArray⟩:ByteArray)=S:=⟨_,rfl⟩;rw[hX]at c0 HCX;rw[hY]at c1 HCX;clear hq hx hr hc hX hY
   go_wp2_with fail
   refine HCX.out.mono ?_;rintro e w3 ⟨rfl,hk3⟩;have HK:=zh (HJ.out.2.then_ hk3);clear hk3 HCX c0 c1 c2
   cases q with
   | true=>
    go_wp2_with fail
    go_ret;exact⟨by rw[HP.out (by first | rfl | trivial)];rfl,HK.out⟩
   | false=>
    go_wp2_with fail
    exact⟨⟨j+1,by omega,by go_num,zh ⟨HF.out (by first | rfl | trivial),HK.out⟩⟩,by simp[intOf];omega⟩
  ·obtain rfl:j=l.length:=by omega
   have HN:=zh (fIdx_none (p:=p) (l:=l) (by have:=HJ.out.1;rwa [List.take_length]at this))
   go_wp2_with fail
   go_ret;exact⟨by rw[HN.out];rfl,HJ.out.2⟩
end Go.Proofs.YtoadlafdeoklbaaGreatDoor
