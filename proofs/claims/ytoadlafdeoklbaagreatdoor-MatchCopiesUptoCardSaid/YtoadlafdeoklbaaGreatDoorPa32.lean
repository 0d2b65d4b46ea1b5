/- Law 14: few. Reference 14: Client, ahead, Find. -/
import Derived.Test.YtoadlafdeoklbaaGreatDoorPa31

namespace Go.Proofs.YtoadlafdeoklbaaGreatDoor
open Go.RowKit Go.Maps Go.Shelf

/-- A call, as cells. -/
def acC (x:Int×Sb):List Value:= .int .i64 x.1::sbC x.2
theorem encAc:Enc 4 acC:=⟨by omega,fun _=>rfl,fun a u hu=>by
 simp only[acC,sbC,List.mem_cons,List.not_mem_nil,or_false]at hu
 rcases hu with rfl | rfl | rfl | rfl <;> rfl⟩
def fewS (x:Int×Sb):Bool:=decide (x.2.f.length≤300) && decide (x.2.c.length≤300)
def fewB (l:List (Int×Sb))(m:Int):Bool:=decide ((l.length:Int)≤m) && l.all fewS
set_option maxRecDepth 100000 in
set_option maxHeartbeats 2000000 in
theorem few14_any (w:World)(A:Option Addr)(c:Nat)(l:List (Int×Sb))(m:Int)(hl:ListG w 4 acC A l)(hle:l.length≤9223372036854775807):
  Calls Tryz.prog 8 #[.slice A l.length c,.int .i64 m] w fun e w' =>e= .returned (.bool (fewB l m))∧w' =w:=by
 by_cases hm:m < (l.length:Int)
 ·have HE:=zh (show fewB l m=false by unfold fewB;rw[decide_eq_false (by omega),Bool.false_and])
  clear hl
  go_enter Tryz.func8,Tryz.ntmps8
  go_wp2_with fail
  go_ret;exact⟨by rw[HE.out];rfl,rfl⟩
 ·have HL:=zh hl
  have hm2:¬(m < (l.length:Int)):=hm;have HM:=zh hm;clear hl hm
  go_enter Tryz.func8,Tryz.ntmps8
  go_wp2_with fail
  clear hm2
  go_loopw [5] (fun i wr=>∃j:Nat,j≤l.length∧i= .int .i64 j∧Hid ((l.take j).all fewS=true)∧wr=w) (fun i _=>l.length - (intOf i).toNat)
  case atStart=>exact⟨0,by omega,rfl,zh rfl,rfl⟩
  case round=>
   obtain⟨j,hj,rfl,HR,rfl⟩:=hrel
   by_cases hjl:j < l.length
   ·obtain⟨b,o,cs,rfl,hr,hc⟩:=HL.out (by omega)
    have c1:=(hr.cell (o+j*4+1)).trans (hc j hjl 1 (by omega));have c2:=(hr.cell (o+j*4+2)).trans (hc j hjl 2 (by omega));have HT:=zh (List.take_succ_eq_append_getElem hjl);have HMe:=zh (List.getElem_mem hjl);obtain⟨⟨k,f,cc,q⟩,hx⟩:∃x,l[j]=x:=⟨_,rfl⟩;rw[hx]at c1 c2 HT HMe;simp only[acC,sbC,zgz,zgs]at c1 c2;obtain⟨F,hF⟩:∃S:ByteArray,(⟨f.toArray⟩:ByteArray)=S:=⟨_,rfl⟩;obtain⟨C,hC⟩:∃S:ByteArray,(⟨cc.toArray⟩:ByteArray)=S:=⟨_,rfl⟩;have zF:F.size=f.length:=by rw[←hF];simp[ByteArray.size]
    have zC:C.size=cc.length:=by rw[←hC];simp[ByteArray.size]
    rw[hF]at c1;rw[hC]at c2;have HZ:=zh (And.intro zF zC);clear hx hr hc hF hC zF zC
    by_cases h1:(F.size:Int)≤300
    ·by_cases h2:(C.size:Int)≤300
     ·have HW:=zh (show fewS (k,⟨f,cc,q⟩)=true by
       unfold fewS;have:=HZ.out;simp only[Bool.and_eq_true,decide_eq_true_eq];omega)
      go_wp2_with fail
      exact⟨⟨j+1,by omega,by go_num,zh (by rw[HT.out,List.all_append,HR.out];simp[HW.out]),by first | rfl | trivial⟩,by simp[intOf];omega⟩
     ·have HE:=zh (show fewB l m=false by
       unfold fewB;rw[show l.all fewS=false by
        rw[List.all_eq_false];refine⟨_,HMe.out, ?_⟩;unfold fewS;have:=HZ.out;rw[decide_eq_false (p:=cc.length≤300) (by omega),Bool.and_false];simp,Bool.and_false])
      go_wp2_with fail
      go_ret;exact⟨by rw[HE.out];rfl,rfl⟩
    ·have HE:=zh (show fewB l m=false by
      unfold fewB;rw[show l.all fewS=false by
       rw[List.all_eq_false];refine⟨_,HMe.out, ?_⟩;unfold fewS;have:=HZ.out;rw[decide_eq_false (p:=f.length≤300) (by omega),Bool.false_and];simp,Bool.and_false])
     go_wp2_with fail
     go_ret;exact⟨by rw[HE.out];rfl,rfl⟩
   ·obtain rfl:j=l.length:=by omega
    have HE:=zh (show fewB l m=true by
     have:=HR.out;rw[List.take_length]at this;unfold fewB;rw[this,decide_eq_true (by have:=HM.out;omega)];rfl)
    go_wp2_with fail
    go_ret;exact⟨by rw[HE.out];rfl,rfl⟩

set_option maxRecDepth 100000 in
theorem rfClient_any (w:World)(s:List UInt8)(hs:s.length≤9223372036854775807):Calls Tryz.prog 49 #[.string ⟨s.toArray⟩] w fun e w' =>e= .returned (.bool (mtCl s))∧w' =w:=by
 obtain⟨S,hS⟩:∃S:ByteArray,(⟨s.toArray⟩:ByteArray)=S:=⟨_,rfl⟩;have hz:S.size=s.length:=by rw[←hS];simp[ByteArray.size]
 rw[hS];have HE:=zh (show mtCl s=(decide (1≤S.size) && decide (S.size≤23))by unfold mtCl;rw[hz])
 by_cases h1:(1:Int)≤(S.size:Int)
 ·by_cases h2:(S.size:Int)≤23
  ·have HB:=zh (show mtCl s=true by rw[HE.out,decide_eq_true (by omega),decide_eq_true (by omega)];rfl)
   clear hS hz
   go_enter Tryz.func49,Tryz.ntmps49
   go_wp2
   go_ret;exact⟨by rw[HB.out];rfl,rfl⟩
  ·have HB:=zh (show mtCl s=false by rw[HE.out,decide_eq_false (p:=S.size≤23) (by omega),Bool.and_false])
   clear hS hz
   go_enter Tryz.func49,Tryz.ntmps49
   go_wp2
   go_ret;exact⟨by rw[HB.out];rfl,rfl⟩
 ·have HB:=zh (show mtCl s=false by rw[HE.out,decide_eq_false (p:=1≤S.size) (by omega),Bool.false_and])
  clear hS hz
  go_enter Tryz.func49,Tryz.ntmps49
  go_wp2
  go_ret;exact⟨by rw[HB.out];rfl,rfl⟩
set_option maxRecDepth 100000 in
set_option maxHeartbeats 2000000 in
theorem rfAhead_any (w:World)(a b:Sb):Calls Tryz.prog 71 #[sbV a,sbV b] w fun e w' =>e= .returned (.bool (sbLt a b))∧Keeps w w' []:=by
 obtain⟨xf,xc,xq⟩:=a;obtain⟨yf,yc,yq⟩:=b;unfold sbV;simp only;have HE:=zh (show sbLt ⟨xf,xc,xq⟩ ⟨yf,yc,yq⟩=(Op.bytesLess xf yf || (xf==yf && Op.bytesLess xc yc))from rfl);obtain⟨X,hX⟩:∃S:ByteArray,(⟨xf.toArray⟩:ByteArray)=S:=⟨_,rfl⟩;obtain⟨Y,hY⟩:∃S:ByteArray,(⟨yf.toArray⟩:ByteArray)=S:=⟨_,rfl⟩;obtain⟨U,hU⟩:∃S:ByteArray,(⟨xc.toArray⟩:ByteArray)=S:=⟨_,rfl⟩;obtain⟨V,hV⟩:∃S:ByteArray,(⟨yc.toArray⟩:ByteArray)=S:=⟨_,rfl⟩;have eX:X.toList=xf:=by rw[←hX];simp
 have eY:Y.toList=yf:=by rw[←hY];simp
 have eU:U.toList=xc:=by rw[←hU];simp
 have eV:V.toList=yc:=by rw[←hV];simp
 rw[←eX,←eY,←eU,←eV]at HE;rw[hX,hY,hU,hV];have HK:=zh (show Keeps w ((w.alloc (.cells #[.string X,.string U,.int .i64 xq] 25)).alloc (.cells #[.string Y,.string V,.int .i64 yq] 25)) []from(Keeps.alloc _ _).then_alloc _);obtain⟨z,hz⟩:∃z,sbLt ⟨xf,xc,xq⟩ ⟨yf,yc,yq⟩=z:=⟨_,rfl⟩;rw[←eX,←eY,←eU,←eV]at hz;rw[hz]at HE;rw[←eX,←eY,←eU,←eV,hz];clear eX eY eU eV hX hY hU hV hz
 cases h1:Op.bytesLess X.toList Y.toList with
 | true=>
  rw[h1]at HE
  go_enter Tryz.func71,Tryz.ntmps71
  go_wp2_with fail
  go_ret;exact⟨by rw[HE.out];rfl,HK.out⟩
 | false=>
  rw[h1]at HE
  cases h2:(X.toList==Y.toList)with
  | true=>
   rw[h2]at HE
   go_enter Tryz.func71,Tryz.ntmps71
   go_wp2_with fail
   go_ret;exact⟨by rw[HE.out];rfl,HK.out⟩
  | false=>
   rw[h2]at HE
   go_enter Tryz.func71,Tryz.ntmps71
   go_wp2_with fail
   go_ret;exact⟨by rw[HE.out];rfl,HK.out⟩
end Go.Proofs.YtoadlafdeoklbaaGreatDoor
