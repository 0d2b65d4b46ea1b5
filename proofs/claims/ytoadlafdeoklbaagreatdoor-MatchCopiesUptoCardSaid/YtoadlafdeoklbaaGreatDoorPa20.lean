/- Reference 12: Runes. Reference 13: said, Name. -/
import Derived.Test.YtoadlafdeoklbaaGreatDoorPa19
import Derived.Test.YtoadlafdeoklbaaGreatDoorPa7

namespace Go.Proofs.YtoadlafdeoklbaaGreatDoor
open Go.RowKit Go.Maps Go.Shelf

def runeE (x:Int):List Value:= [.int .i32 x]
theorem encRune:Enc 1 runeE:=⟨by omega,fun _=>rfl,fun a u hu=>by obtain rfl:=List.mem_singleton.1 hu;rfl⟩
theorem elemRune:ElemN Tryz.prog 97 21 1:=elemN_of (bytes:=4) (z:= .int .i32 0) (by kernel_rfl) (by kernel_rfl) (by omega) rfl
structure RnAt (w wr:World)(s:List UInt8)(k:Nat)(v:Value)(l:List Int):Prop where
 g:uGood s=uGood (s.drop k)
 ln:l.length≤k
 o:OwnN wr w.heap.size 21 1 runeE v l
 k:Keeps w wr []
def RnPost (w:World)(s:List UInt8)(e:Ending)(w' :World):Prop:=∃(v:Value) (a:Int),e= .returned (.tuple #[v,.int .i64 a])∧(if uGood s=true then a= -1 else 0≤a)∧Keeps w w' []
theorem RnAt.next {w wr w1 w2 w3:World}{s:List UInt8}{k m:Nat}{v v' :Value}{l:List Int}{r:Int}(h:RnAt w wr s k v l)(hm:uFirst (s.drop k)=m)(hm0:m≠0)(hk:k < s.length)(k1:Keeps wr w1 [])(k2:Keeps w1 w2 [])(ho:OwnN w3 w.heap.size 21 1 runeE v' (l++ [r]))(k3:Keeps w2 w3 v.ownBlock.toList):RnAt w w3 s (k+m) v' (l++ [r]):=by
 refine⟨?_, ?_,ho, ?_⟩
 ·rw[h.g,uGood_step (s:=s.drop k) (fun e=>by have:=congrArg List.length e;rw[List.length_drop,List.length_nil]at this;omega),hm,if_neg hm0,List.drop_drop]
 ·have:=h.ln
  rw[List.length_append,List.length_singleton];omega
 ·refine((h.k.then_ k1).then_ k2).trans k3 fun x hx hlt=> ?_
  have:=(h.o.rows x hx).1;omega
set_option maxRecDepth 100000 in
set_option maxHeartbeats 2000000 in
theorem rRunes_any (w:World)(s:List UInt8)(hs:s.length≤60000):Calls Tryz.prog 62 #[.string ⟨s.toArray⟩] w (RnPost w s):=by
 obtain⟨S,hS⟩:∃S:ByteArray,(⟨s.toArray⟩:ByteArray)=S:=⟨_,rfl⟩;have hsz:S.size=s.length:=by rw[←hS];rfl
 have HS:=zh (And.intro hS hsz);rw[hS];clear hS
 go_enter Tryz.func62,Tryz.ntmps62
 go_wp2_with fail
 go_loopw [4,5] (fun out i wr=>∃(k n c:Nat) (A:Option Addr) (l:List Int),k≤s.length∧i= .int .i64 k∧out= .slice A n c∧Hid (RnAt w wr s k (.slice A n c) l)) (fun _ i _=>s.length - (intOf i).toNat)
 case atStart=>exact⟨0,0,0,none, [],by omega,rfl,rfl,zh ⟨rfl,by simp,OwnN.nil _ _ _ _ _,Keeps.refl _ _⟩⟩
 case round=>
  obtain⟨k,n,c,A,l,hk,rfl,rfl,HR⟩:=hrel;have hsl:=HS.out.2
  by_cases hlt:k < s.length
  ·obtain⟨T,hT⟩:∃T,S.extract k S.size=T:=⟨_,rfl⟩
   have hT' :(⟨(s.drop k).toArray⟩:ByteArray)=T:=by
    rw[←hT,←HS.out.1,str_cut,List.take_of_length_le];rw[List.length_drop];show s.length - k≤s.length - k;omega
   have HF:=zh (show∀w,Calls Tryz.prog 77 #[.string T] w (FiPost w (s.drop k))from fun w=>by
    rw[←hT'];exact rFirst_any w _ (by rw[List.length_drop];omega))
   rw[hsz]at hT;have hkl:(k:Int)≤s.length:=by omega
   obtain⟨m,hm⟩:∃m,uFirst (s.drop k)=m:=⟨_,rfl⟩;have hml:=(uFirst_len (s.drop k)).1;rw[hm,List.length_drop]at hml;have HM:=zh (And.intro hm hlt);clear hT'
   go_wp2_with fail
   refine(HF.out _).mono ?_;rintro e w1 ⟨r,rfl,_,hk1⟩;rw[hm];have HK1:=zh hk1;clear hk1 hm hT
   by_cases hm0:m=0
   ·have hme:((m:Int)==0)=true:=by simp[hm0]
    go_wp2_with fail
    go_ret2
    have hu:uGood s=false:=by
     rw[HR.out.g,uGood_step (s:=s.drop k) (fun e=>by have:=congrArg List.length e;rw[List.length_drop,List.length_nil]at this;have:=HM.out.2;omega),HM.out.1,if_pos hm0]
    exact⟨_,_,rfl,by rw[hu];simp,HR.out.k.then_ HK1.out⟩
   ·have hme:((m:Int)==0)=false:=by simpa using hm0
    have h65:decide ((k:Int)+m > 65535)=false:=decide_eq_false (by omega);obtain⟨Wa,hWa⟩:∃Wa,w1.alloc (.cells #[.int .i32 (r:Int)] 21)=Wa:=⟨_,rfl⟩;have ra:Row Wa w1.heap.size 21 #[.int .i32 (r:Int)]:=by rw[←hWa];exact Row.new _ _ _
    have ka:Keeps w1 Wa []:=by rw[←hWa];exact Keeps.alloc _ _
    have HLa:=zh (show Lies Wa Wa.heap.size (some ⟨w1.heap.size,0,none⟩) ([(r:Int)].flatMap runeE)from lies_of_row ra rfl);have HA:=zh (And.intro ka (And.intro ((HR.out.o.keeps HK1.out).keeps ka) ((HR.out.k.then_ HK1.out).then_ ka)));clear ra ka
    go_wp2_with (at_builtin;refine wpList_append_N elemRune encRune rfl (.tmp 28) (.tmp 30) rfl w.heap.size (.slice A n c) (some ⟨w1.heap.size,0,none⟩) 1 1 l [(r:Int)] rfl rfl rfl HA.out.2.1 HLa.out (by have:=HR.out.ln;simp;omega) HA.out.2.2.size ?_;intro A5 c5 w5 l5 hl5 hlen5 ho5 hk5 _;have H5:=zh (And.intro hl5.out (And.intro ho5 hk5));clear hl5 ho5 hk5 hlen5)
    exact⟨⟨k+m,_,c5,A5,l++ [(r:Int)],by omega,by go_num,rfl,zh (by rw[←H5.out.1];have:=H5.out.2.1;rw[H5.out.1]at this ⊢;exact HR.out.next HM.out.1 hm0 HM.out.2 HK1.out HA.out.1 this H5.out.2.2)⟩,by simp[intOf];omega⟩
  ·obtain rfl:k=s.length:=by omega
   go_wp2_with fail
   go_ret2
   have hu:uGood s=true:=by rw[HR.out.g,List.drop_length];rfl
   exact⟨_,_,rfl,by rw[if_pos hu],HR.out.k⟩
end Go.Proofs.YtoadlafdeoklbaaGreatDoor

namespace Go.Proofs.YtoadlafdeoklbaaGreatDoor
open Go.RowKit Go.Shelf

set_option maxRecDepth 100000 in
set_option maxHeartbeats 1000000 in
theorem rSaid_any (w:World)(s:List UInt8)(hs:s.length≤60000):Calls Tryz.prog 30 #[.string ⟨s.toArray⟩] w fun e w' =>e= .returned (.bool (tSaid s))∧Keeps w w' []:=by
 obtain⟨S,hS⟩:∃S:ByteArray,(⟨s.toArray⟩:ByteArray)=S:=⟨_,rfl⟩;have hz:S.size=s.length:=by rw[←hS];rfl
 have HR:=zh (show∀w:World,Calls Tryz.prog 62 #[.string S] w (RnPost w s)from fun w=>by
  rw[←hS];exact rRunes_any w s hs)
 rw[hS];clear hS
 by_cases h0:s.length < 1
 ·have HT:=zh (show tSaid s=false by unfold tSaid;simp;omega)
  go_enter Tryz.func30,Tryz.ntmps30
  go_wp2_with fail
  go_ret;exact⟨by rw[HT.out];rfl,Keeps.refl _ _⟩
 ·by_cases h2:200 < s.length
  ·have HT:=zh (show tSaid s=false by unfold tSaid;simp;omega)
   have hp:0 < s.length:=by omega
   clear h0
   go_enter Tryz.func30,Tryz.ntmps30
   go_wp2_with fail
   go_ret;exact⟨by rw[HT.out];rfl,Keeps.refl _ _⟩
  ·have HT:=zh (show tSaid s=uGood s by
    unfold tSaid;rw[decide_eq_true (by omega),decide_eq_true (by omega)];rfl)
   have hp:0 < s.length:=by omega
   have hq:s.length≤200:=by omega
   clear h0 h2
   go_enter Tryz.func30,Tryz.ntmps30
   go_wp2_with fail
   refine(HR.out _).mono ?_;rintro e w1 ⟨v,a,rfl,ha,hk⟩;have HK:=zh hk;clear hk
   cases hg:uGood s with
   | true=>
    rw[hg,if_pos rfl]at ha;subst ha;rw[hg]at HT;clear hg
    go_wp2_with fail
    go_ret;exact⟨by rw[HT.out];rfl,HK.out⟩
   | false=>
    rw[hg,if_neg (by simp)]at ha;rw[hg]at HT;have hb:decide (a < 0)=false:=decide_eq_false (by omega);clear hg ha
    go_wp2_with fail
    go_ret;exact⟨by rw[HT.out];rfl,HK.out⟩
theorem tSignN_zero (s:List UInt8):(tSignN s=0)↔tSign s=false:=by
 unfold tSignN tSign;rw[List.countP_eq_zero,List.any_eq_false]
set_option maxRecDepth 100000 in
set_option maxHeartbeats 1000000 in
theorem rName_any (w:World)(s:List UInt8)(hs:s.length≤60000):Calls Tryz.prog 9 #[.string ⟨s.toArray⟩] w fun e w' =>e= .returned (.bool (tName s))∧Keeps w w' []:=by
 obtain⟨S,hS⟩:∃S:ByteArray,(⟨s.toArray⟩:ByteArray)=S:=⟨_,rfl⟩;have HS:=zh hS;rw[hS];clear hS
 go_enter Tryz.func9,Tryz.ntmps9
 go_wp2_with fail
 rw[←HS.out];refine(rSaid_any w s hs).mono ?_;rintro e w1 ⟨rfl,hk⟩;rw[HS.out];have HK:=zh hk;clear hk
 cases hg:tSaid s with
 | false=>
  have HT:=zh (show tName s=false by unfold tName;rw[hg];rfl);clear hg
  go_wp2_with fail
  go_ret;exact⟨by rw[HT.out];rfl,HK.out⟩
 | true=>
  have HT:=zh (show tName s= !tSign s by unfold tName;rw[hg];rfl);clear hg
  go_wp2_with fail
  rw[←HS.out];refine(rSigns_any w1 s hs).mono ?_;rintro e w2 ⟨rfl,rfl⟩;rw[HS.out]
  cases hb:tSign s with
  | true=>
   have hne:(((tSignN s:Nat):Int)==0)=false:=by
    rw[beq_eq_false_iff_ne];intro e;have:=(tSignN_zero s).1 (by omega);rw[hb]at this
    cases this
   rw[hb]at HT;clear hb
   generalize tSignN s=k at*
   go_wp2_with fail
   go_ret;exact⟨by rw[HT.out];rfl,HK.out⟩
  | false=>
   have h0:=(tSignN_zero s).2 hb;rw[hb]at HT;rw[h0];clear hb h0
   go_wp2_with fail
   go_ret;exact⟨by rw[HT.out];rfl,HK.out⟩
end Go.Proofs.YtoadlafdeoklbaaGreatDoor
