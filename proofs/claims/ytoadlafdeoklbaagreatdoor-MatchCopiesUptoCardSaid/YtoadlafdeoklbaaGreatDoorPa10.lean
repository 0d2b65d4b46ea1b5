/- Package utf: first. -/
import Derived.Test.YtoadlafdeoklbaaGreatDoorPa9
import Derived.Test.YtoadlafdeoklbaaGreatDoorPa6
import Derived.Deep.DeepCutAuto

namespace Go.Proofs.YtoadlafdeoklbaaGreatDoor
open Go.RowKit

/-- The lead byte without its lead. -/
def uLow (n:Nat)(a:UInt8):Nat:=(bits BinOp.andNot IntKind.u8 ((a.toNat:Nat):Int) ((uLead n:Nat):Int)).toNat
theorem uLow_bits (n:Nat)(a:UInt8):bits BinOp.andNot IntKind.u8 ((a.toNat:Nat):Int) ((uLead n:Nat):Int)=((uLow n a:Nat):Int):=by
 unfold uLow;have:=bits_within BinOp.andNot IntKind.u8 ((a.toNat:Nat):Int) ((uLead n:Nat):Int);have h0:IntKind.u8.min=0:=rfl;omega
theorem uLow_le (n:Nat)(a:UInt8):uLow n a≤255:=by
 have h:=bits_within BinOp.andNot IntKind.u8 ((a.toNat:Nat):Int) ((uLead n:Nat):Int);have h1:IntKind.u8.max=255:=rfl;rw[uLow_bits]at h;omega
theorem uLow_all:(List.range 256).all (fun a=>(List.range 5).all fun n=> !(decide (uLead n≤a) && decide (a < uMost n)) || decide ((bits BinOp.andNot IntKind.u8 ((a:Nat):Int) ((uLead n:Nat):Int)).toNat=a - uLead n))=true:=by kernel_rfl
theorem uLow_eq {n:Nat}{a:UInt8}(hn:n < 5)(h1:uLead n≤a.toNat)(h2:a.toNat < uMost n):uLow n a=a.toNat - uLead n:=by
 have h:=List.all_eq_true.1 uLow_all a.toNat (List.mem_range.2 a.toNat_lt);have h:=List.all_eq_true.1 h n (List.mem_range.2 hn);unfold uLow;simp only[h1,h2,decide_true,Bool.and_self,Bool.not_true,Bool.false_or,decide_eq_true_eq]at h;exact h
theorem uMore_lt (r:Nat)(l:List UInt8):uMore r l < (r+1)*64^l.length:=by
 unfold uMore
 induction l generalizing r with
 | nil=>simp
 | cons a l ih=>
  rw[List.foldl_cons,List.length_cons];refine Nat.lt_of_lt_of_le (ih _) ?_;rw[Nat.pow_succ,Nat.mul_comm (64^l.length) 64,←Nat.mul_assoc];exact Nat.mul_le_mul_right _ (by omega)
/-- The program's way of reading a rune. -/
theorem uCand {n:Nat}{a:UInt8}{t:List UInt8}(hl:(a::t).length=n)(hn:n≤4):(uMore (uLow n a) t≠0∧uMay (uMore (uLow n a) t)∧uRaw (uMore (uLow n a) t)=a::t)↔uHit (a::t):=by
 constructor
 ·rintro⟨_,h1,h2⟩
  exact⟨_,h1,h2⟩
 ·intro h
  obtain⟨a',t',e,g1,g2⟩:=uHit_lead h;injection e with e1 e2
  subst e1 e2;obtain⟨h1,h2⟩:=uHit_iff.1 h;rw[hl]at g1 g2;have e3:uDec (a::t)=uMore (uLow n a) t:=by
   unfold uDec;rw[hl,uLow_eq (by omega) g1 g2]
  rw[e3]at h1 h2;exact⟨by have:=h1.1;omega,h1,h2⟩
theorem orSix {r x:Nat}(hr:r < 33554432):bits BinOp.or IntKind.i32 (((64*r:Nat):Int)) (((x % 64:Nat):Int))=((64*r+x % 64:Nat):Int):=by
 have:=bits_join .i32 31 (by decide) wraps_i32 6 ((64*r:Nat):Int) ((x % 64:Nat):Int) (by omega) (by omega) (by omega) (by omega) (by omega) (by omega);rw[this];omega
set_option maxRecDepth 100000 in
set_option maxHeartbeats 4000000 in
theorem uFirst_any (w:World)(s:List UInt8)(hs:s.length≤1000000):Calls Tryz.prog 132 #[.string ⟨s.toArray⟩] w fun e w' =>∃r:Nat,e= .returned (.tuple #[.int .i32 (r:Int),.int .i64 ((uFirst s:Nat):Int)])∧(uFirst s≠0→0 < r)∧Keeps w w' []:=by
 obtain⟨S,hS⟩:∃S:ByteArray,(⟨s.toArray⟩:ByteArray)=S:=⟨_,rfl⟩;have hsz:S.size=s.length:=by rw[←hS];rfl
 have HS:=zh (And.intro hS hsz);rw[hS];clear hS
 go_enter Tryz.func132,Tryz.ntmps132
 go_wp2_with fail
 refine(uClasses_any w).mono ?_;rintro e w1 ⟨rfl,hk⟩;unfold classC;have H1:=zh hk;clear hk
 go_wp2_with fail
 go_loopw [10] (fun i wr=>∃k:Nat,k≤5∧i= .int .i64 k∧Hid ((∀j,1≤j→j < k→¬(j≤s.length∧uHit (s.take j)))∧Keeps w wr [])) (fun i _=>5 - (intOf i).toNat)
 case atStart=>exact⟨0,by omega,rfl,zh ⟨fun j _ _=>by omega,H1.out⟩⟩
 case round=>
  clear H1;obtain⟨k,hk,rfl,HR⟩:=hrel;have hsl:=HS.out.2
  rcases(show k=0∨k=1∨k=2∨k=3∨k=4∨k=5 by omega)with rfl | rfl | rfl | rfl | rfl | rfl
  ·have hix:=clsIx0
   go_wp2_with fail
   exact⟨⟨1,by omega,by go_num,zh ⟨fun j _ _=>by omega,HR.out.2.then_alloc _⟩⟩,by simp[intOf]⟩
  ·
   have hix:=clsIx1
   by_cases hl:s.length < 1
   ·have hlb:decide ((s.length:Int) < 1)=true:=decide_eq_true (by omega)
    have HL:=zh hl;clear hl
    go_wp2_with fail
    exact⟨⟨1+1,by omega,by go_num,zh ⟨fun j h1 h2 h3=>by
     have:=HL.out
     rcases Nat.lt_or_ge j 1 with h | h
     ·exact HR.out.1 j h1 h h3
     ·omega,HR.out.2.then_alloc _⟩⟩,by simp[intOf]⟩
   ·have hlb:decide ((s.length:Int) < 1)=false:=decide_eq_false (by omega)
    have hpos:0 < s.length:=by omega
    obtain⟨a,t,hat⟩:∃a t,s=a::t:=by
     cases s with
     | nil=>simp at hpos
     | cons a t=>exact⟨a,t,rfl⟩
    have HT:=zh (And.intro hat (show 1≤s.length by omega));have ha:∀h:0 < S.size,S[0]'h=a:=fun h=>by
     rw[str_get HS.out.1 hpos h];simp[hat]
    obtain⟨x,hx⟩:∃x,uLow 1 a=x:=⟨_,rfl⟩;have hlow:bits BinOp.andNot IntKind.u8 ((a.toNat:Nat):Int) 0=(x:Int):=by rw[←hx];exact uLow_bits 1 a
    have hx255:x≤255:=by rw[←hx];exact uLow_le 1 a
    have HX:=zh hx;clear hl hat hx
    go_upto_region 5 with fail
    obtain⟨Wb,hWb⟩:∃Wb,wr.alloc (.cells #[.int .i32 128,.int .u8 0] 167)=Wb:=⟨_,rfl⟩;have hkb:Keeps wr Wb []:=by rw[←hWb];exact Keeps.alloc _ _
    have hrb:Row Wb wr.heap.size 167 #[.int .i32 128,.int .u8 0]:=by rw[←hWb];exact Row.new _ _ _
    have HB:=zh (HR.out.2.then_ hkb);have MB:=fun(W' :World) (hW:Keeps Wb W' [])=>(hrb.keeps hW).cell 1
    simp only[zga,zgz,zgs]at MB;rw[hWb];have hwx:IntKind.i32.wrap (x:Int)=(x:Int):=wraps_i32 _ (by omega) (by omega);clear hkb hrb hWb;refine wp_region_keeps _ (by kernel_rfl) rfl (by kernel_rfl) ?_
    iterate 7
     refine ls ?_;simp only[addEnt]
    refine loose_nil (fun W vals hW hkn=> ?_);simp only[knowsAll]at hkn
    try simp only[and_true]at hkn
    simp only[fill,Act.put,zsa,zsc,zsz];clear hkn MB;have HW:=zh (And.intro (HB.out.then_ hW) hW);clear hW;obtain⟨l1,hl1⟩:∃l1,(s.drop 1).take (1 - 1)=l1:=⟨_,rfl⟩;obtain⟨S1,hS1⟩:∃S1,S.extract 1 1=S1:=⟨_,rfl⟩;have hS1' :S1=⟨l1.toArray⟩:=by rw[←hS1,←HS.out.1,str_cut,hl1]
    have hl1l:l1.length=1 - 1:=by
     rw[←hl1,List.length_take,List.length_drop];have:=HT.out.2;omega
    have hks:(1:Int)≤s.length:=by have:=HT.out.2;omega
    obtain⟨cap,W2,hcv,hk2,hc2⟩:=conv_by W l1;rw[←hS1',hl1l]at hcv;simp only[Nat.reduceSub]at hcv;have e1:S1=ByteArray.empty:=(by rw[hS1',List.length_eq_zero_iff.1 hl1l];rfl);rw[e1]at hcv;have HW2:=zh (And.intro (HW.out.1.then_ hk2) (And.intro hc2 (And.intro hl1l hl1)));clear hk2 hc2 hl1l hl1 hS1' e1
    go_wp2_with fail
    clear hS1 hcv
    go_loopw [6,33] (fun r j wr=>∃m y:Nat,m≤1 - 1∧j= .int .i64 m∧r= .int .i32 (y:Int)∧Hid (y=uMore x (l1.take m)∧Keeps W2 wr [])) (fun _ j _=>1 - 1 - (intOf j).toNat)
    case atStart=>exact⟨0,x,by omega,rfl,rfl,zh ⟨rfl,Keeps.refl _ _⟩⟩
    case round=>
     obtain⟨m,y,hm,rfl,rfl,HM⟩:=hrel
     by_cases hmk:m < 1 - 1
     ·have hl1m:m < l1.length:=by rw[HW2.out.2.2.1];exact hmk
      obtain⟨hcm,hlt⟩:=HW2.out.2.1 m hl1m;obtain⟨c,hc⟩:∃c,l1[m]=c:=⟨_,rfl⟩;rw[hc]at hcm;have q:=(HM.out.2.cell (p:=⟨W.heap.size,m,none⟩) hlt (by simp)).trans hcm;unfold byteV at q;have hy:=HM.out.1;have hlt2:=uMore_lt x (l1.take m);rw[←hy,List.length_take]at hlt2;have hyl:y < 33554432:=by
       refine Nat.lt_of_lt_of_le hlt2 ?_;refine Nat.le_trans (Nat.mul_le_mul (show x+1≤256 by omega) (Nat.pow_le_pow_right (by omega) (show min m l1.length≤2 by omega))) ?_;omega
      have hc6:=u8_and63 ((c.toNat:Nat):Int) (by omega) (by have:=c.toNat_lt;omega);have hsx:=orSix (r:=y) (x:=c.toNat) hyl;have hnx:64*y+c.toNat % 64=uMore x (l1.take (m+1)):=by
       rw[List.take_succ_eq_append_getElem hl1m,hc];unfold uMore;rw[List.foldl_append,←show y=(l1.take m).foldl (fun r x=>64*r+x.toNat % 64) x from hy];rfl
      have HNX:=zh hnx;clear hcm hlt hc hy hlt2 hnx hl1m
      go_wp2_with fail
      all_goals exact⟨⟨m+1,64*y+c.toNat % 64,by omega,by go_num,by congr 1;omega,zh ⟨HNX.out,HM.out.2⟩⟩,by simp[intOf];omega⟩
     ·have hmk' :m=1 - 1:=by omega
      subst hmk';have HY:=zh (show y=uMore x l1 by
       have e:=HM.out.1
       rwa [List.take_of_length_le (by rw[HW2.out.2.2.1];exact Nat.le_refl _)]at e)
      have HSK:=zh (show s.take 1=a::l1 by
       rw[←HW2.out.2.2.2,HT.out.1];rfl)
      have HIT:=zh (show(y≠0∧uMay y∧uRaw y=a::l1)↔uHit (s.take 1)by
       rw[HSK.out,HY.out,←HX.out];exact uCand (by rw[List.length_cons,HW2.out.2.2.1]) (by omega))
      have HNO:=zh (show¬uHit (s.take 1)→∀j,1≤j→j < 1+1→¬(j≤s.length∧uHit (s.take j))from fun hn j h1 h2 h3=>by
       rcases Nat.lt_or_ge j 1 with h | h
       ·exact HR.out.1 j h1 h h3
       ·have e:j=1:=by omega
        rw[e]at h3;exact hn h3.2)
      have hyl:y≤2147483647:=by
       have:=uMore_lt x l1;rw[←HY.out,HW2.out.2.2.1]at this;refine Nat.le_trans (Nat.le_of_lt this) ?_;refine Nat.le_trans (Nat.mul_le_mul_right _ (show x+1≤256 by omega)) (by decide)
      have HK3:=zh (HW2.out.1.then_ HM.out.2);clear HM HB HW
      by_cases hy0:y=0
      ·have HN:=zh (HNO.out (fun h=>(HIT.out.2 h).1 hy0))
       subst hy0
       go_wp2_with fail
       refine wp_region_keeps _ (by kernel_rfl) rfl (by kernel_rfl) ?_
       iterate 3
        refine ls ?_;simp only[addEnt]
       iterate 2
        refine lo ?_;simp only[addEnt]
       iterate 2
        refine ls ?_;simp only[addEnt]
       iterate 7
        refine lo ?_;simp only[addEnt]
       refine ls ?_;simp only[addEnt];refine loose_nil (fun W vals hW hkn=> ?_);simp only[knowsAll]at hkn
       try simp only[and_true]at hkn
       simp only[fill,Act.put,zsa,zsc,zsz];clear hkn;have HZ:=zh (HK3.out.then_ hW);clear hW
       go_wp2_with fail
       exact⟨⟨1+1,by omega,by go_num,zh ⟨HN.out,HZ.out⟩⟩,by simp[intOf]⟩
      ·have hyn:((y:Int) !=0)=true:=by simpa using hy0
       by_cases hm:uMay y
       ·have HM0:=zh hm
        obtain⟨S2,hS2⟩:∃S2:ByteArray,(⟨(uRaw y).toArray⟩:ByteArray)=S2:=⟨_,rfl⟩;obtain⟨S3,hS3⟩:∃S3,S.extract 0 1=S3:=⟨_,rfl⟩;have e2:S2.toList=uRaw y:=by rw[←hS2,Lib.toList_data]
        have e3:S3.toList=a::l1:=by rw[←hS3,←HS.out.1,str_cut,Lib.toList_data,←HSK.out];simp
        obtain⟨fb,hfb⟩:∃fb:Bool,fb=decide (uRaw y=a::l1):=⟨_,rfl⟩;have hcmp:(S2.toList==S3.toList)=fb:=by
         rw[e2,e3,hfb,Bool.eq_iff_iff];simp
        have HF:=zh hfb;have HS2:=zh hS2;clear hm e2 e3 hfb hS2
        go_wp2_with fail
        refine wp_region_keeps _ (by kernel_rfl) rfl (by kernel_rfl) ?_
        iterate 4
         refine ls ?_;simp only[addEnt]
        apply loose_is
        ·intro W vals hW hkn
         clear hkn;refine⟨?_⟩;simp only[fill];go_simp;refine looseUpon_calls ?_;exact(uMayN_any W y (by assumption) hyl).mono (by rintro e w3 ⟨rfl,rfl⟩;exact⟨_,rfl,Keeps.refl _ _,(by rw[decide_eq_true HM0.out])⟩)
        iterate 3
         simp only[addEnt];refine ls ?_
        simp only[addEnt];refine loose_has (fun v W' =>∃b,v= .slice (some ⟨b,0,none⟩) (uRaw y).length (uRaw y).length∧Row W' b 5 (byC (uRaw y))) (fun W vals hW hkn φ' hφ=> ?_) ?_
        ·simp only[knows]at hkn
         try simp only[and_true]at hkn
         clear hkn;refine⟨?_⟩;simp only[fill];go_simp
         (refine looseUpon_calls ?_;exact(uRaw_any W y (by have:=HM0.out.2;omega)).mono (by rintro e w3 ⟨b,rfl,hr,hk⟩;exact⟨_,rfl,hk,hφ.out _ _ ⟨b,rfl,hr⟩⟩))
        simp only[addEnt];apply loose_is
        ·intro W vals hW hkn
         simp only[knows]at hkn
         try simp only[and_true]at hkn
         obtain⟨W5,g0,g1,b,hv,hr⟩:=hkn (by decide);have hcv:=conv_str W _ (some ⟨b,0,none⟩) (uRaw y).length (uRaw y) (lies_by (hr.keeps g1));rw[HS2.out]at hcv;clear g0 g1 hr hkn;refine⟨?_⟩;simp only[fill];go_simp
         first | exact⟨Keeps.refl _ _,rfl⟩ | exact⟨Keeps.alloc _ _,rfl⟩
        iterate 5
         simp only[addEnt];refine ls ?_
        simp only[addEnt];refine loose_nil (fun W vals hW hkn=> ?_);simp only[knowsAll]at hkn
        try simp only[and_true]at hkn
        simp only[fill,Act.put,zsa,zsc,zsz];clear hkn;have HZ:=zh (HK3.out.then_ hW);clear hW
        cases fb with
        | true=>
         go_wp2_with fail
         go_ret2
         have hu:uFirst s=1:=uFirst_hit (by omega) (by omega) (fun j h1 h2=>HR.out.1 j h1 h2) ⟨HT.out.2,HIT.out.1 ⟨hy0,HM0.out,of_decide_eq_true HF.out.symm⟩⟩;exact⟨y,by rw[hu];rfl,fun _=>by omega,HZ.out⟩
        | false=>
         have HN:=zh (HNO.out (fun h=>by
          have e:=(HIT.out.2 h).2.2;have f:=HF.out;rw[decide_eq_true e]at f
          cases f))
         go_wp2_with fail
         exact⟨⟨1+1,by omega,by go_num,zh ⟨HN.out,HZ.out⟩⟩,by simp[intOf]⟩
       ·have HN:=zh (HNO.out (fun h=>hm (HIT.out.2 h).2.1))
        have HM0:=zh hm;clear hm
        go_wp2_with fail
        refine wp_region_keeps _ (by kernel_rfl) rfl (by kernel_rfl) ?_
        iterate 4
         refine ls ?_;simp only[addEnt]
        apply loose_is
        ·intro W vals hW hkn
         clear hkn;refine⟨?_⟩;simp only[fill];go_simp;refine looseUpon_calls ?_;exact(uMayN_any W y (by assumption) hyl).mono (by rintro e w3 ⟨rfl,rfl⟩;exact⟨_,rfl,Keeps.refl _ _,(by rw[decide_eq_false HM0.out])⟩)
        iterate 2
         simp only[addEnt];refine ls ?_
        iterate 7
         simp only[addEnt];refine lo ?_
        simp only[addEnt];refine ls ?_;simp only[addEnt];refine loose_nil (fun W vals hW hkn=> ?_);simp only[knowsAll]at hkn
        try simp only[and_true]at hkn
        simp only[fill,Act.put,zsa,zsc,zsz];clear hkn;have HZ:=zh (HK3.out.then_ hW);clear hW
        go_wp2_with fail
        exact⟨⟨1+1,by omega,by go_num,zh ⟨HN.out,HZ.out⟩⟩,by simp[intOf]⟩
  ·
   have hix:=clsIx2
   by_cases hl:s.length < 2
   ·have hlb:decide ((s.length:Int) < 2)=true:=decide_eq_true (by omega)
    have HL:=zh hl;clear hl
    go_wp2_with fail
    exact⟨⟨2+1,by omega,by go_num,zh ⟨fun j h1 h2 h3=>by
     have:=HL.out
     rcases Nat.lt_or_ge j 2 with h | h
     ·exact HR.out.1 j h1 h h3
     ·omega,HR.out.2.then_alloc _⟩⟩,by simp[intOf]⟩
   ·have hlb:decide ((s.length:Int) < 2)=false:=decide_eq_false (by omega)
    have hpos:0 < s.length:=by omega
    obtain⟨a,t,hat⟩:∃a t,s=a::t:=by
     cases s with
     | nil=>simp at hpos
     | cons a t=>exact⟨a,t,rfl⟩
    have HT:=zh (And.intro hat (show 2≤s.length by omega));have ha:∀h:0 < S.size,S[0]'h=a:=fun h=>by
     rw[str_get HS.out.1 hpos h];simp[hat]
    obtain⟨x,hx⟩:∃x,uLow 2 a=x:=⟨_,rfl⟩;have hlow:bits BinOp.andNot IntKind.u8 ((a.toNat:Nat):Int) 192=(x:Int):=by rw[←hx];exact uLow_bits 2 a
    have hx255:x≤255:=by rw[←hx];exact uLow_le 2 a
    have HX:=zh hx;clear hl hat hx
    go_upto_region 5 with fail
    obtain⟨Wb,hWb⟩:∃Wb,wr.alloc (.cells #[.int .i32 2048,.int .u8 192] 167)=Wb:=⟨_,rfl⟩;have hkb:Keeps wr Wb []:=by rw[←hWb];exact Keeps.alloc _ _
    have hrb:Row Wb wr.heap.size 167 #[.int .i32 2048,.int .u8 192]:=by rw[←hWb];exact Row.new _ _ _
    have HB:=zh (HR.out.2.then_ hkb);have MB:=fun(W' :World) (hW:Keeps Wb W' [])=>(hrb.keeps hW).cell 1
    simp only[zga,zgz,zgs]at MB;rw[hWb];have hwx:IntKind.i32.wrap (x:Int)=(x:Int):=wraps_i32 _ (by omega) (by omega);clear hkb hrb hWb;refine wp_region_keeps _ (by kernel_rfl) rfl (by kernel_rfl) ?_
    iterate 7
     refine ls ?_;simp only[addEnt]
    refine loose_nil (fun W vals hW hkn=> ?_);simp only[knowsAll]at hkn
    try simp only[and_true]at hkn
    simp only[fill,Act.put,zsa,zsc,zsz];clear hkn MB;have HW:=zh (And.intro (HB.out.then_ hW) hW);clear hW;obtain⟨l1,hl1⟩:∃l1,(s.drop 1).take (2 - 1)=l1:=⟨_,rfl⟩;obtain⟨S1,hS1⟩:∃S1,S.extract 1 2=S1:=⟨_,rfl⟩;have hS1' :S1=⟨l1.toArray⟩:=by rw[←hS1,←HS.out.1,str_cut,hl1]
    have hl1l:l1.length=2 - 1:=by
     rw[←hl1,List.length_take,List.length_drop];have:=HT.out.2;omega
    have hks:(2:Int)≤s.length:=by have:=HT.out.2;omega
    obtain⟨cap,W2,hcv,hk2,hc2⟩:=conv_by W l1;rw[←hS1',hl1l]at hcv;simp only[Nat.reduceSub]at hcv;have e1:S1=S1:=rfl;rw[e1]at hcv;have HW2:=zh (And.intro (HW.out.1.then_ hk2) (And.intro hc2 (And.intro hl1l hl1)));clear hk2 hc2 hl1l hl1 hS1' e1
    go_wp2_with fail
    clear hS1 hcv
    go_loopw [6,33] (fun r j wr=>∃m y:Nat,m≤2 - 1∧j= .int .i64 m∧r= .int .i32 (y:Int)∧Hid (y=uMore x (l1.take m)∧Keeps W2 wr [])) (fun _ j _=>2 - 1 - (intOf j).toNat)
    case atStart=>exact⟨0,x,by omega,rfl,rfl,zh ⟨rfl,Keeps.refl _ _⟩⟩
    case round=>
     obtain⟨m,y,hm,rfl,rfl,HM⟩:=hrel
     by_cases hmk:m < 2 - 1
     ·have hl1m:m < l1.length:=by rw[HW2.out.2.2.1];exact hmk
      obtain⟨hcm,hlt⟩:=HW2.out.2.1 m hl1m;obtain⟨c,hc⟩:∃c,l1[m]=c:=⟨_,rfl⟩;rw[hc]at hcm;have q:=(HM.out.2.cell (p:=⟨W.heap.size,m,none⟩) hlt (by simp)).trans hcm;unfold byteV at q;have hy:=HM.out.1;have hlt2:=uMore_lt x (l1.take m);rw[←hy,List.length_take]at hlt2;have hyl:y < 33554432:=by
       refine Nat.lt_of_lt_of_le hlt2 ?_;refine Nat.le_trans (Nat.mul_le_mul (show x+1≤256 by omega) (Nat.pow_le_pow_right (by omega) (show min m l1.length≤2 by omega))) ?_;omega
      have hc6:=u8_and63 ((c.toNat:Nat):Int) (by omega) (by have:=c.toNat_lt;omega);have hsx:=orSix (r:=y) (x:=c.toNat) hyl;have hnx:64*y+c.toNat % 64=uMore x (l1.take (m+1)):=by
       rw[List.take_succ_eq_append_getElem hl1m,hc];unfold uMore;rw[List.foldl_append,←show y=(l1.take m).foldl (fun r x=>64*r+x.toNat % 64) x from hy];rfl
      have HNX:=zh hnx;clear hcm hlt hc hy hlt2 hnx hl1m
      go_wp2_with fail
      all_goals exact⟨⟨m+1,64*y+c.toNat % 64,by omega,by go_num,by congr 1;omega,zh ⟨HNX.out,HM.out.2⟩⟩,by simp[intOf];omega⟩
     ·have hmk' :m=2 - 1:=by omega
      subst hmk';have HY:=zh (show y=uMore x l1 by
       have e:=HM.out.1
       rwa [List.take_of_length_le (by rw[HW2.out.2.2.1];exact Nat.le_refl _)]at e)
      have HSK:=zh (show s.take 2=a::l1 by
       rw[←HW2.out.2.2.2,HT.out.1];rfl)
      have HIT:=zh (show(y≠0∧uMay y∧uRaw y=a::l1)↔uHit (s.take 2)by
       rw[HSK.out,HY.out,←HX.out];exact uCand (by rw[List.length_cons,HW2.out.2.2.1]) (by omega))
      have HNO:=zh (show¬uHit (s.take 2)→∀j,1≤j→j < 2+1→¬(j≤s.length∧uHit (s.take j))from fun hn j h1 h2 h3=>by
       rcases Nat.lt_or_ge j 2 with h | h
       ·exact HR.out.1 j h1 h h3
       ·have e:j=2:=by omega
        rw[e]at h3;exact hn h3.2)
      have hyl:y≤2147483647:=by
       have:=uMore_lt x l1;rw[←HY.out,HW2.out.2.2.1]at this;refine Nat.le_trans (Nat.le_of_lt this) ?_;refine Nat.le_trans (Nat.mul_le_mul_right _ (show x+1≤256 by omega)) (by decide)
      have HK3:=zh (HW2.out.1.then_ HM.out.2);clear HM HB HW
      by_cases hy0:y=0
      ·have HN:=zh (HNO.out (fun h=>(HIT.out.2 h).1 hy0))
       subst hy0
       go_wp2_with fail
       refine wp_region_keeps _ (by kernel_rfl) rfl (by kernel_rfl) ?_
       iterate 3
        refine ls ?_;simp only[addEnt]
       iterate 2
        refine lo ?_;simp only[addEnt]
       iterate 2
        refine ls ?_;simp only[addEnt]
       iterate 7
        refine lo ?_;simp only[addEnt]
       refine ls ?_;simp only[addEnt];refine loose_nil (fun W vals hW hkn=> ?_);simp only[knowsAll]at hkn
       try simp only[and_true]at hkn
       simp only[fill,Act.put,zsa,zsc,zsz];clear hkn;have HZ:=zh (HK3.out.then_ hW);clear hW
       go_wp2_with fail
       exact⟨⟨2+1,by omega,by go_num,zh ⟨HN.out,HZ.out⟩⟩,by simp[intOf]⟩
      ·have hyn:((y:Int) !=0)=true:=by simpa using hy0
       by_cases hm:uMay y
       ·have HM0:=zh hm
        obtain⟨S2,hS2⟩:∃S2:ByteArray,(⟨(uRaw y).toArray⟩:ByteArray)=S2:=⟨_,rfl⟩;obtain⟨S3,hS3⟩:∃S3,S.extract 0 2=S3:=⟨_,rfl⟩;have e2:S2.toList=uRaw y:=by rw[←hS2,Lib.toList_data]
        have e3:S3.toList=a::l1:=by rw[←hS3,←HS.out.1,str_cut,Lib.toList_data,←HSK.out];simp
        obtain⟨fb,hfb⟩:∃fb:Bool,fb=decide (uRaw y=a::l1):=⟨_,rfl⟩;have hcmp:(S2.toList==S3.toList)=fb:=by
         rw[e2,e3,hfb,Bool.eq_iff_iff];simp
        have HF:=zh hfb;have HS2:=zh hS2;clear hm e2 e3 hfb hS2
        go_wp2_with fail
        refine wp_region_keeps _ (by kernel_rfl) rfl (by kernel_rfl) ?_
        iterate 4
         refine ls ?_;simp only[addEnt]
        apply loose_is
        ·intro W vals hW hkn
         clear hkn;refine⟨?_⟩;simp only[fill];go_simp;refine looseUpon_calls ?_;exact(uMayN_any W y (by assumption) hyl).mono (by rintro e w3 ⟨rfl,rfl⟩;exact⟨_,rfl,Keeps.refl _ _,(by rw[decide_eq_true HM0.out])⟩)
        iterate 3
         simp only[addEnt];refine ls ?_
        simp only[addEnt];refine loose_has (fun v W' =>∃b,v= .slice (some ⟨b,0,none⟩) (uRaw y).length (uRaw y).length∧Row W' b 5 (byC (uRaw y))) (fun W vals hW hkn φ' hφ=> ?_) ?_
        ·simp only[knows]at hkn
         try simp only[and_true]at hkn
         clear hkn;refine⟨?_⟩;simp only[fill];go_simp
         (refine looseUpon_calls ?_;exact(uRaw_any W y (by have:=HM0.out.2;omega)).mono (by rintro e w3 ⟨b,rfl,hr,hk⟩;exact⟨_,rfl,hk,hφ.out _ _ ⟨b,rfl,hr⟩⟩))
        simp only[addEnt];apply loose_is
        ·intro W vals hW hkn
         simp only[knows]at hkn
         try simp only[and_true]at hkn
         obtain⟨W5,g0,g1,b,hv,hr⟩:=hkn (by decide);have hcv:=conv_str W _ (some ⟨b,0,none⟩) (uRaw y).length (uRaw y) (lies_by (hr.keeps g1));rw[HS2.out]at hcv;clear g0 g1 hr hkn;refine⟨?_⟩;simp only[fill];go_simp
         first | exact⟨Keeps.refl _ _,rfl⟩ | exact⟨Keeps.alloc _ _,rfl⟩
        iterate 5
         simp only[addEnt];refine ls ?_
        simp only[addEnt];refine loose_nil (fun W vals hW hkn=> ?_);simp only[knowsAll]at hkn
        try simp only[and_true]at hkn
        simp only[fill,Act.put,zsa,zsc,zsz];clear hkn;have HZ:=zh (HK3.out.then_ hW);clear hW
        cases fb with
        | true=>
         go_wp2_with fail
         go_ret2
         have hu:uFirst s=2:=uFirst_hit (by omega) (by omega) (fun j h1 h2=>HR.out.1 j h1 h2) ⟨HT.out.2,HIT.out.1 ⟨hy0,HM0.out,of_decide_eq_true HF.out.symm⟩⟩;exact⟨y,by rw[hu];rfl,fun _=>by omega,HZ.out⟩
        | false=>
         have HN:=zh (HNO.out (fun h=>by
          have e:=(HIT.out.2 h).2.2;have f:=HF.out;rw[decide_eq_true e]at f
          cases f))
         go_wp2_with fail
         exact⟨⟨2+1,by omega,by go_num,zh ⟨HN.out,HZ.out⟩⟩,by simp[intOf]⟩
       ·have HN:=zh (HNO.out (fun h=>hm (HIT.out.2 h).2.1))
        have HM0:=zh hm;clear hm
        go_wp2_with fail
        refine wp_region_keeps _ (by kernel_rfl) rfl (by kernel_rfl) ?_
        iterate 4
         refine ls ?_;simp only[addEnt]
        apply loose_is
        ·intro W vals hW hkn
         clear hkn;refine⟨?_⟩;simp only[fill];go_simp;refine looseUpon_calls ?_;exact(uMayN_any W y (by assumption) hyl).mono (by rintro e w3 ⟨rfl,rfl⟩;exact⟨_,rfl,Keeps.refl _ _,(by rw[decide_eq_false HM0.out])⟩)
        iterate 2
         simp only[addEnt];refine ls ?_
        iterate 7
         simp only[addEnt];refine lo ?_
        simp only[addEnt];refine ls ?_;simp only[addEnt];refine loose_nil (fun W vals hW hkn=> ?_);simp only[knowsAll]at hkn
        try simp only[and_true]at hkn
        simp only[fill,Act.put,zsa,zsc,zsz];clear hkn;have HZ:=zh (HK3.out.then_ hW);clear hW
        go_wp2_with fail
        exact⟨⟨2+1,by omega,by go_num,zh ⟨HN.out,HZ.out⟩⟩,by simp[intOf]⟩
  ·
   have hix:=clsIx3
   by_cases hl:s.length < 3
   ·have hlb:decide ((s.length:Int) < 3)=true:=decide_eq_true (by omega)
    have HL:=zh hl;clear hl
    go_wp2_with fail
    exact⟨⟨3+1,by omega,by go_num,zh ⟨fun j h1 h2 h3=>by
     have:=HL.out
     rcases Nat.lt_or_ge j 3 with h | h
     ·exact HR.out.1 j h1 h h3
     ·omega,HR.out.2.then_alloc _⟩⟩,by simp[intOf]⟩
   ·have hlb:decide ((s.length:Int) < 3)=false:=decide_eq_false (by omega)
    have hpos:0 < s.length:=by omega
    obtain⟨a,t,hat⟩:∃a t,s=a::t:=by
     cases s with
     | nil=>simp at hpos
     | cons a t=>exact⟨a,t,rfl⟩
    have HT:=zh (And.intro hat (show 3≤s.length by omega));have ha:∀h:0 < S.size,S[0]'h=a:=fun h=>by
     rw[str_get HS.out.1 hpos h];simp[hat]
    obtain⟨x,hx⟩:∃x,uLow 3 a=x:=⟨_,rfl⟩;have hlow:bits BinOp.andNot IntKind.u8 ((a.toNat:Nat):Int) 224=(x:Int):=by rw[←hx];exact uLow_bits 3 a
    have hx255:x≤255:=by rw[←hx];exact uLow_le 3 a
    have HX:=zh hx;clear hl hat hx
    go_upto_region 5 with fail
    obtain⟨Wb,hWb⟩:∃Wb,wr.alloc (.cells #[.int .i32 65536,.int .u8 224] 167)=Wb:=⟨_,rfl⟩;have hkb:Keeps wr Wb []:=by rw[←hWb];exact Keeps.alloc _ _
    have hrb:Row Wb wr.heap.size 167 #[.int .i32 65536,.int .u8 224]:=by rw[←hWb];exact Row.new _ _ _
    have HB:=zh (HR.out.2.then_ hkb);have MB:=fun(W' :World) (hW:Keeps Wb W' [])=>(hrb.keeps hW).cell 1
    simp only[zga,zgz,zgs]at MB;rw[hWb];have hwx:IntKind.i32.wrap (x:Int)=(x:Int):=wraps_i32 _ (by omega) (by omega);clear hkb hrb hWb;refine wp_region_keeps _ (by kernel_rfl) rfl (by kernel_rfl) ?_
    iterate 7
     refine ls ?_;simp only[addEnt]
    refine loose_nil (fun W vals hW hkn=> ?_);simp only[knowsAll]at hkn
    try simp only[and_true]at hkn
    simp only[fill,Act.put,zsa,zsc,zsz];clear hkn MB;have HW:=zh (And.intro (HB.out.then_ hW) hW);clear hW;obtain⟨l1,hl1⟩:∃l1,(s.drop 1).take (3 - 1)=l1:=⟨_,rfl⟩;obtain⟨S1,hS1⟩:∃S1,S.extract 1 3=S1:=⟨_,rfl⟩;have hS1' :S1=⟨l1.toArray⟩:=by rw[←hS1,←HS.out.1,str_cut,hl1]
    have hl1l:l1.length=3 - 1:=by
     rw[←hl1,List.length_take,List.length_drop];have:=HT.out.2;omega
    have hks:(3:Int)≤s.length:=by have:=HT.out.2;omega
    obtain⟨cap,W2,hcv,hk2,hc2⟩:=conv_by W l1;rw[←hS1',hl1l]at hcv;simp only[Nat.reduceSub]at hcv;have e1:S1=S1:=rfl;rw[e1]at hcv;have HW2:=zh (And.intro (HW.out.1.then_ hk2) (And.intro hc2 (And.intro hl1l hl1)));clear hk2 hc2 hl1l hl1 hS1' e1
    go_wp2_with fail
    clear hS1 hcv
    go_loopw [6,33] (fun r j wr=>∃m y:Nat,m≤3 - 1∧j= .int .i64 m∧r= .int .i32 (y:Int)∧Hid (y=uMore x (l1.take m)∧Keeps W2 wr [])) (fun _ j _=>3 - 1 - (intOf j).toNat)
    case atStart=>exact⟨0,x,by omega,rfl,rfl,zh ⟨rfl,Keeps.refl _ _⟩⟩
    case round=>
     obtain⟨m,y,hm,rfl,rfl,HM⟩:=hrel
     by_cases hmk:m < 3 - 1
     ·have hl1m:m < l1.length:=by rw[HW2.out.2.2.1];exact hmk
      obtain⟨hcm,hlt⟩:=HW2.out.2.1 m hl1m;obtain⟨c,hc⟩:∃c,l1[m]=c:=⟨_,rfl⟩;rw[hc]at hcm;have q:=(HM.out.2.cell (p:=⟨W.heap.size,m,none⟩) hlt (by simp)).trans hcm;unfold byteV at q;have hy:=HM.out.1;have hlt2:=uMore_lt x (l1.take m);rw[←hy,List.length_take]at hlt2;have hyl:y < 33554432:=by
       refine Nat.lt_of_lt_of_le hlt2 ?_;refine Nat.le_trans (Nat.mul_le_mul (show x+1≤256 by omega) (Nat.pow_le_pow_right (by omega) (show min m l1.length≤2 by omega))) ?_;omega
      have hc6:=u8_and63 ((c.toNat:Nat):Int) (by omega) (by have:=c.toNat_lt;omega);have hsx:=orSix (r:=y) (x:=c.toNat) hyl;have hnx:64*y+c.toNat % 64=uMore x (l1.take (m+1)):=by
       rw[List.take_succ_eq_append_getElem hl1m,hc];unfold uMore;rw[List.foldl_append,←show y=(l1.take m).foldl (fun r x=>64*r+x.toNat % 64) x from hy];rfl
      have HNX:=zh hnx;clear hcm hlt hc hy hlt2 hnx hl1m
      go_wp2_with fail
      all_goals exact⟨⟨m+1,64*y+c.toNat % 64,by omega,by go_num,by congr 1;omega,zh ⟨HNX.out,HM.out.2⟩⟩,by simp[intOf];omega⟩
     ·have hmk' :m=3 - 1:=by omega
      subst hmk';have HY:=zh (show y=uMore x l1 by
       have e:=HM.out.1
       rwa [List.take_of_length_le (by rw[HW2.out.2.2.1];exact Nat.le_refl _)]at e)
      have HSK:=zh (show s.take 3=a::l1 by
       rw[←HW2.out.2.2.2,HT.out.1];rfl)
      have HIT:=zh (show(y≠0∧uMay y∧uRaw y=a::l1)↔uHit (s.take 3)by
       rw[HSK.out,HY.out,←HX.out];exact uCand (by rw[List.length_cons,HW2.out.2.2.1]) (by omega))
      have HNO:=zh (show¬uHit (s.take 3)→∀j,1≤j→j < 3+1→¬(j≤s.length∧uHit (s.take j))from fun hn j h1 h2 h3=>by
       rcases Nat.lt_or_ge j 3 with h | h
       ·exact HR.out.1 j h1 h h3
       ·have e:j=3:=by omega
        rw[e]at h3;exact hn h3.2)
      have hyl:y≤2147483647:=by
       have:=uMore_lt x l1;rw[←HY.out,HW2.out.2.2.1]at this;refine Nat.le_trans (Nat.le_of_lt this) ?_;refine Nat.le_trans (Nat.mul_le_mul_right _ (show x+1≤256 by omega)) (by decide)
      have HK3:=zh (HW2.out.1.then_ HM.out.2);clear HM HB HW
      by_cases hy0:y=0
      ·have HN:=zh (HNO.out (fun h=>(HIT.out.2 h).1 hy0))
       subst hy0
       go_wp2_with fail
       refine wp_region_keeps _ (by kernel_rfl) rfl (by kernel_rfl) ?_
       iterate 3
        refine ls ?_;simp only[addEnt]
       iterate 2
        refine lo ?_;simp only[addEnt]
       iterate 2
        refine ls ?_;simp only[addEnt]
       iterate 7
        refine lo ?_;simp only[addEnt]
       refine ls ?_;simp only[addEnt];refine loose_nil (fun W vals hW hkn=> ?_);simp only[knowsAll]at hkn
       try simp only[and_true]at hkn
       simp only[fill,Act.put,zsa,zsc,zsz];clear hkn;have HZ:=zh (HK3.out.then_ hW);clear hW
       go_wp2_with fail
       exact⟨⟨3+1,by omega,by go_num,zh ⟨HN.out,HZ.out⟩⟩,by simp[intOf]⟩
      ·have hyn:((y:Int) !=0)=true:=by simpa using hy0
       by_cases hm:uMay y
       ·have HM0:=zh hm
        obtain⟨S2,hS2⟩:∃S2:ByteArray,(⟨(uRaw y).toArray⟩:ByteArray)=S2:=⟨_,rfl⟩;obtain⟨S3,hS3⟩:∃S3,S.extract 0 3=S3:=⟨_,rfl⟩;have e2:S2.toList=uRaw y:=by rw[←hS2,Lib.toList_data]
        have e3:S3.toList=a::l1:=by rw[←hS3,←HS.out.1,str_cut,Lib.toList_data,←HSK.out];simp
        obtain⟨fb,hfb⟩:∃fb:Bool,fb=decide (uRaw y=a::l1):=⟨_,rfl⟩;have hcmp:(S2.toList==S3.toList)=fb:=by
         rw[e2,e3,hfb,Bool.eq_iff_iff];simp
        have HF:=zh hfb;have HS2:=zh hS2;clear hm e2 e3 hfb hS2
        go_wp2_with fail
        refine wp_region_keeps _ (by kernel_rfl) rfl (by kernel_rfl) ?_
        iterate 4
         refine ls ?_;simp only[addEnt]
        apply loose_is
        ·intro W vals hW hkn
         clear hkn;refine⟨?_⟩;simp only[fill];go_simp;refine looseUpon_calls ?_;exact(uMayN_any W y (by assumption) hyl).mono (by rintro e w3 ⟨rfl,rfl⟩;exact⟨_,rfl,Keeps.refl _ _,(by rw[decide_eq_true HM0.out])⟩)
        iterate 3
         simp only[addEnt];refine ls ?_
        simp only[addEnt];refine loose_has (fun v W' =>∃b,v= .slice (some ⟨b,0,none⟩) (uRaw y).length (uRaw y).length∧Row W' b 5 (byC (uRaw y))) (fun W vals hW hkn φ' hφ=> ?_) ?_
        ·simp only[knows]at hkn
         try simp only[and_true]at hkn
         clear hkn;refine⟨?_⟩;simp only[fill];go_simp
         (refine looseUpon_calls ?_;exact(uRaw_any W y (by have:=HM0.out.2;omega)).mono (by rintro e w3 ⟨b,rfl,hr,hk⟩;exact⟨_,rfl,hk,hφ.out _ _ ⟨b,rfl,hr⟩⟩))
        simp only[addEnt];apply loose_is
        ·intro W vals hW hkn
         simp only[knows]at hkn
         try simp only[and_true]at hkn
         obtain⟨W5,g0,g1,b,hv,hr⟩:=hkn (by decide);have hcv:=conv_str W _ (some ⟨b,0,none⟩) (uRaw y).length (uRaw y) (lies_by (hr.keeps g1));rw[HS2.out]at hcv;clear g0 g1 hr hkn;refine⟨?_⟩;simp only[fill];go_simp
         first | exact⟨Keeps.refl _ _,rfl⟩ | exact⟨Keeps.alloc _ _,rfl⟩
        iterate 5
         simp only[addEnt];refine ls ?_
        simp only[addEnt];refine loose_nil (fun W vals hW hkn=> ?_);simp only[knowsAll]at hkn
        try simp only[and_true]at hkn
        simp only[fill,Act.put,zsa,zsc,zsz];clear hkn;have HZ:=zh (HK3.out.then_ hW);clear hW
        cases fb with
        | true=>
         go_wp2_with fail
         go_ret2
         have hu:uFirst s=3:=uFirst_hit (by omega) (by omega) (fun j h1 h2=>HR.out.1 j h1 h2) ⟨HT.out.2,HIT.out.1 ⟨hy0,HM0.out,of_decide_eq_true HF.out.symm⟩⟩;exact⟨y,by rw[hu];rfl,fun _=>by omega,HZ.out⟩
        | false=>
         have HN:=zh (HNO.out (fun h=>by
          have e:=(HIT.out.2 h).2.2;have f:=HF.out;rw[decide_eq_true e]at f
          cases f))
         go_wp2_with fail
         exact⟨⟨3+1,by omega,by go_num,zh ⟨HN.out,HZ.out⟩⟩,by simp[intOf]⟩
       ·have HN:=zh (HNO.out (fun h=>hm (HIT.out.2 h).2.1))
        have HM0:=zh hm;clear hm
        go_wp2_with fail
        refine wp_region_keeps _ (by kernel_rfl) rfl (by kernel_rfl) ?_
        iterate 4
         refine ls ?_;simp only[addEnt]
        apply loose_is
        ·intro W vals hW hkn
         clear hkn;refine⟨?_⟩;simp only[fill];go_simp;refine looseUpon_calls ?_;exact(uMayN_any W y (by assumption) hyl).mono (by rintro e w3 ⟨rfl,rfl⟩;exact⟨_,rfl,Keeps.refl _ _,(by rw[decide_eq_false HM0.out])⟩)
        iterate 2
         simp only[addEnt];refine ls ?_
        iterate 7
         simp only[addEnt];refine lo ?_
        simp only[addEnt];refine ls ?_;simp only[addEnt];refine loose_nil (fun W vals hW hkn=> ?_);simp only[knowsAll]at hkn
        try simp only[and_true]at hkn
        simp only[fill,Act.put,zsa,zsc,zsz];clear hkn;have HZ:=zh (HK3.out.then_ hW);clear hW
        go_wp2_with fail
        exact⟨⟨3+1,by omega,by go_num,zh ⟨HN.out,HZ.out⟩⟩,by simp[intOf]⟩
  ·
   have hix:=clsIx4
   by_cases hl:s.length < 4
   ·have hlb:decide ((s.length:Int) < 4)=true:=decide_eq_true (by omega)
    have HL:=zh hl;clear hl
    go_wp2_with fail
    exact⟨⟨4+1,by omega,by go_num,zh ⟨fun j h1 h2 h3=>by
     have:=HL.out
     rcases Nat.lt_or_ge j 4 with h | h
     ·exact HR.out.1 j h1 h h3
     ·omega,HR.out.2.then_alloc _⟩⟩,by simp[intOf]⟩
   ·have hlb:decide ((s.length:Int) < 4)=false:=decide_eq_false (by omega)
    have hpos:0 < s.length:=by omega
    obtain⟨a,t,hat⟩:∃a t,s=a::t:=by
     cases s with
     | nil=>simp at hpos
     | cons a t=>exact⟨a,t,rfl⟩
    have HT:=zh (And.intro hat (show 4≤s.length by omega));have ha:∀h:0 < S.size,S[0]'h=a:=fun h=>by
     rw[str_get HS.out.1 hpos h];simp[hat]
    obtain⟨x,hx⟩:∃x,uLow 4 a=x:=⟨_,rfl⟩;have hlow:bits BinOp.andNot IntKind.u8 ((a.toNat:Nat):Int) 240=(x:Int):=by rw[←hx];exact uLow_bits 4 a
    have hx255:x≤255:=by rw[←hx];exact uLow_le 4 a
    have HX:=zh hx;clear hl hat hx
    go_upto_region 5 with fail
    obtain⟨Wb,hWb⟩:∃Wb,wr.alloc (.cells #[.int .i32 1114112,.int .u8 240] 167)=Wb:=⟨_,rfl⟩;have hkb:Keeps wr Wb []:=by rw[←hWb];exact Keeps.alloc _ _
    have hrb:Row Wb wr.heap.size 167 #[.int .i32 1114112,.int .u8 240]:=by rw[←hWb];exact Row.new _ _ _
    have HB:=zh (HR.out.2.then_ hkb);have MB:=fun(W' :World) (hW:Keeps Wb W' [])=>(hrb.keeps hW).cell 1
    simp only[zga,zgz,zgs]at MB;rw[hWb];have hwx:IntKind.i32.wrap (x:Int)=(x:Int):=wraps_i32 _ (by omega) (by omega);clear hkb hrb hWb;refine wp_region_keeps _ (by kernel_rfl) rfl (by kernel_rfl) ?_
    iterate 7
     refine ls ?_;simp only[addEnt]
    refine loose_nil (fun W vals hW hkn=> ?_);simp only[knowsAll]at hkn
    try simp only[and_true]at hkn
    simp only[fill,Act.put,zsa,zsc,zsz];clear hkn MB;have HW:=zh (And.intro (HB.out.then_ hW) hW);clear hW;obtain⟨l1,hl1⟩:∃l1,(s.drop 1).take (4 - 1)=l1:=⟨_,rfl⟩;obtain⟨S1,hS1⟩:∃S1,S.extract 1 4=S1:=⟨_,rfl⟩;have hS1' :S1=⟨l1.toArray⟩:=by rw[←hS1,←HS.out.1,str_cut,hl1]
    have hl1l:l1.length=4 - 1:=by
     rw[←hl1,List.length_take,List.length_drop];have:=HT.out.2;omega
    have hks:(4:Int)≤s.length:=by have:=HT.out.2;omega
    obtain⟨cap,W2,hcv,hk2,hc2⟩:=conv_by W l1;rw[←hS1',hl1l]at hcv;simp only[Nat.reduceSub]at hcv;have e1:S1=S1:=rfl;rw[e1]at hcv;have HW2:=zh (And.intro (HW.out.1.then_ hk2) (And.intro hc2 (And.intro hl1l hl1)));clear hk2 hc2 hl1l hl1 hS1' e1
    go_wp2_with fail
    clear hS1 hcv
    go_loopw [6,33] (fun r j wr=>∃m y:Nat,m≤4 - 1∧j= .int .i64 m∧r= .int .i32 (y:Int)∧Hid (y=uMore x (l1.take m)∧Keeps W2 wr [])) (fun _ j _=>4 - 1 - (intOf j).toNat)
    case atStart=>exact⟨0,x,by omega,rfl,rfl,zh ⟨rfl,Keeps.refl _ _⟩⟩
    case round=>
     obtain⟨m,y,hm,rfl,rfl,HM⟩:=hrel
     by_cases hmk:m < 4 - 1
     ·have hl1m:m < l1.length:=by rw[HW2.out.2.2.1];exact hmk
      obtain⟨hcm,hlt⟩:=HW2.out.2.1 m hl1m;obtain⟨c,hc⟩:∃c,l1[m]=c:=⟨_,rfl⟩;rw[hc]at hcm;have q:=(HM.out.2.cell (p:=⟨W.heap.size,m,none⟩) hlt (by simp)).trans hcm;unfold byteV at q;have hy:=HM.out.1;have hlt2:=uMore_lt x (l1.take m);rw[←hy,List.length_take]at hlt2;have hyl:y < 33554432:=by
       refine Nat.lt_of_lt_of_le hlt2 ?_;refine Nat.le_trans (Nat.mul_le_mul (show x+1≤256 by omega) (Nat.pow_le_pow_right (by omega) (show min m l1.length≤2 by omega))) ?_;omega
      have hc6:=u8_and63 ((c.toNat:Nat):Int) (by omega) (by have:=c.toNat_lt;omega);have hsx:=orSix (r:=y) (x:=c.toNat) hyl;have hnx:64*y+c.toNat % 64=uMore x (l1.take (m+1)):=by
       rw[List.take_succ_eq_append_getElem hl1m,hc];unfold uMore;rw[List.foldl_append,←show y=(l1.take m).foldl (fun r x=>64*r+x.toNat % 64) x from hy];rfl
      have HNX:=zh hnx;clear hcm hlt hc hy hlt2 hnx hl1m
      go_wp2_with fail
      all_goals exact⟨⟨m+1,64*y+c.toNat % 64,by omega,by go_num,by congr 1;omega,zh ⟨HNX.out,HM.out.2⟩⟩,by simp[intOf];omega⟩
     ·have hmk' :m=4 - 1:=by omega
      subst hmk';have HY:=zh (show y=uMore x l1 by
       have e:=HM.out.1
       rwa [List.take_of_length_le (by rw[HW2.out.2.2.1];exact Nat.le_refl _)]at e)
      have HSK:=zh (show s.take 4=a::l1 by
       rw[←HW2.out.2.2.2,HT.out.1];rfl)
      have HIT:=zh (show(y≠0∧uMay y∧uRaw y=a::l1)↔uHit (s.take 4)by
       rw[HSK.out,HY.out,←HX.out];exact uCand (by rw[List.length_cons,HW2.out.2.2.1]) (by omega))
      have HNO:=zh (show¬uHit (s.take 4)→∀j,1≤j→j < 4+1→¬(j≤s.length∧uHit (s.take j))from fun hn j h1 h2 h3=>by
       rcases Nat.lt_or_ge j 4 with h | h
       ·exact HR.out.1 j h1 h h3
       ·have e:j=4:=by omega
        rw[e]at h3;exact hn h3.2)
      have hyl:y≤2147483647:=by
       have:=uMore_lt x l1;rw[←HY.out,HW2.out.2.2.1]at this;refine Nat.le_trans (Nat.le_of_lt this) ?_;refine Nat.le_trans (Nat.mul_le_mul_right _ (show x+1≤256 by omega)) (by decide)
      have HK3:=zh (HW2.out.1.then_ HM.out.2);clear HM HB HW
      by_cases hy0:y=0
      ·have HN:=zh (HNO.out (fun h=>(HIT.out.2 h).1 hy0))
       subst hy0
       go_wp2_with fail
       refine wp_region_keeps _ (by kernel_rfl) rfl (by kernel_rfl) ?_
       iterate 3
        refine ls ?_;simp only[addEnt]
       iterate 2
        refine lo ?_;simp only[addEnt]
       iterate 2
        refine ls ?_;simp only[addEnt]
       iterate 7
        refine lo ?_;simp only[addEnt]
       refine ls ?_;simp only[addEnt];refine loose_nil (fun W vals hW hkn=> ?_);simp only[knowsAll]at hkn
       try simp only[and_true]at hkn
       simp only[fill,Act.put,zsa,zsc,zsz];clear hkn;have HZ:=zh (HK3.out.then_ hW);clear hW
       go_wp2_with fail
       exact⟨⟨4+1,by omega,by go_num,zh ⟨HN.out,HZ.out⟩⟩,by simp[intOf]⟩
      ·have hyn:((y:Int) !=0)=true:=by simpa using hy0
       by_cases hm:uMay y
       ·have HM0:=zh hm
        obtain⟨S2,hS2⟩:∃S2:ByteArray,(⟨(uRaw y).toArray⟩:ByteArray)=S2:=⟨_,rfl⟩;obtain⟨S3,hS3⟩:∃S3,S.extract 0 4=S3:=⟨_,rfl⟩;have e2:S2.toList=uRaw y:=by rw[←hS2,Lib.toList_data]
        have e3:S3.toList=a::l1:=by rw[←hS3,←HS.out.1,str_cut,Lib.toList_data,←HSK.out];simp
        obtain⟨fb,hfb⟩:∃fb:Bool,fb=decide (uRaw y=a::l1):=⟨_,rfl⟩;have hcmp:(S2.toList==S3.toList)=fb:=by
         rw[e2,e3,hfb,Bool.eq_iff_iff];simp
        have HF:=zh hfb;have HS2:=zh hS2;clear hm e2 e3 hfb hS2
        go_wp2_with fail
        refine wp_region_keeps _ (by kernel_rfl) rfl (by kernel_rfl) ?_
        iterate 4
         refine ls ?_;simp only[addEnt]
        apply loose_is
        ·intro W vals hW hkn
         clear hkn;refine⟨?_⟩;simp only[fill];go_simp;refine looseUpon_calls ?_;exact(uMayN_any W y (by assumption) hyl).mono (by rintro e w3 ⟨rfl,rfl⟩;exact⟨_,rfl,Keeps.refl _ _,(by rw[decide_eq_true HM0.out])⟩)
        iterate 3
         simp only[addEnt];refine ls ?_
        simp only[addEnt];refine loose_has (fun v W' =>∃b,v= .slice (some ⟨b,0,none⟩) (uRaw y).length (uRaw y).length∧Row W' b 5 (byC (uRaw y))) (fun W vals hW hkn φ' hφ=> ?_) ?_
        ·simp only[knows]at hkn
         try simp only[and_true]at hkn
         clear hkn;refine⟨?_⟩;simp only[fill];go_simp
         (refine looseUpon_calls ?_;exact(uRaw_any W y (by have:=HM0.out.2;omega)).mono (by rintro e w3 ⟨b,rfl,hr,hk⟩;exact⟨_,rfl,hk,hφ.out _ _ ⟨b,rfl,hr⟩⟩))
        simp only[addEnt];apply loose_is
        ·intro W vals hW hkn
         simp only[knows]at hkn
         try simp only[and_true]at hkn
         obtain⟨W5,g0,g1,b,hv,hr⟩:=hkn (by decide);have hcv:=conv_str W _ (some ⟨b,0,none⟩) (uRaw y).length (uRaw y) (lies_by (hr.keeps g1));rw[HS2.out]at hcv;clear g0 g1 hr hkn;refine⟨?_⟩;simp only[fill];go_simp
         first | exact⟨Keeps.refl _ _,rfl⟩ | exact⟨Keeps.alloc _ _,rfl⟩
        iterate 5
         simp only[addEnt];refine ls ?_
        simp only[addEnt];refine loose_nil (fun W vals hW hkn=> ?_);simp only[knowsAll]at hkn
        try simp only[and_true]at hkn
        simp only[fill,Act.put,zsa,zsc,zsz];clear hkn;have HZ:=zh (HK3.out.then_ hW);clear hW
        cases fb with
        | true=>
         go_wp2_with fail
         go_ret2
         have hu:uFirst s=4:=uFirst_hit (by omega) (by omega) (fun j h1 h2=>HR.out.1 j h1 h2) ⟨HT.out.2,HIT.out.1 ⟨hy0,HM0.out,of_decide_eq_true HF.out.symm⟩⟩;exact⟨y,by rw[hu];rfl,fun _=>by omega,HZ.out⟩
        | false=>
         have HN:=zh (HNO.out (fun h=>by
          have e:=(HIT.out.2 h).2.2;have f:=HF.out;rw[decide_eq_true e]at f
          cases f))
         go_wp2_with fail
         exact⟨⟨4+1,by omega,by go_num,zh ⟨HN.out,HZ.out⟩⟩,by simp[intOf]⟩
       ·have HN:=zh (HNO.out (fun h=>hm (HIT.out.2 h).2.1))
        have HM0:=zh hm;clear hm
        go_wp2_with fail
        refine wp_region_keeps _ (by kernel_rfl) rfl (by kernel_rfl) ?_
        iterate 4
         refine ls ?_;simp only[addEnt]
        apply loose_is
        ·intro W vals hW hkn
         clear hkn;refine⟨?_⟩;simp only[fill];go_simp;refine looseUpon_calls ?_;exact(uMayN_any W y (by assumption) hyl).mono (by rintro e w3 ⟨rfl,rfl⟩;exact⟨_,rfl,Keeps.refl _ _,(by rw[decide_eq_false HM0.out])⟩)
        iterate 2
         simp only[addEnt];refine ls ?_
        iterate 7
         simp only[addEnt];refine lo ?_
        simp only[addEnt];refine ls ?_;simp only[addEnt];refine loose_nil (fun W vals hW hkn=> ?_);simp only[knowsAll]at hkn
        try simp only[and_true]at hkn
        simp only[fill,Act.put,zsa,zsc,zsz];clear hkn;have HZ:=zh (HK3.out.then_ hW);clear hW
        go_wp2_with fail
        exact⟨⟨4+1,by omega,by go_num,zh ⟨HN.out,HZ.out⟩⟩,by simp[intOf]⟩
  ·go_wp2_with fail
   go_ret2
   have hu:uFirst s=0:=uFirst_none HR.out.1;exact⟨0,by rw[hu];rfl,fun h=>absurd hu h,HR.out.2⟩
end Go.Proofs.YtoadlafdeoklbaaGreatDoor
