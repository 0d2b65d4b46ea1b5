/- Reference 12: First. -/
import Derived.Test.YtoadlafdeoklbaaGreatDoorPa18
import Derived.Deep.DeepCutAuto

namespace Go.Proofs.YtoadlafdeoklbaaGreatDoor
open Go.RowKit Go.Shelf

/-- No rune of fewer bytes. -/
structure FiAt (w wr:World)(s:List UInt8)(k:Nat):Prop where
 n:∀j,1≤j→j < k→¬(j≤s.length∧uHit (s.take j))
 k:Keeps w wr []
theorem FiAt.next {w wr w' :World}{s:List UInt8}{k:Nat}(h:FiAt w wr s k)(hn:¬uHit (s.take k))(hk:Keeps wr w' []):FiAt w w' s (k+1):=
 ⟨fun j h1 h2 h3=>by
  rcases Nat.lt_or_ge j k with g | g
  ·exact h.n j h1 g h3
  ·obtain rfl:j=k:=by omega
   exact hn h3.2,h.k.then_ hk⟩
theorem rLead_no {s:List UInt8}{a:UInt8}{t:List UInt8}{k:Nat}(hs:s=a::t)(hk:k≤s.length)(h0:1≤k)(h:¬(uLead k≤a.toNat∧a.toNat < uMost k)):¬uHit (s.take k):=by
 intro hh;obtain⟨a',t',e,g1,g2⟩:=uHit_lead hh;have hl:(s.take k).length=k:=by rw[List.length_take];omega
 rw[hl]at g1 g2;have:a' =a:=by
  rw[hs]at e;obtain⟨k,rfl⟩:∃k',k=k' +1:=⟨k - 1,by omega⟩;rw[zts]at e;injection e with e1 _
  exact e1.symm
 rw[this]at g1 g2;exact h ⟨g1,g2⟩
theorem rMore_step {s:List UInt8}{x y m:Nat}{c:UInt8}(h1:1≤m)(hm:m < s.length)(hc:s[m]=c)(hy:y=uMore x ((s.take m).drop 1)):64*y+c.toNat % 64=uMore x ((s.take (m+1)).drop 1):=by
 rw[List.take_succ_eq_append_getElem hm,hc,List.drop_append_of_le_length (by rw[List.length_take];omega)];unfold uMore;rw[List.foldl_append,←show y=((s.take m).drop 1).foldl (fun r x=>64*r+x.toNat % 64) x from hy];rfl
theorem rDec_more {s:List UInt8}{a:UInt8}{t:List UInt8}{k x:Nat}(hs:s=a::t)(hk:k≤s.length)(h1:1≤k)(hx:a.toNat - uLead k=x):uMore x ((s.take k).drop 1)=uDec (s.take k):=by
 have hl:(s.take k).length=k:=by rw[List.length_take];omega
 obtain⟨k,rfl⟩:∃k',k=k' +1:=⟨k - 1,by omega⟩;subst hs;rw[zts]at hl ⊢
 show uMore x (t.take k)=uMore (a.toNat - uLead (a::t.take k).length) (t.take k);rw[hl,hx]
def FiPost (w:World)(s:List UInt8)(e:Ending)(w' :World):Prop:=∃r:Nat,e= .returned (.tuple #[.int .i32 (r:Int),.int .i64 ((uFirst s:Nat):Int)])∧(uFirst s≠0→r=uDec (s.take (uFirst s)))∧Keeps w w' []
set_option maxRecDepth 100000 in
set_option maxHeartbeats 4000000 in
theorem rFirst_any (w:World)(s:List UInt8)(hs:s.length≤1000000):Calls Tryz.prog 77 #[.string ⟨s.toArray⟩] w (FiPost w s):=by
 obtain⟨S,hS⟩:∃S:ByteArray,(⟨s.toArray⟩:ByteArray)=S:=⟨_,rfl⟩;have hsz:S.size=s.length:=by rw[←hS];rfl
 have HS:=zh (And.intro hS hsz);rw[hS];clear hS
 go_enter Tryz.func77,Tryz.ntmps77
 go_wp2_with fail
 go_loopw [4] (fun i wr=>∃k:Nat,1≤k∧k≤5∧i= .int .i64 k∧Hid (FiAt w wr s k)) (fun i _=>5 - (intOf i).toNat)
 case atStart=>exact⟨1,by omega,by omega,rfl,zh ⟨fun j _ _=>by omega,Keeps.refl _ _⟩⟩
 case round=>
  obtain⟨k,hk1,hk5,rfl,HR⟩:=hrel;have hsl:=HS.out.2
  rcases(show k=1∨k=2∨k=3∨k=4∨k=5 by omega)with rfl | rfl | rfl | rfl | rfl
  ·skip
   by_cases hl:s.length < 1
   ·have hlb:decide ((1:Int)≤s.length)=false:=decide_eq_false (by omega)
    have HL:=zh hl;clear hl
    go_wp2_with fail
    go_ret2
    have hu:uFirst s=0:=uFirst_none (fun j h1 h2 h3=>by
     have:=HL.out
     rcases Nat.lt_or_ge j 1 with h | h
     ·exact HR.out.n j h1 h h3
     ·omega)
    exact⟨0,by rw[hu];rfl,fun h=>absurd hu h,HR.out.k⟩
   ·have hlb:decide ((1:Int)≤s.length)=true:=decide_eq_true (by omega)
    have hpos:0 < s.length:=by omega
    obtain⟨a,t,hat⟩:∃a t,s=a::t:=by
     cases s with
     | nil=>simp at hpos
     | cons a t=>exact⟨a,t,rfl⟩
    have HT:=zh (And.intro hat (show 1≤s.length by omega));have ha:∀h:0 < S.size,S[0]'h=a:=fun h=>by
     rw[str_get HS.out.1 hpos h];simp[hat]
    by_cases hr:0≤a.toNat∧a.toNat < 128
    ·obtain⟨hr1,hr2⟩:=hr
     have f1:decide ((a.toNat:Int) < 0)=false:=decide_eq_false (by omega);have f2:decide ((a.toNat:Int)≥128)=false:=decide_eq_false (by omega);have f3:decide ((128:Int)≤a.toNat)=false:=decide_eq_false (by omega);obtain⟨x,hx⟩:∃x,a.toNat - 0=x:=⟨_,rfl⟩;have hxi:((a.toNat:Int) - 0)=x:=by omega
     have HX:=zh hx;have hx255:x≤255:=by have:=a.toNat_lt;omega
     have HA:=zh (And.intro hr1 hr2);clear hat hl hx hr1 hr2
     go_wp2_with fail
     go_loopw [8,9] (fun r i W=>∃m y:Nat,1≤m∧m≤1∧i= .int .i64 m∧r= .int .i32 (y:Int)∧Hid (y=uMore x ((s.take m).drop 1)∧wr=W)) (fun _ i _=>1 - (intOf i).toNat)
     case atStart=>exact⟨1,x,by omega,by omega,rfl,by congr 1 <;> omega,zh ⟨by rw[HT.out.1];rfl,rfl⟩⟩
     case round=>
      obtain⟨m,y,hm1,hm,rfl,rfl,HM⟩:=hrel;obtain⟨hy,rfl⟩:=HM.out;have hlt2:=uMore_lt x ((s.take m).drop 1);rw[←hy,List.length_drop,List.length_take]at hlt2
      by_cases hmk:m < 1
      ·skip
       exfalso
       omega
      ·obtain rfl:m=1:=by omega
       have HY:=zh (show y=uDec (s.take 1)by
        rw[hy];exact rDec_more HT.out.1 HT.out.2 (by omega) HX.out)
       have hyl:y≤2147483647:=by
        refine Nat.le_trans (Nat.le_of_lt hlt2) ?_;refine Nat.le_trans (Nat.mul_le_mul (show x+1≤256 by omega) (Nat.pow_le_pow_right (by omega) (show min 1 s.length - 1≤3 by omega))) ?_;omega
       clear hlt2 hy HM;have HIT:=zh (show(uMay y∧uRaw y=s.take 1)↔uHit (s.take 1)by rw[HY.out];exact uHit_iff.symm);have hks:(1:Int)≤s.length:=by have:=HT.out.2;omega
       go_wp2_with fail
       by_cases hy0:y=0
       ·have HN:=zh (show¬uHit (s.take 1)from fun h=>by have:=(HIT.out.2 h).1.1;omega)
        subst hy0;refine wp_region_keeps _ (by kernel_rfl) rfl (by kernel_rfl) ?_
        iterate 3
         refine ls ?_;simp only[addEnt]
        iterate 2
         refine lo ?_;simp only[addEnt]
        iterate 2
         refine ls ?_;simp only[addEnt]
        iterate 6
         refine lo ?_;simp only[addEnt]
        refine ls ?_;simp only[addEnt];refine loose_nil (fun W vals hW hkn=> ?_);simp only[knowsAll]at hkn
        try simp only[and_true]at hkn
        simp only[fill,Act.put,zsa,zsc,zsz];clear hkn;have HZ:=zh hW;clear hW
        go_wp2_with fail
        exact⟨⟨1+1,by omega,by omega,by go_num,zh (HR.out.next HN.out HZ.out)⟩,by simp[intOf]⟩
       ·have hyp:0 < y:=by omega
        by_cases hm:uMay y
        ·have HM0:=zh hm
         have hmb:rMayB y=true:=by
          unfold rMayB;have:=hm.2;simp only[Bool.or_eq_true,Bool.and_eq_true,decide_eq_true_eq];exact this
         obtain⟨S2,hS2⟩:∃S2:ByteArray,(⟨(uRaw y).toArray⟩:ByteArray)=S2:=⟨_,rfl⟩;obtain⟨S3,hS3⟩:∃S3,S.extract 0 1=S3:=⟨_,rfl⟩;have e2:S2.toList=uRaw y:=by rw[←hS2,Lib.toList_data]
         have e3:S3.toList=s.take 1:=by rw[←hS3,←HS.out.1,str_cut,Lib.toList_data];simp
         obtain⟨fb,hfb⟩:∃fb:Bool,fb=decide (uRaw y=s.take 1):=⟨_,rfl⟩;have hcmp:(S2.toList==S3.toList)=fb:=by
          rw[e2,e3,hfb,Bool.eq_iff_iff];simp
         have HF:=zh hfb;have HS2:=zh hS2;have HMB:=zh hmb;clear hm e2 e3 hfb hS2 hmb;refine wp_region_keeps _ (by kernel_rfl) rfl (by kernel_rfl) ?_
         iterate 4
          refine ls ?_;simp only[addEnt]
         apply loose_is
         ·intro W vals hW hkn
          clear hkn;refine⟨?_⟩;simp only[fill];go_simp;refine looseUpon_calls ?_;exact(rMay_any W y).mono (by rintro e w3 ⟨rfl,rfl⟩;exact⟨_,rfl,Keeps.refl _ _,(by rw[HMB.out])⟩)
         iterate 3
          simp only[addEnt];refine ls ?_
         simp only[addEnt];apply loose_is
         ·intro W vals hW hkn
          clear hkn;refine⟨?_⟩;simp only[fill];go_simp;refine looseUpon_calls ?_;exact(rRaw_any W y (by have:=HM0.out.2;omega)).mono (by rintro e w3 ⟨rfl,hk⟩;exact⟨_,rfl,hk,(by rw[HS2.out])⟩)
         iterate 5
          simp only[addEnt];refine ls ?_
         simp only[addEnt];refine loose_nil (fun W vals hW hkn=> ?_);simp only[knowsAll]at hkn
         try simp only[and_true]at hkn
         simp only[fill,Act.put,zsa,zsc,zsz];clear hkn;have HZ:=zh hW;clear hW
         cases fb with
         | true=>
          go_wp2_with fail
          go_ret2
          have hu:uFirst s=1:=uFirst_hit (by omega) (by omega) (fun j h1 h2=>HR.out.n j h1 h2) ⟨HT.out.2,HIT.out.1 ⟨HM0.out,of_decide_eq_true HF.out.symm⟩⟩;exact⟨y,by rw[hu];rfl,fun _=>by rw[hu];exact HY.out,HR.out.k.then_ HZ.out⟩
         | false=>
          have HN:=zh (show¬uHit (s.take 1)from fun h=>by
           have e:=(HIT.out.2 h).2;have f:=HF.out;rw[decide_eq_true e]at f
           cases f)
          go_wp2_with fail
          exact⟨⟨1+1,by omega,by omega,by go_num,zh (HR.out.next HN.out HZ.out)⟩,by simp[intOf]⟩
        ·have HN:=zh (show¬uHit (s.take 1)from fun h=>hm (HIT.out.2 h).1)
         have hmb:rMayB y=false:=by
          rw[←Bool.not_eq_true];unfold rMayB;simp only[Bool.or_eq_true,Bool.and_eq_true,decide_eq_true_eq];exact fun h=>hm ⟨by omega,h⟩
         have HMB:=zh hmb;clear hm hmb;refine wp_region_keeps _ (by kernel_rfl) rfl (by kernel_rfl) ?_
         iterate 4
          refine ls ?_;simp only[addEnt]
         apply loose_is
         ·intro W vals hW hkn
          clear hkn;refine⟨?_⟩;simp only[fill];go_simp;refine looseUpon_calls ?_;exact(rMay_any W y).mono (by rintro e w3 ⟨rfl,rfl⟩;exact⟨_,rfl,Keeps.refl _ _,(by rw[HMB.out])⟩)
         iterate 2
          simp only[addEnt];refine ls ?_
         iterate 6
          simp only[addEnt];refine lo ?_
         simp only[addEnt];refine ls ?_;simp only[addEnt];refine loose_nil (fun W vals hW hkn=> ?_);simp only[knowsAll]at hkn
         try simp only[and_true]at hkn
         simp only[fill,Act.put,zsa,zsc,zsz];clear hkn;have HZ:=zh hW;clear hW
         go_wp2_with fail
         exact⟨⟨1+1,by omega,by omega,by go_num,zh (HR.out.next HN.out HZ.out)⟩,by simp[intOf]⟩
    ·have HN:=zh (rLead_no HT.out.1 HT.out.2 (by omega) (show¬(uLead 1≤a.toNat∧a.toNat < uMost 1)from hr))
     have hat2:=a.toNat_lt;have hbb:(decide ((a.toNat:Int) < 0) || decide ((a.toNat:Int)≥128))=true:=by simp;omega
     clear hat hl hr
     go_wp2_with fail
     all_goals exact⟨⟨1+1,by omega,by omega,by go_num,zh (HR.out.next HN.out (Keeps.refl _ _))⟩,by simp[intOf]⟩
  ·skip
   by_cases hl:s.length < 2
   ·have hlb:decide ((2:Int)≤s.length)=false:=decide_eq_false (by omega)
    have HL:=zh hl;clear hl
    go_wp2_with fail
    go_ret2
    have hu:uFirst s=0:=uFirst_none (fun j h1 h2 h3=>by
     have:=HL.out
     rcases Nat.lt_or_ge j 2 with h | h
     ·exact HR.out.n j h1 h h3
     ·omega)
    exact⟨0,by rw[hu];rfl,fun h=>absurd hu h,HR.out.k⟩
   ·have hlb:decide ((2:Int)≤s.length)=true:=decide_eq_true (by omega)
    have hpos:0 < s.length:=by omega
    obtain⟨a,t,hat⟩:∃a t,s=a::t:=by
     cases s with
     | nil=>simp at hpos
     | cons a t=>exact⟨a,t,rfl⟩
    have HT:=zh (And.intro hat (show 2≤s.length by omega));have ha:∀h:0 < S.size,S[0]'h=a:=fun h=>by
     rw[str_get HS.out.1 hpos h];simp[hat]
    by_cases hr:192≤a.toNat∧a.toNat < 224
    ·obtain⟨hr1,hr2⟩:=hr
     have f1:decide ((a.toNat:Int) < 192)=false:=decide_eq_false (by omega);have f2:decide ((a.toNat:Int)≥224)=false:=decide_eq_false (by omega);have f3:decide ((224:Int)≤a.toNat)=false:=decide_eq_false (by omega);obtain⟨x,hx⟩:∃x,a.toNat - 192=x:=⟨_,rfl⟩;have hxi:((a.toNat:Int) - 192)=x:=by omega
     have HX:=zh hx;have hx255:x≤255:=by have:=a.toNat_lt;omega
     have HA:=zh (And.intro hr1 hr2);clear hat hl hx hr1 hr2
     go_wp2_with fail
     go_loopw [8,9] (fun r i W=>∃m y:Nat,1≤m∧m≤2∧i= .int .i64 m∧r= .int .i32 (y:Int)∧Hid (y=uMore x ((s.take m).drop 1)∧wr=W)) (fun _ i _=>2 - (intOf i).toNat)
     case atStart=>exact⟨1,x,by omega,by omega,rfl,by congr 1 <;> omega,zh ⟨by rw[HT.out.1];rfl,rfl⟩⟩
     case round=>
      obtain⟨m,y,hm1,hm,rfl,rfl,HM⟩:=hrel;obtain⟨hy,rfl⟩:=HM.out;have hlt2:=uMore_lt x ((s.take m).drop 1);rw[←hy,List.length_drop,List.length_take]at hlt2
      by_cases hmk:m < 2
      ·skip
       have hmk' :decide ((m:Int) < 2)=true:=decide_eq_true (by omega);have hms:m < s.length:=by have:=HT.out.2;omega
       have hyl:y < 33554432:=by
        refine Nat.lt_of_lt_of_le hlt2 ?_;refine Nat.le_trans (Nat.mul_le_mul (show x+1≤256 by omega) (Nat.pow_le_pow_right (by omega) (show min m s.length - 1≤2 by omega))) ?_;omega
       obtain⟨c,hc⟩:∃c,s[m]=c:=⟨_,rfl⟩;have ix:∀h:m < S.size,S[m]'h=c:=fun h=>by rw[str_get HS.out.1 hms h,hc]
       have HNX:=zh (rMore_step (x:=x) hm1 hms hc hy);obtain⟨d,hd⟩:∃d,c.toNat % 64=d:=⟨_,rfl⟩;have hd64:d < 64:=by omega
       have ht:(c.toNat:Int).tmod 64=(d:Int):=by rw[Int.tmod_eq_emod_of_nonneg (by omega)];omega
       rw[hd]at HNX;have hsz2:(m:Int) < s.length:=by omega
       have hyd:=zh (show Value.int .i32 (RowKit.wrap32 (64*(y:Int)+RowKit.wrap32 ((RowKit.wrap64 (c.toNat:Int)).tmod 64)))=Value.int .i32 ((64*y+d:Nat):Int)by
        rw[show RowKit.wrap64 (c.toNat:Int)=c.toNat by unfold RowKit.wrap64;have:=c.toNat_lt;omega,ht,show RowKit.wrap32 (d:Int)=d by unfold RowKit.wrap32;omega,show RowKit.wrap32 (64*(y:Int)+d)=64*y+d by unfold RowKit.wrap32;omega]
        congr 1)
       clear hlt2 hc hd hy HM ht
       go_wp2_with fail
       all_goals exact⟨⟨m+1,64*y+d,by omega,by omega,by go_num,hyd.out,zh ⟨HNX.out,trivial⟩⟩,by simp[intOf];omega⟩
      ·obtain rfl:m=2:=by omega
       have HY:=zh (show y=uDec (s.take 2)by
        rw[hy];exact rDec_more HT.out.1 HT.out.2 (by omega) HX.out)
       have hyl:y≤2147483647:=by
        refine Nat.le_trans (Nat.le_of_lt hlt2) ?_;refine Nat.le_trans (Nat.mul_le_mul (show x+1≤256 by omega) (Nat.pow_le_pow_right (by omega) (show min 2 s.length - 1≤3 by omega))) ?_;omega
       clear hlt2 hy HM;have HIT:=zh (show(uMay y∧uRaw y=s.take 2)↔uHit (s.take 2)by rw[HY.out];exact uHit_iff.symm);have hks:(2:Int)≤s.length:=by have:=HT.out.2;omega
       go_wp2_with fail
       by_cases hy0:y=0
       ·have HN:=zh (show¬uHit (s.take 2)from fun h=>by have:=(HIT.out.2 h).1.1;omega)
        subst hy0;refine wp_region_keeps _ (by kernel_rfl) rfl (by kernel_rfl) ?_
        iterate 3
         refine ls ?_;simp only[addEnt]
        iterate 2
         refine lo ?_;simp only[addEnt]
        iterate 2
         refine ls ?_;simp only[addEnt]
        iterate 6
         refine lo ?_;simp only[addEnt]
        refine ls ?_;simp only[addEnt];refine loose_nil (fun W vals hW hkn=> ?_);simp only[knowsAll]at hkn
        try simp only[and_true]at hkn
        simp only[fill,Act.put,zsa,zsc,zsz];clear hkn;have HZ:=zh hW;clear hW
        go_wp2_with fail
        exact⟨⟨2+1,by omega,by omega,by go_num,zh (HR.out.next HN.out HZ.out)⟩,by simp[intOf]⟩
       ·have hyp:0 < y:=by omega
        by_cases hm:uMay y
        ·have HM0:=zh hm
         have hmb:rMayB y=true:=by
          unfold rMayB;have:=hm.2;simp only[Bool.or_eq_true,Bool.and_eq_true,decide_eq_true_eq];exact this
         obtain⟨S2,hS2⟩:∃S2:ByteArray,(⟨(uRaw y).toArray⟩:ByteArray)=S2:=⟨_,rfl⟩;obtain⟨S3,hS3⟩:∃S3,S.extract 0 2=S3:=⟨_,rfl⟩;have e2:S2.toList=uRaw y:=by rw[←hS2,Lib.toList_data]
         have e3:S3.toList=s.take 2:=by rw[←hS3,←HS.out.1,str_cut,Lib.toList_data];simp
         obtain⟨fb,hfb⟩:∃fb:Bool,fb=decide (uRaw y=s.take 2):=⟨_,rfl⟩;have hcmp:(S2.toList==S3.toList)=fb:=by
          rw[e2,e3,hfb,Bool.eq_iff_iff];simp
         have HF:=zh hfb;have HS2:=zh hS2;have HMB:=zh hmb;clear hm e2 e3 hfb hS2 hmb;refine wp_region_keeps _ (by kernel_rfl) rfl (by kernel_rfl) ?_
         iterate 4
          refine ls ?_;simp only[addEnt]
         apply loose_is
         ·intro W vals hW hkn
          clear hkn;refine⟨?_⟩;simp only[fill];go_simp;refine looseUpon_calls ?_;exact(rMay_any W y).mono (by rintro e w3 ⟨rfl,rfl⟩;exact⟨_,rfl,Keeps.refl _ _,(by rw[HMB.out])⟩)
         iterate 3
          simp only[addEnt];refine ls ?_
         simp only[addEnt];apply loose_is
         ·intro W vals hW hkn
          clear hkn;refine⟨?_⟩;simp only[fill];go_simp;refine looseUpon_calls ?_;exact(rRaw_any W y (by have:=HM0.out.2;omega)).mono (by rintro e w3 ⟨rfl,hk⟩;exact⟨_,rfl,hk,(by rw[HS2.out])⟩)
         iterate 5
          simp only[addEnt];refine ls ?_
         simp only[addEnt];refine loose_nil (fun W vals hW hkn=> ?_);simp only[knowsAll]at hkn
         try simp only[and_true]at hkn
         simp only[fill,Act.put,zsa,zsc,zsz];clear hkn;have HZ:=zh hW;clear hW
         cases fb with
         | true=>
          go_wp2_with fail
          go_ret2
          have hu:uFirst s=2:=uFirst_hit (by omega) (by omega) (fun j h1 h2=>HR.out.n j h1 h2) ⟨HT.out.2,HIT.out.1 ⟨HM0.out,of_decide_eq_true HF.out.symm⟩⟩;exact⟨y,by rw[hu];rfl,fun _=>by rw[hu];exact HY.out,HR.out.k.then_ HZ.out⟩
         | false=>
          have HN:=zh (show¬uHit (s.take 2)from fun h=>by
           have e:=(HIT.out.2 h).2;have f:=HF.out;rw[decide_eq_true e]at f
           cases f)
          go_wp2_with fail
          exact⟨⟨2+1,by omega,by omega,by go_num,zh (HR.out.next HN.out HZ.out)⟩,by simp[intOf]⟩
        ·have HN:=zh (show¬uHit (s.take 2)from fun h=>hm (HIT.out.2 h).1)
         have hmb:rMayB y=false:=by
          rw[←Bool.not_eq_true];unfold rMayB;simp only[Bool.or_eq_true,Bool.and_eq_true,decide_eq_true_eq];exact fun h=>hm ⟨by omega,h⟩
         have HMB:=zh hmb;clear hm hmb;refine wp_region_keeps _ (by kernel_rfl) rfl (by kernel_rfl) ?_
         iterate 4
          refine ls ?_;simp only[addEnt]
         apply loose_is
         ·intro W vals hW hkn
          clear hkn;refine⟨?_⟩;simp only[fill];go_simp;refine looseUpon_calls ?_;exact(rMay_any W y).mono (by rintro e w3 ⟨rfl,rfl⟩;exact⟨_,rfl,Keeps.refl _ _,(by rw[HMB.out])⟩)
         iterate 2
          simp only[addEnt];refine ls ?_
         iterate 6
          simp only[addEnt];refine lo ?_
         simp only[addEnt];refine ls ?_;simp only[addEnt];refine loose_nil (fun W vals hW hkn=> ?_);simp only[knowsAll]at hkn
         try simp only[and_true]at hkn
         simp only[fill,Act.put,zsa,zsc,zsz];clear hkn;have HZ:=zh hW;clear hW
         go_wp2_with fail
         exact⟨⟨2+1,by omega,by omega,by go_num,zh (HR.out.next HN.out HZ.out)⟩,by simp[intOf]⟩
    ·have HN:=zh (rLead_no HT.out.1 HT.out.2 (by omega) (show¬(uLead 2≤a.toNat∧a.toNat < uMost 2)from hr))
     have hat2:=a.toNat_lt;have hbb:(decide ((a.toNat:Int) < 192) || decide ((a.toNat:Int)≥224))=true:=by simp;omega
     clear hat hl hr
     go_wp2_with fail
     all_goals exact⟨⟨2+1,by omega,by omega,by go_num,zh (HR.out.next HN.out (Keeps.refl _ _))⟩,by simp[intOf]⟩
  ·skip
   by_cases hl:s.length < 3
   ·have hlb:decide ((3:Int)≤s.length)=false:=decide_eq_false (by omega)
    have HL:=zh hl;clear hl
    go_wp2_with fail
    go_ret2
    have hu:uFirst s=0:=uFirst_none (fun j h1 h2 h3=>by
     have:=HL.out
     rcases Nat.lt_or_ge j 3 with h | h
     ·exact HR.out.n j h1 h h3
     ·omega)
    exact⟨0,by rw[hu];rfl,fun h=>absurd hu h,HR.out.k⟩
   ·have hlb:decide ((3:Int)≤s.length)=true:=decide_eq_true (by omega)
    have hpos:0 < s.length:=by omega
    obtain⟨a,t,hat⟩:∃a t,s=a::t:=by
     cases s with
     | nil=>simp at hpos
     | cons a t=>exact⟨a,t,rfl⟩
    have HT:=zh (And.intro hat (show 3≤s.length by omega));have ha:∀h:0 < S.size,S[0]'h=a:=fun h=>by
     rw[str_get HS.out.1 hpos h];simp[hat]
    by_cases hr:224≤a.toNat∧a.toNat < 240
    ·obtain⟨hr1,hr2⟩:=hr
     have f1:decide ((a.toNat:Int) < 224)=false:=decide_eq_false (by omega);have f2:decide ((a.toNat:Int)≥240)=false:=decide_eq_false (by omega);have f3:decide ((240:Int)≤a.toNat)=false:=decide_eq_false (by omega);obtain⟨x,hx⟩:∃x,a.toNat - 224=x:=⟨_,rfl⟩;have hxi:((a.toNat:Int) - 224)=x:=by omega
     have HX:=zh hx;have hx255:x≤255:=by have:=a.toNat_lt;omega
     have HA:=zh (And.intro hr1 hr2);clear hat hl hx hr1 hr2
     go_wp2_with fail
     go_loopw [8,9] (fun r i W=>∃m y:Nat,1≤m∧m≤3∧i= .int .i64 m∧r= .int .i32 (y:Int)∧Hid (y=uMore x ((s.take m).drop 1)∧wr=W)) (fun _ i _=>3 - (intOf i).toNat)
     case atStart=>exact⟨1,x,by omega,by omega,rfl,by congr 1 <;> omega,zh ⟨by rw[HT.out.1];rfl,rfl⟩⟩
     case round=>
      obtain⟨m,y,hm1,hm,rfl,rfl,HM⟩:=hrel;obtain⟨hy,rfl⟩:=HM.out;have hlt2:=uMore_lt x ((s.take m).drop 1);rw[←hy,List.length_drop,List.length_take]at hlt2
      by_cases hmk:m < 3
      ·skip
       have hmk' :decide ((m:Int) < 3)=true:=decide_eq_true (by omega);have hms:m < s.length:=by have:=HT.out.2;omega
       have hyl:y < 33554432:=by
        refine Nat.lt_of_lt_of_le hlt2 ?_;refine Nat.le_trans (Nat.mul_le_mul (show x+1≤256 by omega) (Nat.pow_le_pow_right (by omega) (show min m s.length - 1≤2 by omega))) ?_;omega
       obtain⟨c,hc⟩:∃c,s[m]=c:=⟨_,rfl⟩;have ix:∀h:m < S.size,S[m]'h=c:=fun h=>by rw[str_get HS.out.1 hms h,hc]
       have HNX:=zh (rMore_step (x:=x) hm1 hms hc hy);obtain⟨d,hd⟩:∃d,c.toNat % 64=d:=⟨_,rfl⟩;have hd64:d < 64:=by omega
       have ht:(c.toNat:Int).tmod 64=(d:Int):=by rw[Int.tmod_eq_emod_of_nonneg (by omega)];omega
       rw[hd]at HNX;have hsz2:(m:Int) < s.length:=by omega
       have hyd:=zh (show Value.int .i32 (RowKit.wrap32 (64*(y:Int)+RowKit.wrap32 ((RowKit.wrap64 (c.toNat:Int)).tmod 64)))=Value.int .i32 ((64*y+d:Nat):Int)by
        rw[show RowKit.wrap64 (c.toNat:Int)=c.toNat by unfold RowKit.wrap64;have:=c.toNat_lt;omega,ht,show RowKit.wrap32 (d:Int)=d by unfold RowKit.wrap32;omega,show RowKit.wrap32 (64*(y:Int)+d)=64*y+d by unfold RowKit.wrap32;omega]
        congr 1)
       clear hlt2 hc hd hy HM ht
       go_wp2_with fail
       all_goals exact⟨⟨m+1,64*y+d,by omega,by omega,by go_num,hyd.out,zh ⟨HNX.out,trivial⟩⟩,by simp[intOf];omega⟩
      ·obtain rfl:m=3:=by omega
       have HY:=zh (show y=uDec (s.take 3)by
        rw[hy];exact rDec_more HT.out.1 HT.out.2 (by omega) HX.out)
       have hyl:y≤2147483647:=by
        refine Nat.le_trans (Nat.le_of_lt hlt2) ?_;refine Nat.le_trans (Nat.mul_le_mul (show x+1≤256 by omega) (Nat.pow_le_pow_right (by omega) (show min 3 s.length - 1≤3 by omega))) ?_;omega
       clear hlt2 hy HM;have HIT:=zh (show(uMay y∧uRaw y=s.take 3)↔uHit (s.take 3)by rw[HY.out];exact uHit_iff.symm);have hks:(3:Int)≤s.length:=by have:=HT.out.2;omega
       go_wp2_with fail
       by_cases hy0:y=0
       ·have HN:=zh (show¬uHit (s.take 3)from fun h=>by have:=(HIT.out.2 h).1.1;omega)
        subst hy0;refine wp_region_keeps _ (by kernel_rfl) rfl (by kernel_rfl) ?_
        iterate 3
         refine ls ?_;simp only[addEnt]
        iterate 2
         refine lo ?_;simp only[addEnt]
        iterate 2
         refine ls ?_;simp only[addEnt]
        iterate 6
         refine lo ?_;simp only[addEnt]
        refine ls ?_;simp only[addEnt];refine loose_nil (fun W vals hW hkn=> ?_);simp only[knowsAll]at hkn
        try simp only[and_true]at hkn
        simp only[fill,Act.put,zsa,zsc,zsz];clear hkn;have HZ:=zh hW;clear hW
        go_wp2_with fail
        exact⟨⟨3+1,by omega,by omega,by go_num,zh (HR.out.next HN.out HZ.out)⟩,by simp[intOf]⟩
       ·have hyp:0 < y:=by omega
        by_cases hm:uMay y
        ·have HM0:=zh hm
         have hmb:rMayB y=true:=by
          unfold rMayB;have:=hm.2;simp only[Bool.or_eq_true,Bool.and_eq_true,decide_eq_true_eq];exact this
         obtain⟨S2,hS2⟩:∃S2:ByteArray,(⟨(uRaw y).toArray⟩:ByteArray)=S2:=⟨_,rfl⟩;obtain⟨S3,hS3⟩:∃S3,S.extract 0 3=S3:=⟨_,rfl⟩;have e2:S2.toList=uRaw y:=by rw[←hS2,Lib.toList_data]
         have e3:S3.toList=s.take 3:=by rw[←hS3,←HS.out.1,str_cut,Lib.toList_data];simp
         obtain⟨fb,hfb⟩:∃fb:Bool,fb=decide (uRaw y=s.take 3):=⟨_,rfl⟩;have hcmp:(S2.toList==S3.toList)=fb:=by
          rw[e2,e3,hfb,Bool.eq_iff_iff];simp
         have HF:=zh hfb;have HS2:=zh hS2;have HMB:=zh hmb;clear hm e2 e3 hfb hS2 hmb;refine wp_region_keeps _ (by kernel_rfl) rfl (by kernel_rfl) ?_
         iterate 4
          refine ls ?_;simp only[addEnt]
         apply loose_is
         ·intro W vals hW hkn
          clear hkn;refine⟨?_⟩;simp only[fill];go_simp;refine looseUpon_calls ?_;exact(rMay_any W y).mono (by rintro e w3 ⟨rfl,rfl⟩;exact⟨_,rfl,Keeps.refl _ _,(by rw[HMB.out])⟩)
         iterate 3
          simp only[addEnt];refine ls ?_
         simp only[addEnt];apply loose_is
         ·intro W vals hW hkn
          clear hkn;refine⟨?_⟩;simp only[fill];go_simp;refine looseUpon_calls ?_;exact(rRaw_any W y (by have:=HM0.out.2;omega)).mono (by rintro e w3 ⟨rfl,hk⟩;exact⟨_,rfl,hk,(by rw[HS2.out])⟩)
         iterate 5
          simp only[addEnt];refine ls ?_
         simp only[addEnt];refine loose_nil (fun W vals hW hkn=> ?_);simp only[knowsAll]at hkn
         try simp only[and_true]at hkn
         simp only[fill,Act.put,zsa,zsc,zsz];clear hkn;have HZ:=zh hW;clear hW
         cases fb with
         | true=>
          go_wp2_with fail
          go_ret2
          have hu:uFirst s=3:=uFirst_hit (by omega) (by omega) (fun j h1 h2=>HR.out.n j h1 h2) ⟨HT.out.2,HIT.out.1 ⟨HM0.out,of_decide_eq_true HF.out.symm⟩⟩;exact⟨y,by rw[hu];rfl,fun _=>by rw[hu];exact HY.out,HR.out.k.then_ HZ.out⟩
         | false=>
          have HN:=zh (show¬uHit (s.take 3)from fun h=>by
           have e:=(HIT.out.2 h).2;have f:=HF.out;rw[decide_eq_true e]at f
           cases f)
          go_wp2_with fail
          exact⟨⟨3+1,by omega,by omega,by go_num,zh (HR.out.next HN.out HZ.out)⟩,by simp[intOf]⟩
        ·have HN:=zh (show¬uHit (s.take 3)from fun h=>hm (HIT.out.2 h).1)
         have hmb:rMayB y=false:=by
          rw[←Bool.not_eq_true];unfold rMayB;simp only[Bool.or_eq_true,Bool.and_eq_true,decide_eq_true_eq];exact fun h=>hm ⟨by omega,h⟩
         have HMB:=zh hmb;clear hm hmb;refine wp_region_keeps _ (by kernel_rfl) rfl (by kernel_rfl) ?_
         iterate 4
          refine ls ?_;simp only[addEnt]
         apply loose_is
         ·intro W vals hW hkn
          clear hkn;refine⟨?_⟩;simp only[fill];go_simp;refine looseUpon_calls ?_;exact(rMay_any W y).mono (by rintro e w3 ⟨rfl,rfl⟩;exact⟨_,rfl,Keeps.refl _ _,(by rw[HMB.out])⟩)
         iterate 2
          simp only[addEnt];refine ls ?_
         iterate 6
          simp only[addEnt];refine lo ?_
         simp only[addEnt];refine ls ?_;simp only[addEnt];refine loose_nil (fun W vals hW hkn=> ?_);simp only[knowsAll]at hkn
         try simp only[and_true]at hkn
         simp only[fill,Act.put,zsa,zsc,zsz];clear hkn;have HZ:=zh hW;clear hW
         go_wp2_with fail
         exact⟨⟨3+1,by omega,by omega,by go_num,zh (HR.out.next HN.out HZ.out)⟩,by simp[intOf]⟩
    ·have HN:=zh (rLead_no HT.out.1 HT.out.2 (by omega) (show¬(uLead 3≤a.toNat∧a.toNat < uMost 3)from hr))
     have hat2:=a.toNat_lt;have hbb:(decide ((a.toNat:Int) < 224) || decide ((a.toNat:Int)≥240))=true:=by simp;omega
     clear hat hl hr
     go_wp2_with fail
     all_goals exact⟨⟨3+1,by omega,by omega,by go_num,zh (HR.out.next HN.out (Keeps.refl _ _))⟩,by simp[intOf]⟩
  ·skip
   by_cases hl:s.length < 4
   ·have hlb:decide ((4:Int)≤s.length)=false:=decide_eq_false (by omega)
    have HL:=zh hl;clear hl
    go_wp2_with fail
    go_ret2
    have hu:uFirst s=0:=uFirst_none (fun j h1 h2 h3=>by
     have:=HL.out
     rcases Nat.lt_or_ge j 4 with h | h
     ·exact HR.out.n j h1 h h3
     ·omega)
    exact⟨0,by rw[hu];rfl,fun h=>absurd hu h,HR.out.k⟩
   ·have hlb:decide ((4:Int)≤s.length)=true:=decide_eq_true (by omega)
    have hpos:0 < s.length:=by omega
    obtain⟨a,t,hat⟩:∃a t,s=a::t:=by
     cases s with
     | nil=>simp at hpos
     | cons a t=>exact⟨a,t,rfl⟩
    have HT:=zh (And.intro hat (show 4≤s.length by omega));have ha:∀h:0 < S.size,S[0]'h=a:=fun h=>by
     rw[str_get HS.out.1 hpos h];simp[hat]
    by_cases hr:240≤a.toNat∧a.toNat < 248
    ·obtain⟨hr1,hr2⟩:=hr
     have f1:decide ((a.toNat:Int) < 240)=false:=decide_eq_false (by omega);have f2:decide ((a.toNat:Int)≥248)=false:=decide_eq_false (by omega);have f3:decide ((248:Int)≤a.toNat)=false:=decide_eq_false (by omega);obtain⟨x,hx⟩:∃x,a.toNat - 240=x:=⟨_,rfl⟩;have hxi:((a.toNat:Int) - 240)=x:=by omega
     have HX:=zh hx;have hx255:x≤255:=by have:=a.toNat_lt;omega
     have HA:=zh (And.intro hr1 hr2);clear hat hl hx hr1 hr2
     go_wp2_with fail
     go_loopw [8,9] (fun r i W=>∃m y:Nat,1≤m∧m≤4∧i= .int .i64 m∧r= .int .i32 (y:Int)∧Hid (y=uMore x ((s.take m).drop 1)∧wr=W)) (fun _ i _=>4 - (intOf i).toNat)
     case atStart=>exact⟨1,x,by omega,by omega,rfl,by congr 1 <;> omega,zh ⟨by rw[HT.out.1];rfl,rfl⟩⟩
     case round=>
      obtain⟨m,y,hm1,hm,rfl,rfl,HM⟩:=hrel;obtain⟨hy,rfl⟩:=HM.out;have hlt2:=uMore_lt x ((s.take m).drop 1);rw[←hy,List.length_drop,List.length_take]at hlt2
      by_cases hmk:m < 4
      ·skip
       have hmk' :decide ((m:Int) < 4)=true:=decide_eq_true (by omega);have hms:m < s.length:=by have:=HT.out.2;omega
       have hyl:y < 33554432:=by
        refine Nat.lt_of_lt_of_le hlt2 ?_;refine Nat.le_trans (Nat.mul_le_mul (show x+1≤256 by omega) (Nat.pow_le_pow_right (by omega) (show min m s.length - 1≤2 by omega))) ?_;omega
       obtain⟨c,hc⟩:∃c,s[m]=c:=⟨_,rfl⟩;have ix:∀h:m < S.size,S[m]'h=c:=fun h=>by rw[str_get HS.out.1 hms h,hc]
       have HNX:=zh (rMore_step (x:=x) hm1 hms hc hy);obtain⟨d,hd⟩:∃d,c.toNat % 64=d:=⟨_,rfl⟩;have hd64:d < 64:=by omega
       have ht:(c.toNat:Int).tmod 64=(d:Int):=by rw[Int.tmod_eq_emod_of_nonneg (by omega)];omega
       rw[hd]at HNX;have hsz2:(m:Int) < s.length:=by omega
       have hyd:=zh (show Value.int .i32 (RowKit.wrap32 (64*(y:Int)+RowKit.wrap32 ((RowKit.wrap64 (c.toNat:Int)).tmod 64)))=Value.int .i32 ((64*y+d:Nat):Int)by
        rw[show RowKit.wrap64 (c.toNat:Int)=c.toNat by unfold RowKit.wrap64;have:=c.toNat_lt;omega,ht,show RowKit.wrap32 (d:Int)=d by unfold RowKit.wrap32;omega,show RowKit.wrap32 (64*(y:Int)+d)=64*y+d by unfold RowKit.wrap32;omega]
        congr 1)
       clear hlt2 hc hd hy HM ht
       go_wp2_with fail
       all_goals exact⟨⟨m+1,64*y+d,by omega,by omega,by go_num,hyd.out,zh ⟨HNX.out,trivial⟩⟩,by simp[intOf];omega⟩
      ·obtain rfl:m=4:=by omega
       have HY:=zh (show y=uDec (s.take 4)by
        rw[hy];exact rDec_more HT.out.1 HT.out.2 (by omega) HX.out)
       have hyl:y≤2147483647:=by
        refine Nat.le_trans (Nat.le_of_lt hlt2) ?_;refine Nat.le_trans (Nat.mul_le_mul (show x+1≤256 by omega) (Nat.pow_le_pow_right (by omega) (show min 4 s.length - 1≤3 by omega))) ?_;omega
       clear hlt2 hy HM;have HIT:=zh (show(uMay y∧uRaw y=s.take 4)↔uHit (s.take 4)by rw[HY.out];exact uHit_iff.symm);have hks:(4:Int)≤s.length:=by have:=HT.out.2;omega
       go_wp2_with fail
       by_cases hy0:y=0
       ·have HN:=zh (show¬uHit (s.take 4)from fun h=>by have:=(HIT.out.2 h).1.1;omega)
        subst hy0;refine wp_region_keeps _ (by kernel_rfl) rfl (by kernel_rfl) ?_
        iterate 3
         refine ls ?_;simp only[addEnt]
        iterate 2
         refine lo ?_;simp only[addEnt]
        iterate 2
         refine ls ?_;simp only[addEnt]
        iterate 6
         refine lo ?_;simp only[addEnt]
        refine ls ?_;simp only[addEnt];refine loose_nil (fun W vals hW hkn=> ?_);simp only[knowsAll]at hkn
        try simp only[and_true]at hkn
        simp only[fill,Act.put,zsa,zsc,zsz];clear hkn;have HZ:=zh hW;clear hW
        go_wp2_with fail
        exact⟨⟨4+1,by omega,by omega,by go_num,zh (HR.out.next HN.out HZ.out)⟩,by simp[intOf]⟩
       ·have hyp:0 < y:=by omega
        by_cases hm:uMay y
        ·have HM0:=zh hm
         have hmb:rMayB y=true:=by
          unfold rMayB;have:=hm.2;simp only[Bool.or_eq_true,Bool.and_eq_true,decide_eq_true_eq];exact this
         obtain⟨S2,hS2⟩:∃S2:ByteArray,(⟨(uRaw y).toArray⟩:ByteArray)=S2:=⟨_,rfl⟩;obtain⟨S3,hS3⟩:∃S3,S.extract 0 4=S3:=⟨_,rfl⟩;have e2:S2.toList=uRaw y:=by rw[←hS2,Lib.toList_data]
         have e3:S3.toList=s.take 4:=by rw[←hS3,←HS.out.1,str_cut,Lib.toList_data];simp
         obtain⟨fb,hfb⟩:∃fb:Bool,fb=decide (uRaw y=s.take 4):=⟨_,rfl⟩;have hcmp:(S2.toList==S3.toList)=fb:=by
          rw[e2,e3,hfb,Bool.eq_iff_iff];simp
         have HF:=zh hfb;have HS2:=zh hS2;have HMB:=zh hmb;clear hm e2 e3 hfb hS2 hmb;refine wp_region_keeps _ (by kernel_rfl) rfl (by kernel_rfl) ?_
         iterate 4
          refine ls ?_;simp only[addEnt]
         apply loose_is
         ·intro W vals hW hkn
          clear hkn;refine⟨?_⟩;simp only[fill];go_simp;refine looseUpon_calls ?_;exact(rMay_any W y).mono (by rintro e w3 ⟨rfl,rfl⟩;exact⟨_,rfl,Keeps.refl _ _,(by rw[HMB.out])⟩)
         iterate 3
          simp only[addEnt];refine ls ?_
         simp only[addEnt];apply loose_is
         ·intro W vals hW hkn
          clear hkn;refine⟨?_⟩;simp only[fill];go_simp;refine looseUpon_calls ?_;exact(rRaw_any W y (by have:=HM0.out.2;omega)).mono (by rintro e w3 ⟨rfl,hk⟩;exact⟨_,rfl,hk,(by rw[HS2.out])⟩)
         iterate 5
          simp only[addEnt];refine ls ?_
         simp only[addEnt];refine loose_nil (fun W vals hW hkn=> ?_);simp only[knowsAll]at hkn
         try simp only[and_true]at hkn
         simp only[fill,Act.put,zsa,zsc,zsz];clear hkn;have HZ:=zh hW;clear hW
         cases fb with
         | true=>
          go_wp2_with fail
          go_ret2
          have hu:uFirst s=4:=uFirst_hit (by omega) (by omega) (fun j h1 h2=>HR.out.n j h1 h2) ⟨HT.out.2,HIT.out.1 ⟨HM0.out,of_decide_eq_true HF.out.symm⟩⟩;exact⟨y,by rw[hu];rfl,fun _=>by rw[hu];exact HY.out,HR.out.k.then_ HZ.out⟩
         | false=>
          have HN:=zh (show¬uHit (s.take 4)from fun h=>by
           have e:=(HIT.out.2 h).2;have f:=HF.out;rw[decide_eq_true e]at f
           cases f)
          go_wp2_with fail
          exact⟨⟨4+1,by omega,by omega,by go_num,zh (HR.out.next HN.out HZ.out)⟩,by simp[intOf]⟩
        ·have HN:=zh (show¬uHit (s.take 4)from fun h=>hm (HIT.out.2 h).1)
         have hmb:rMayB y=false:=by
          rw[←Bool.not_eq_true];unfold rMayB;simp only[Bool.or_eq_true,Bool.and_eq_true,decide_eq_true_eq];exact fun h=>hm ⟨by omega,h⟩
         have HMB:=zh hmb;clear hm hmb;refine wp_region_keeps _ (by kernel_rfl) rfl (by kernel_rfl) ?_
         iterate 4
          refine ls ?_;simp only[addEnt]
         apply loose_is
         ·intro W vals hW hkn
          clear hkn;refine⟨?_⟩;simp only[fill];go_simp;refine looseUpon_calls ?_;exact(rMay_any W y).mono (by rintro e w3 ⟨rfl,rfl⟩;exact⟨_,rfl,Keeps.refl _ _,(by rw[HMB.out])⟩)
         iterate 2
          simp only[addEnt];refine ls ?_
         iterate 6
          simp only[addEnt];refine lo ?_
         simp only[addEnt];refine ls ?_;simp only[addEnt];refine loose_nil (fun W vals hW hkn=> ?_);simp only[knowsAll]at hkn
         try simp only[and_true]at hkn
         simp only[fill,Act.put,zsa,zsc,zsz];clear hkn;have HZ:=zh hW;clear hW
         go_wp2_with fail
         exact⟨⟨4+1,by omega,by omega,by go_num,zh (HR.out.next HN.out HZ.out)⟩,by simp[intOf]⟩
    ·have HN:=zh (rLead_no HT.out.1 HT.out.2 (by omega) (show¬(uLead 4≤a.toNat∧a.toNat < uMost 4)from hr))
     have hat2:=a.toNat_lt;have hbb:(decide ((a.toNat:Int) < 240) || decide ((a.toNat:Int)≥248))=true:=by simp;omega
     clear hat hl hr
     go_wp2_with fail
     all_goals exact⟨⟨4+1,by omega,by omega,by go_num,zh (HR.out.next HN.out (Keeps.refl _ _))⟩,by simp[intOf]⟩
  ·go_wp2_with fail
   go_ret2
   have hu:uFirst s=0:=uFirst_none HR.out.n;exact⟨0,by rw[hu];rfl,fun h=>absurd hu h,HR.out.k⟩
end Go.Proofs.YtoadlafdeoklbaaGreatDoor
