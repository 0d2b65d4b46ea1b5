/- Package utf: first. -/
import Derived.Test.YtahbikfbjenfpaaGreatDoorPa6
import Derived.Test.YtahbikfbjenfpaaGreatDoorPa2
import Derived.Deep.DeepCutAuto
set_option maxHeartbeats 4000000
set_option maxRecDepth 100000
namespace Go.Proofs.YtahbikfbjenfpaaGreatDoor
open Tryz Go.RowKit

/-- The lead byte without its lead. -/
def tj (n:Nat)(a:UInt8):Nat:=(bits BinOp.andNot IntKind.u8 ((a.toNat:Nat):Int) ((dw n:Nat):Int)).toNat
theorem mO (n:Nat)(a:UInt8):bits BinOp.andNot IntKind.u8 ((a.toNat:Nat):Int) ((dw n:Nat):Int)=((tj n a:Nat):Int):=by
 unfold tj;have:=bits_within BinOp.andNot IntKind.u8 ((a.toNat:Nat):Int) ((dw n:Nat):Int);have h0:IntKind.u8.min=0:=rfl;omega
theorem uH (n:Nat)(a:UInt8):tj n a<=255:=by
 have h:=bits_within BinOp.andNot IntKind.u8 ((a.toNat:Nat):Int) ((dw n:Nat):Int);have h1:IntKind.u8.max=255:=rfl;rw[mO]at h;omega
theorem Gc:(List.range 256).all (λa=>(List.range 5).all λn=> !(decide (dw n<=a) && decide (a < mN n)) || decide ((bits BinOp.andNot IntKind.u8 ((a:Nat):Int) ((dw n:Nat):Int)).toNat=a - dw n))=true:=by kernel_rfl
theorem Jn {n:Nat}{a:UInt8}(hn:n < 5)(h1:dw n<=a.toNat)(h2:a.toNat < mN n):tj n a=a.toNat - dw n:=by
 have h:=List.all_eq_true.1 Gc a.toNat (List.mem_range.2 a.toNat_lt);have h:=List.all_eq_true.1 h n (List.mem_range.2 hn);unfold tj;simp only[h1,h2,decide_true,Bool.and_self,Bool.not_true,Bool.false_or,fA]at h;exact h
theorem gL (r:Nat)(l:aG):dS r l < (r+1)*64^l.length:=by
 unfold dS
 induction l generalizing r with
 | nil=>simp
 | cons a l ih=>
  rw[List.foldl_cons,du];refine kB (ih _) ?_;rw[oK,Nat.mul_comm (64^l.length) 64,<-Nat.mul_assoc];exact xy _ (by omega)
/-- The program's way of reading a rune. -/
theorem D3 {n:Nat}{a:UInt8}{t:aG}(hl:(a::t).length=n)(hn:n<=4):(dS (tj n a) t≠0/\iU (dS (tj n a) t)/\cF (dS (tj n a) t)=a::t)↔fN (a::t):=by
 constructor
 ·rintro⟨_,h1,h2⟩
  exact⟨_,h1,h2⟩
 ·intro h
  obtain⟨a',t',e,g1,g2⟩:=xJ h;injection e with e1 e2
  subst e1 e2;obtain⟨h1,h2⟩:=mP.1 h;rw[hl]at g1 g2;have e3:qO (a::t)=dS (tj n a) t:=by
   unfold qO;rw[hl,Jn (by omega) g1 g2]
  rw[e3]at h1 h2;exact⟨by have:=h1.1;omega,h1,h2⟩
theorem Eg {r x:Nat}(hr:r < 33554432):bits BinOp.or IntKind.i32 (((64*r:Nat):Int)) (((x % 64:Nat):Int))=((64*r+x % 64:Nat):Int):=by
 have:=bits_join .i32 31 (by decide) wraps_i32 6 ((64*r:Nat):Int) ((x % 64:Nat):Int) (by omega) (by omega) (by omega) (by omega) (by omega) (by omega);rw[this];omega
theorem Cm (w:au)(s:aG)(hs:s.length<=1000000):Calls prog 187 #[.string ⟨s.toArray⟩] w λe w' =>∃r:Nat,e= .returned (.tuple #[.int .i32 (r:Int),.int .i64 ((cP s:Nat):Int)])/\(cP s≠0->0 < r)/\ae w w' []:=by
 obtain⟨S,hS⟩:∃S:ByteArray,(⟨s.toArray⟩:ByteArray)=S:=⟨_,rfl⟩;have hsz:S.size=s.length:=by rw[<-hS];rfl
 have HS:=zh (And.intro hS hsz);rw[hS];clear hS
 go_enter func187,ntmps187
 go_wp2_with fail
 refine(iC w).mono ?_;rintro e w1 ⟨rfl,hk⟩;unfold iY;have H1:=zh hk;clear hk
 go_wp2_with fail
 go_loopw [10] (λi wr=>∃k:Nat,k<=5/\i= .int .i64 k/\Hid ((∀j,1<=j->j < k->¬(j<=s.length/\fN (s.take j)))/\ae w wr [])) (λi _=>5 - (intOf i).toNat)
 case atStart=>exact⟨0,by omega,rfl,zh ⟨λj _ _=>by omega,H1.o⟩⟩
 case round=>
  clear H1;obtain⟨k,hk,rfl,HR⟩:=hrel;have hsl:=HS.o.2
  rcases(show k=0\/k=1\/k=2\/k=3\/k=4\/k=5 by omega)with rfl | rfl | rfl | rfl | rfl | rfl
  ·have hix:=Mg
   go_wp2_with fail
   exact⟨⟨1,by omega,by go_num,zh ⟨λj _ _=>by omega,HR.o.2.bX _⟩⟩,by simp[intOf]⟩
  ·
   have hix:=Hz
   by_cases hl:s.length < 1
   ·have hlb:decide ((s.length:Int) < 1)=true:=bz (by omega)
    have HL:=zh hl;clear hl
    go_wp2_with fail
    exact⟨⟨1+1,by omega,by go_num,zh ⟨λj h1 h2 h3=>by
     have:=HL.o
     rcases eS j 1 with h | h
     ·exact HR.o.1 j h1 h h3
     ·omega,HR.o.2.bX _⟩⟩,by simp[intOf]⟩
   ·have hlb:decide ((s.length:Int) < 1)=false:=aZ (by omega)
    have hpos:0 < s.length:=by omega
    obtain⟨a,t,hat⟩:∃a t,s=a::t:=by
     cases s with
     | nil=>simp at hpos
     | cons a t=>exact⟨a,t,rfl⟩
    have HT:=zh (And.intro hat (show 1<=s.length by omega));have ha:∀h:0 < S.size,S[0]'h=a:=λh=>by
     rw[gV HS.o.1 hpos h];simp[hat]
    obtain⟨x,hx⟩:∃x,tj 1 a=x:=⟨_,rfl⟩;have hlow:bits BinOp.andNot IntKind.u8 ((a.toNat:Nat):Int) 0=(x:Int):=by rw[<-hx];exact mO 1 a
    have vX:x<=255:=by rw[<-hx];exact uH 1 a
    have HX:=zh hx;clear hl hat hx
    go_upto_region 5 with fail
    obtain⟨Wb,fg⟩:∃Wb,wr.alloc (.cells #[.int .i32 128,.int .u8 0] 190)=Wb:=⟨_,rfl⟩;have hkb:ae wr Wb []:=by rw[<-fg];exact ae.alloc _ _
    have rB:Row Wb wr.heap.size 190 #[.int .i32 128,.int .u8 0]:=by rw[<-fg];exact Row.new _ _ _
    have HB:=zh (HR.o.2.ah hkb);have MB:=λ(W' :au) (hW:ae Wb W' [])=>(rB.keeps hW).cell 1
    simp only[cg,bU,fe]at MB;rw[fg];have hwx:IntKind.i32.wrap (x:Int)=(x:Int):=wraps_i32 _ (by omega) (by omega);clear hkb rB fg;refine aB _ (by kernel_rfl) rfl (by kernel_rfl) ?_
    iterate 7
     refine ls ?_;simp only[af]
    refine aq (λW vals hW ag=> ?_);simp only[aw]at ag
    try simp only[ai]at ag
    simp only[fill,Act.put,bo,bn,bh];clear ag MB;have HW:=zh (And.intro (HB.o.ah hW) hW);clear hW;obtain⟨l1,hl1⟩:∃l1,(s.drop 1).take (1 - 1)=l1:=⟨_,rfl⟩;obtain⟨S1,Dy⟩:∃S1,S.extract 1 1=S1:=⟨_,rfl⟩;have uy :S1=⟨l1.toArray⟩:=by rw[<-Dy,<-HS.o.1,gC,hl1]
    have qt:l1.length=1 - 1:=by
     rw[<-hl1,dq,dQ];have:=HT.o.2;omega
    have hks:(1:Int)<=s.length:=by have:=HT.o.2;omega
    obtain⟨cap,W2,iA,hk2,gO⟩:=uP W l1;rw[<-uy,qt]at iA;simp only[Nat.reduceSub]at iA;have e1:S1=ByteArray.empty:=(by rw[uy,List.length_eq_zero_iff.1 qt];rfl);rw[e1]at iA;have oH:=zh (And.intro (HW.o.1.ah hk2) (And.intro gO (And.intro qt hl1)));clear hk2 gO qt hl1 uy e1
    go_wp2_with fail
    clear Dy iA
    go_loopw [6,33] (λr j wr=>∃m y:Nat,m<=1 - 1/\j= .int .i64 m/\r= .int .i32 (y:Int)/\Hid (y=dS x (l1.take m)/\ae W2 wr [])) (λ_ j _=>1 - 1 - (intOf j).toNat)
    case atStart=>exact⟨0,x,by omega,rfl,rfl,zh ⟨rfl,ae.refl _ _⟩⟩
    case round=>
     obtain⟨m,y,hm,rfl,rfl,HM⟩:=hrel
     by_cases hmk:m < 1 - 1
     ·have qZ:m < l1.length:=by rw[oH.o.2.2.1];exact hmk
      obtain⟨hcm,hlt⟩:=oH.o.2.1 m qZ;obtain⟨c,hc⟩:∃c,l1[m]=c:=⟨_,rfl⟩;rw[hc]at hcm;have q:=(HM.o.2.cell (p:=⟨W.heap.size,m,none⟩) hlt (by simp)).trans hcm;unfold bq at q;have hy:=HM.o.1;have gR:=gL x (l1.take m);rw[<-hy,dq]at gR;have sX:y < 33554432:=by
       refine kB gR ?_;refine cH (lR (show x+1<=256 by omega) (lQ (by omega) (show min m l1.length<=2 by omega))) ?_;omega
      have Q_:=u8_and63 ((c.toNat:Nat):Int) (by omega) (by have:=c.toNat_lt;omega);have QT:=Eg (r:=y) (x:=c.toNat) sX;have hnx:64*y+c.toNat % 64=dS x (l1.take (m+1)):=by
       rw[hO qZ,hc];unfold dS;rw[zV,<-show y=(l1.take m).foldl (λr x=>64*r+x.toNat % 64) x from hy];rfl
      have Cf:=zh hnx;clear hcm hlt hc hy gR hnx qZ
      go_wp2_with fail
      all_goals exact⟨⟨m+1,64*y+c.toNat % 64,by omega,by go_num,by congr 1;omega,zh ⟨Cf.o,HM.o.2⟩⟩,by simp[intOf];omega⟩
     ·have wX :m=1 - 1:=by omega
      subst wX;have HY:=zh (show y=dS x l1 by
       have e:=HM.o.1
       rwa [qD (by rw[oH.o.2.2.1];exact bE _)]at e)
      have Iy:=zh (show s.take 1=a::l1 by
       rw[<-oH.o.2.2.2,HT.o.1];rfl)
      have oh:=zh (show(y≠0/\iU y/\cF y=a::l1)↔fN (s.take 1)by
       rw[Iy.o,HY.o,<-HX.o];exact D3 (by rw[du,oH.o.2.2.1]) (by omega))
      have gZ:=zh (show¬fN (s.take 1)->∀j,1<=j->j < 1+1->¬(j<=s.length/\fN (s.take j))from λhn j h1 h2 h3=>by
       rcases eS j 1 with h | h
       ·exact HR.o.1 j h1 h h3
       ·have e:j=1:=by omega
        rw[e]at h3;exact hn h3.2)
      have sX:y<=2147483647:=by
       have:=gL x l1;rw[<-HY.o,oH.o.2.2.1]at this;refine cH (kV this) ?_;refine cH (xy _ (show x+1<=256 by omega)) (by decide)
      have fK:=zh (oH.o.1.ah HM.o.2);clear HM HB HW
      by_cases hy0:y=0
      ·have HN:=zh (gZ.o (λh=>(oh.o.2 h).1 hy0))
       subst hy0
       go_wp2_with fail
       refine aB _ (by kernel_rfl) rfl (by kernel_rfl) ?_
       iterate 3
        refine ls ?_;simp only[af]
       iterate 2
        refine lo ?_;simp only[af]
       iterate 2
        refine ls ?_;simp only[af]
       iterate 7
        refine lo ?_;simp only[af]
       refine ls ?_;simp only[af];refine aq (λW vals hW ag=> ?_);simp only[aw]at ag
       try simp only[ai]at ag
       simp only[fill,Act.put,bo,bn,bh];clear ag;have HZ:=zh (fK.o.ah hW);clear hW
       go_wp2_with fail
       exact⟨⟨1+1,by omega,by go_num,zh ⟨HN.o,HZ.o⟩⟩,by simp[intOf]⟩
      ·have QO:((y:Int) !=0)=true:=by simpa using hy0
       by_cases hm:iU y
       ·have ny:=zh hm
        obtain⟨S2,pH⟩:∃S2:ByteArray,(⟨(cF y).toArray⟩:ByteArray)=S2:=⟨_,rfl⟩;obtain⟨S3,zo⟩:∃S3,S.extract 0 1=S3:=⟨_,rfl⟩;have e2:S2.toList=cF y:=by rw[<-pH,Lib.toList_data]
        have e3:S3.toList=a::l1:=by rw[<-zo,<-HS.o.1,gC,Lib.toList_data,<-Iy.o];simp
        obtain⟨fb,q7⟩:∃fb:Bool,fb=decide (cF y=a::l1):=⟨_,rfl⟩;have hcmp:(S2.toList==S3.toList)=fb:=by
         rw[e2,e3,q7,lP];simp
        have HF:=zh q7;have DR:=zh pH;clear hm e2 e3 q7 pH
        go_wp2_with fail
        refine aB _ (by kernel_rfl) rfl (by kernel_rfl) ?_
        iterate 4
         refine ls ?_;simp only[af]
        apply ak
        ·intro W vals hW ag
         clear ag;refine⟨?_⟩;simp only[fill];go_simp;refine aC ?_;exact(i_ W y (by assumption) sX).mono (by rintro e w3 ⟨rfl,rfl⟩;exact⟨_,rfl,ae.refl _ _,(by rw[bz ny.o])⟩)
        iterate 3
         simp only[af];refine ls ?_
        simp only[af];refine bH (λv W' =>∃b,v= .slice (some ⟨b,0,none⟩) (cF y).length (cF y).length/\Row W' b 5 (s9 (cF y))) (λW vals hW ag φ' hφ=> ?_) ?_
        ·simp only[knows]at ag
         try simp only[ai]at ag
         clear ag;refine⟨?_⟩;simp only[fill];go_simp
         (refine aC ?_;exact(rH W y (by have:=ny.o.2;omega)).mono (by rintro e w3 ⟨b,rfl,hr,hk⟩;exact⟨_,rfl,hk,hφ.o _ _ ⟨b,rfl,hr⟩⟩))
        simp only[af];apply ak
        ·intro W vals hW ag
         simp only[knows]at ag
         try simp only[ai]at ag
         obtain⟨W5,g0,g1,b,hv,hr⟩:=ag (by decide);have iA:=dO W _ (some ⟨b,0,none⟩) (cF y).length (cF y) (sD (hr.keeps g1));rw[DR.o]at iA;clear g0 g1 hr ag;refine⟨?_⟩;simp only[fill];go_simp
         first | exact⟨ae.refl _ _,rfl⟩ | exact⟨ae.alloc _ _,rfl⟩
        iterate 5
         simp only[af];refine ls ?_
        simp only[af];refine aq (λW vals hW ag=> ?_);simp only[aw]at ag
        try simp only[ai]at ag
        simp only[fill,Act.put,bo,bn,bh];clear ag;have HZ:=zh (fK.o.ah hW);clear hW
        cases fb with
        | true=>
         go_wp2_with fail
         go_ret2
         have hu:cP s=1:=ia (by omega) (by omega) (λj h1 h2=>HR.o.1 j h1 h2) ⟨HT.o.2,oh.o.1 ⟨hy0,ny.o,qj HF.o.symm⟩⟩;exact⟨y,by rw[hu];rfl,λ_=>by omega,HZ.o⟩
        | false=>
         have HN:=zh (gZ.o (λh=>by
          have e:=(oh.o.2 h).2.2;have f:=HF.o;rw[bz e]at f
          cases f))
         go_wp2_with fail
         exact⟨⟨1+1,by omega,by go_num,zh ⟨HN.o,HZ.o⟩⟩,by simp[intOf]⟩
       ·have HN:=zh (gZ.o (λh=>hm (oh.o.2 h).2.1))
        have ny:=zh hm;clear hm
        go_wp2_with fail
        refine aB _ (by kernel_rfl) rfl (by kernel_rfl) ?_
        iterate 4
         refine ls ?_;simp only[af]
        apply ak
        ·intro W vals hW ag
         clear ag;refine⟨?_⟩;simp only[fill];go_simp;refine aC ?_;exact(i_ W y (by assumption) sX).mono (by rintro e w3 ⟨rfl,rfl⟩;exact⟨_,rfl,ae.refl _ _,(by rw[aZ ny.o])⟩)
        iterate 2
         simp only[af];refine ls ?_
        iterate 7
         simp only[af];refine lo ?_
        simp only[af];refine ls ?_;simp only[af];refine aq (λW vals hW ag=> ?_);simp only[aw]at ag
        try simp only[ai]at ag
        simp only[fill,Act.put,bo,bn,bh];clear ag;have HZ:=zh (fK.o.ah hW);clear hW
        go_wp2_with fail
        exact⟨⟨1+1,by omega,by go_num,zh ⟨HN.o,HZ.o⟩⟩,by simp[intOf]⟩
  ·
   have hix:=Hy
   by_cases hl:s.length < 2
   ·have hlb:decide ((s.length:Int) < 2)=true:=bz (by omega)
    have HL:=zh hl;clear hl
    go_wp2_with fail
    exact⟨⟨2+1,by omega,by go_num,zh ⟨λj h1 h2 h3=>by
     have:=HL.o
     rcases eS j 2 with h | h
     ·exact HR.o.1 j h1 h h3
     ·omega,HR.o.2.bX _⟩⟩,by simp[intOf]⟩
   ·have hlb:decide ((s.length:Int) < 2)=false:=aZ (by omega)
    have hpos:0 < s.length:=by omega
    obtain⟨a,t,hat⟩:∃a t,s=a::t:=by
     cases s with
     | nil=>simp at hpos
     | cons a t=>exact⟨a,t,rfl⟩
    have HT:=zh (And.intro hat (show 2<=s.length by omega));have ha:∀h:0 < S.size,S[0]'h=a:=λh=>by
     rw[gV HS.o.1 hpos h];simp[hat]
    obtain⟨x,hx⟩:∃x,tj 2 a=x:=⟨_,rfl⟩;have hlow:bits BinOp.andNot IntKind.u8 ((a.toNat:Nat):Int) 192=(x:Int):=by rw[<-hx];exact mO 2 a
    have vX:x<=255:=by rw[<-hx];exact uH 2 a
    have HX:=zh hx;clear hl hat hx
    go_upto_region 5 with fail
    obtain⟨Wb,fg⟩:∃Wb,wr.alloc (.cells #[.int .i32 2048,.int .u8 192] 190)=Wb:=⟨_,rfl⟩;have hkb:ae wr Wb []:=by rw[<-fg];exact ae.alloc _ _
    have rB:Row Wb wr.heap.size 190 #[.int .i32 2048,.int .u8 192]:=by rw[<-fg];exact Row.new _ _ _
    have HB:=zh (HR.o.2.ah hkb);have MB:=λ(W' :au) (hW:ae Wb W' [])=>(rB.keeps hW).cell 1
    simp only[cg,bU,fe]at MB;rw[fg];have hwx:IntKind.i32.wrap (x:Int)=(x:Int):=wraps_i32 _ (by omega) (by omega);clear hkb rB fg;refine aB _ (by kernel_rfl) rfl (by kernel_rfl) ?_
    iterate 7
     refine ls ?_;simp only[af]
    refine aq (λW vals hW ag=> ?_);simp only[aw]at ag
    try simp only[ai]at ag
    simp only[fill,Act.put,bo,bn,bh];clear ag MB;have HW:=zh (And.intro (HB.o.ah hW) hW);clear hW;obtain⟨l1,hl1⟩:∃l1,(s.drop 1).take (2 - 1)=l1:=⟨_,rfl⟩;obtain⟨S1,Dy⟩:∃S1,S.extract 1 2=S1:=⟨_,rfl⟩;have uy :S1=⟨l1.toArray⟩:=by rw[<-Dy,<-HS.o.1,gC,hl1]
    have qt:l1.length=2 - 1:=by
     rw[<-hl1,dq,dQ];have:=HT.o.2;omega
    have hks:(2:Int)<=s.length:=by have:=HT.o.2;omega
    obtain⟨cap,W2,iA,hk2,gO⟩:=uP W l1;rw[<-uy,qt]at iA;simp only[Nat.reduceSub]at iA;have e1:S1=S1:=rfl;rw[e1]at iA;have oH:=zh (And.intro (HW.o.1.ah hk2) (And.intro gO (And.intro qt hl1)));clear hk2 gO qt hl1 uy e1
    go_wp2_with fail
    clear Dy iA
    go_loopw [6,33] (λr j wr=>∃m y:Nat,m<=2 - 1/\j= .int .i64 m/\r= .int .i32 (y:Int)/\Hid (y=dS x (l1.take m)/\ae W2 wr [])) (λ_ j _=>2 - 1 - (intOf j).toNat)
    case atStart=>exact⟨0,x,by omega,rfl,rfl,zh ⟨rfl,ae.refl _ _⟩⟩
    case round=>
     obtain⟨m,y,hm,rfl,rfl,HM⟩:=hrel
     by_cases hmk:m < 2 - 1
     ·have qZ:m < l1.length:=by rw[oH.o.2.2.1];exact hmk
      obtain⟨hcm,hlt⟩:=oH.o.2.1 m qZ;obtain⟨c,hc⟩:∃c,l1[m]=c:=⟨_,rfl⟩;rw[hc]at hcm;have q:=(HM.o.2.cell (p:=⟨W.heap.size,m,none⟩) hlt (by simp)).trans hcm;unfold bq at q;have hy:=HM.o.1;have gR:=gL x (l1.take m);rw[<-hy,dq]at gR;have sX:y < 33554432:=by
       refine kB gR ?_;refine cH (lR (show x+1<=256 by omega) (lQ (by omega) (show min m l1.length<=2 by omega))) ?_;omega
      have Q_:=u8_and63 ((c.toNat:Nat):Int) (by omega) (by have:=c.toNat_lt;omega);have QT:=Eg (r:=y) (x:=c.toNat) sX;have hnx:64*y+c.toNat % 64=dS x (l1.take (m+1)):=by
       rw[hO qZ,hc];unfold dS;rw[zV,<-show y=(l1.take m).foldl (λr x=>64*r+x.toNat % 64) x from hy];rfl
      have Cf:=zh hnx;clear hcm hlt hc hy gR hnx qZ
      go_wp2_with fail
      all_goals exact⟨⟨m+1,64*y+c.toNat % 64,by omega,by go_num,by congr 1;omega,zh ⟨Cf.o,HM.o.2⟩⟩,by simp[intOf];omega⟩
     ·have wX :m=2 - 1:=by omega
      subst wX;have HY:=zh (show y=dS x l1 by
       have e:=HM.o.1
       rwa [qD (by rw[oH.o.2.2.1];exact bE _)]at e)
      have Iy:=zh (show s.take 2=a::l1 by
       rw[<-oH.o.2.2.2,HT.o.1];rfl)
      have oh:=zh (show(y≠0/\iU y/\cF y=a::l1)↔fN (s.take 2)by
       rw[Iy.o,HY.o,<-HX.o];exact D3 (by rw[du,oH.o.2.2.1]) (by omega))
      have gZ:=zh (show¬fN (s.take 2)->∀j,1<=j->j < 2+1->¬(j<=s.length/\fN (s.take j))from λhn j h1 h2 h3=>by
       rcases eS j 2 with h | h
       ·exact HR.o.1 j h1 h h3
       ·have e:j=2:=by omega
        rw[e]at h3;exact hn h3.2)
      have sX:y<=2147483647:=by
       have:=gL x l1;rw[<-HY.o,oH.o.2.2.1]at this;refine cH (kV this) ?_;refine cH (xy _ (show x+1<=256 by omega)) (by decide)
      have fK:=zh (oH.o.1.ah HM.o.2);clear HM HB HW
      by_cases hy0:y=0
      ·have HN:=zh (gZ.o (λh=>(oh.o.2 h).1 hy0))
       subst hy0
       go_wp2_with fail
       refine aB _ (by kernel_rfl) rfl (by kernel_rfl) ?_
       iterate 3
        refine ls ?_;simp only[af]
       iterate 2
        refine lo ?_;simp only[af]
       iterate 2
        refine ls ?_;simp only[af]
       iterate 7
        refine lo ?_;simp only[af]
       refine ls ?_;simp only[af];refine aq (λW vals hW ag=> ?_);simp only[aw]at ag
       try simp only[ai]at ag
       simp only[fill,Act.put,bo,bn,bh];clear ag;have HZ:=zh (fK.o.ah hW);clear hW
       go_wp2_with fail
       exact⟨⟨2+1,by omega,by go_num,zh ⟨HN.o,HZ.o⟩⟩,by simp[intOf]⟩
      ·have QO:((y:Int) !=0)=true:=by simpa using hy0
       by_cases hm:iU y
       ·have ny:=zh hm
        obtain⟨S2,pH⟩:∃S2:ByteArray,(⟨(cF y).toArray⟩:ByteArray)=S2:=⟨_,rfl⟩;obtain⟨S3,zo⟩:∃S3,S.extract 0 2=S3:=⟨_,rfl⟩;have e2:S2.toList=cF y:=by rw[<-pH,Lib.toList_data]
        have e3:S3.toList=a::l1:=by rw[<-zo,<-HS.o.1,gC,Lib.toList_data,<-Iy.o];simp
        obtain⟨fb,q7⟩:∃fb:Bool,fb=decide (cF y=a::l1):=⟨_,rfl⟩;have hcmp:(S2.toList==S3.toList)=fb:=by
         rw[e2,e3,q7,lP];simp
        have HF:=zh q7;have DR:=zh pH;clear hm e2 e3 q7 pH
        go_wp2_with fail
        refine aB _ (by kernel_rfl) rfl (by kernel_rfl) ?_
        iterate 4
         refine ls ?_;simp only[af]
        apply ak
        ·intro W vals hW ag
         clear ag;refine⟨?_⟩;simp only[fill];go_simp;refine aC ?_;exact(i_ W y (by assumption) sX).mono (by rintro e w3 ⟨rfl,rfl⟩;exact⟨_,rfl,ae.refl _ _,(by rw[bz ny.o])⟩)
        iterate 3
         simp only[af];refine ls ?_
        simp only[af];refine bH (λv W' =>∃b,v= .slice (some ⟨b,0,none⟩) (cF y).length (cF y).length/\Row W' b 5 (s9 (cF y))) (λW vals hW ag φ' hφ=> ?_) ?_
        ·simp only[knows]at ag
         try simp only[ai]at ag
         clear ag;refine⟨?_⟩;simp only[fill];go_simp
         (refine aC ?_;exact(rH W y (by have:=ny.o.2;omega)).mono (by rintro e w3 ⟨b,rfl,hr,hk⟩;exact⟨_,rfl,hk,hφ.o _ _ ⟨b,rfl,hr⟩⟩))
        simp only[af];apply ak
        ·intro W vals hW ag
         simp only[knows]at ag
         try simp only[ai]at ag
         obtain⟨W5,g0,g1,b,hv,hr⟩:=ag (by decide);have iA:=dO W _ (some ⟨b,0,none⟩) (cF y).length (cF y) (sD (hr.keeps g1));rw[DR.o]at iA;clear g0 g1 hr ag;refine⟨?_⟩;simp only[fill];go_simp
         first | exact⟨ae.refl _ _,rfl⟩ | exact⟨ae.alloc _ _,rfl⟩
        iterate 5
         simp only[af];refine ls ?_
        simp only[af];refine aq (λW vals hW ag=> ?_);simp only[aw]at ag
        try simp only[ai]at ag
        simp only[fill,Act.put,bo,bn,bh];clear ag;have HZ:=zh (fK.o.ah hW);clear hW
        cases fb with
        | true=>
         go_wp2_with fail
         go_ret2
         have hu:cP s=2:=ia (by omega) (by omega) (λj h1 h2=>HR.o.1 j h1 h2) ⟨HT.o.2,oh.o.1 ⟨hy0,ny.o,qj HF.o.symm⟩⟩;exact⟨y,by rw[hu];rfl,λ_=>by omega,HZ.o⟩
        | false=>
         have HN:=zh (gZ.o (λh=>by
          have e:=(oh.o.2 h).2.2;have f:=HF.o;rw[bz e]at f
          cases f))
         go_wp2_with fail
         exact⟨⟨2+1,by omega,by go_num,zh ⟨HN.o,HZ.o⟩⟩,by simp[intOf]⟩
       ·have HN:=zh (gZ.o (λh=>hm (oh.o.2 h).2.1))
        have ny:=zh hm;clear hm
        go_wp2_with fail
        refine aB _ (by kernel_rfl) rfl (by kernel_rfl) ?_
        iterate 4
         refine ls ?_;simp only[af]
        apply ak
        ·intro W vals hW ag
         clear ag;refine⟨?_⟩;simp only[fill];go_simp;refine aC ?_;exact(i_ W y (by assumption) sX).mono (by rintro e w3 ⟨rfl,rfl⟩;exact⟨_,rfl,ae.refl _ _,(by rw[aZ ny.o])⟩)
        iterate 2
         simp only[af];refine ls ?_
        iterate 7
         simp only[af];refine lo ?_
        simp only[af];refine ls ?_;simp only[af];refine aq (λW vals hW ag=> ?_);simp only[aw]at ag
        try simp only[ai]at ag
        simp only[fill,Act.put,bo,bn,bh];clear ag;have HZ:=zh (fK.o.ah hW);clear hW
        go_wp2_with fail
        exact⟨⟨2+1,by omega,by go_num,zh ⟨HN.o,HZ.o⟩⟩,by simp[intOf]⟩
  ·
   have hix:=Hw
   by_cases hl:s.length < 3
   ·have hlb:decide ((s.length:Int) < 3)=true:=bz (by omega)
    have HL:=zh hl;clear hl
    go_wp2_with fail
    exact⟨⟨3+1,by omega,by go_num,zh ⟨λj h1 h2 h3=>by
     have:=HL.o
     rcases eS j 3 with h | h
     ·exact HR.o.1 j h1 h h3
     ·omega,HR.o.2.bX _⟩⟩,by simp[intOf]⟩
   ·have hlb:decide ((s.length:Int) < 3)=false:=aZ (by omega)
    have hpos:0 < s.length:=by omega
    obtain⟨a,t,hat⟩:∃a t,s=a::t:=by
     cases s with
     | nil=>simp at hpos
     | cons a t=>exact⟨a,t,rfl⟩
    have HT:=zh (And.intro hat (show 3<=s.length by omega));have ha:∀h:0 < S.size,S[0]'h=a:=λh=>by
     rw[gV HS.o.1 hpos h];simp[hat]
    obtain⟨x,hx⟩:∃x,tj 3 a=x:=⟨_,rfl⟩;have hlow:bits BinOp.andNot IntKind.u8 ((a.toNat:Nat):Int) 224=(x:Int):=by rw[<-hx];exact mO 3 a
    have vX:x<=255:=by rw[<-hx];exact uH 3 a
    have HX:=zh hx;clear hl hat hx
    go_upto_region 5 with fail
    obtain⟨Wb,fg⟩:∃Wb,wr.alloc (.cells #[.int .i32 65536,.int .u8 224] 190)=Wb:=⟨_,rfl⟩;have hkb:ae wr Wb []:=by rw[<-fg];exact ae.alloc _ _
    have rB:Row Wb wr.heap.size 190 #[.int .i32 65536,.int .u8 224]:=by rw[<-fg];exact Row.new _ _ _
    have HB:=zh (HR.o.2.ah hkb);have MB:=λ(W' :au) (hW:ae Wb W' [])=>(rB.keeps hW).cell 1
    simp only[cg,bU,fe]at MB;rw[fg];have hwx:IntKind.i32.wrap (x:Int)=(x:Int):=wraps_i32 _ (by omega) (by omega);clear hkb rB fg;refine aB _ (by kernel_rfl) rfl (by kernel_rfl) ?_
    iterate 7
     refine ls ?_;simp only[af]
    refine aq (λW vals hW ag=> ?_);simp only[aw]at ag
    try simp only[ai]at ag
    simp only[fill,Act.put,bo,bn,bh];clear ag MB;have HW:=zh (And.intro (HB.o.ah hW) hW);clear hW;obtain⟨l1,hl1⟩:∃l1,(s.drop 1).take (3 - 1)=l1:=⟨_,rfl⟩;obtain⟨S1,Dy⟩:∃S1,S.extract 1 3=S1:=⟨_,rfl⟩;have uy :S1=⟨l1.toArray⟩:=by rw[<-Dy,<-HS.o.1,gC,hl1]
    have qt:l1.length=3 - 1:=by
     rw[<-hl1,dq,dQ];have:=HT.o.2;omega
    have hks:(3:Int)<=s.length:=by have:=HT.o.2;omega
    obtain⟨cap,W2,iA,hk2,gO⟩:=uP W l1;rw[<-uy,qt]at iA;simp only[Nat.reduceSub]at iA;have e1:S1=S1:=rfl;rw[e1]at iA;have oH:=zh (And.intro (HW.o.1.ah hk2) (And.intro gO (And.intro qt hl1)));clear hk2 gO qt hl1 uy e1
    go_wp2_with fail
    clear Dy iA
    go_loopw [6,33] (λr j wr=>∃m y:Nat,m<=3 - 1/\j= .int .i64 m/\r= .int .i32 (y:Int)/\Hid (y=dS x (l1.take m)/\ae W2 wr [])) (λ_ j _=>3 - 1 - (intOf j).toNat)
    case atStart=>exact⟨0,x,by omega,rfl,rfl,zh ⟨rfl,ae.refl _ _⟩⟩
    case round=>
     obtain⟨m,y,hm,rfl,rfl,HM⟩:=hrel
     by_cases hmk:m < 3 - 1
     ·have qZ:m < l1.length:=by rw[oH.o.2.2.1];exact hmk
      obtain⟨hcm,hlt⟩:=oH.o.2.1 m qZ;obtain⟨c,hc⟩:∃c,l1[m]=c:=⟨_,rfl⟩;rw[hc]at hcm;have q:=(HM.o.2.cell (p:=⟨W.heap.size,m,none⟩) hlt (by simp)).trans hcm;unfold bq at q;have hy:=HM.o.1;have gR:=gL x (l1.take m);rw[<-hy,dq]at gR;have sX:y < 33554432:=by
       refine kB gR ?_;refine cH (lR (show x+1<=256 by omega) (lQ (by omega) (show min m l1.length<=2 by omega))) ?_;omega
      have Q_:=u8_and63 ((c.toNat:Nat):Int) (by omega) (by have:=c.toNat_lt;omega);have QT:=Eg (r:=y) (x:=c.toNat) sX;have hnx:64*y+c.toNat % 64=dS x (l1.take (m+1)):=by
       rw[hO qZ,hc];unfold dS;rw[zV,<-show y=(l1.take m).foldl (λr x=>64*r+x.toNat % 64) x from hy];rfl
      have Cf:=zh hnx;clear hcm hlt hc hy gR hnx qZ
      go_wp2_with fail
      all_goals exact⟨⟨m+1,64*y+c.toNat % 64,by omega,by go_num,by congr 1;omega,zh ⟨Cf.o,HM.o.2⟩⟩,by simp[intOf];omega⟩
     ·have wX :m=3 - 1:=by omega
      subst wX;have HY:=zh (show y=dS x l1 by
       have e:=HM.o.1
       rwa [qD (by rw[oH.o.2.2.1];exact bE _)]at e)
      have Iy:=zh (show s.take 3=a::l1 by
       rw[<-oH.o.2.2.2,HT.o.1];rfl)
      have oh:=zh (show(y≠0/\iU y/\cF y=a::l1)↔fN (s.take 3)by
       rw[Iy.o,HY.o,<-HX.o];exact D3 (by rw[du,oH.o.2.2.1]) (by omega))
      have gZ:=zh (show¬fN (s.take 3)->∀j,1<=j->j < 3+1->¬(j<=s.length/\fN (s.take j))from λhn j h1 h2 h3=>by
       rcases eS j 3 with h | h
       ·exact HR.o.1 j h1 h h3
       ·have e:j=3:=by omega
        rw[e]at h3;exact hn h3.2)
      have sX:y<=2147483647:=by
       have:=gL x l1;rw[<-HY.o,oH.o.2.2.1]at this;refine cH (kV this) ?_;refine cH (xy _ (show x+1<=256 by omega)) (by decide)
      have fK:=zh (oH.o.1.ah HM.o.2);clear HM HB HW
      by_cases hy0:y=0
      ·have HN:=zh (gZ.o (λh=>(oh.o.2 h).1 hy0))
       subst hy0
       go_wp2_with fail
       refine aB _ (by kernel_rfl) rfl (by kernel_rfl) ?_
       iterate 3
        refine ls ?_;simp only[af]
       iterate 2
        refine lo ?_;simp only[af]
       iterate 2
        refine ls ?_;simp only[af]
       iterate 7
        refine lo ?_;simp only[af]
       refine ls ?_;simp only[af];refine aq (λW vals hW ag=> ?_);simp only[aw]at ag
       try simp only[ai]at ag
       simp only[fill,Act.put,bo,bn,bh];clear ag;have HZ:=zh (fK.o.ah hW);clear hW
       go_wp2_with fail
       exact⟨⟨3+1,by omega,by go_num,zh ⟨HN.o,HZ.o⟩⟩,by simp[intOf]⟩
      ·have QO:((y:Int) !=0)=true:=by simpa using hy0
       by_cases hm:iU y
       ·have ny:=zh hm
        obtain⟨S2,pH⟩:∃S2:ByteArray,(⟨(cF y).toArray⟩:ByteArray)=S2:=⟨_,rfl⟩;obtain⟨S3,zo⟩:∃S3,S.extract 0 3=S3:=⟨_,rfl⟩;have e2:S2.toList=cF y:=by rw[<-pH,Lib.toList_data]
        have e3:S3.toList=a::l1:=by rw[<-zo,<-HS.o.1,gC,Lib.toList_data,<-Iy.o];simp
        obtain⟨fb,q7⟩:∃fb:Bool,fb=decide (cF y=a::l1):=⟨_,rfl⟩;have hcmp:(S2.toList==S3.toList)=fb:=by
         rw[e2,e3,q7,lP];simp
        have HF:=zh q7;have DR:=zh pH;clear hm e2 e3 q7 pH
        go_wp2_with fail
        refine aB _ (by kernel_rfl) rfl (by kernel_rfl) ?_
        iterate 4
         refine ls ?_;simp only[af]
        apply ak
        ·intro W vals hW ag
         clear ag;refine⟨?_⟩;simp only[fill];go_simp;refine aC ?_;exact(i_ W y (by assumption) sX).mono (by rintro e w3 ⟨rfl,rfl⟩;exact⟨_,rfl,ae.refl _ _,(by rw[bz ny.o])⟩)
        iterate 3
         simp only[af];refine ls ?_
        simp only[af];refine bH (λv W' =>∃b,v= .slice (some ⟨b,0,none⟩) (cF y).length (cF y).length/\Row W' b 5 (s9 (cF y))) (λW vals hW ag φ' hφ=> ?_) ?_
        ·simp only[knows]at ag
         try simp only[ai]at ag
         clear ag;refine⟨?_⟩;simp only[fill];go_simp
         (refine aC ?_;exact(rH W y (by have:=ny.o.2;omega)).mono (by rintro e w3 ⟨b,rfl,hr,hk⟩;exact⟨_,rfl,hk,hφ.o _ _ ⟨b,rfl,hr⟩⟩))
        simp only[af];apply ak
        ·intro W vals hW ag
         simp only[knows]at ag
         try simp only[ai]at ag
         obtain⟨W5,g0,g1,b,hv,hr⟩:=ag (by decide);have iA:=dO W _ (some ⟨b,0,none⟩) (cF y).length (cF y) (sD (hr.keeps g1));rw[DR.o]at iA;clear g0 g1 hr ag;refine⟨?_⟩;simp only[fill];go_simp
         first | exact⟨ae.refl _ _,rfl⟩ | exact⟨ae.alloc _ _,rfl⟩
        iterate 5
         simp only[af];refine ls ?_
        simp only[af];refine aq (λW vals hW ag=> ?_);simp only[aw]at ag
        try simp only[ai]at ag
        simp only[fill,Act.put,bo,bn,bh];clear ag;have HZ:=zh (fK.o.ah hW);clear hW
        cases fb with
        | true=>
         go_wp2_with fail
         go_ret2
         have hu:cP s=3:=ia (by omega) (by omega) (λj h1 h2=>HR.o.1 j h1 h2) ⟨HT.o.2,oh.o.1 ⟨hy0,ny.o,qj HF.o.symm⟩⟩;exact⟨y,by rw[hu];rfl,λ_=>by omega,HZ.o⟩
        | false=>
         have HN:=zh (gZ.o (λh=>by
          have e:=(oh.o.2 h).2.2;have f:=HF.o;rw[bz e]at f
          cases f))
         go_wp2_with fail
         exact⟨⟨3+1,by omega,by go_num,zh ⟨HN.o,HZ.o⟩⟩,by simp[intOf]⟩
       ·have HN:=zh (gZ.o (λh=>hm (oh.o.2 h).2.1))
        have ny:=zh hm;clear hm
        go_wp2_with fail
        refine aB _ (by kernel_rfl) rfl (by kernel_rfl) ?_
        iterate 4
         refine ls ?_;simp only[af]
        apply ak
        ·intro W vals hW ag
         clear ag;refine⟨?_⟩;simp only[fill];go_simp;refine aC ?_;exact(i_ W y (by assumption) sX).mono (by rintro e w3 ⟨rfl,rfl⟩;exact⟨_,rfl,ae.refl _ _,(by rw[aZ ny.o])⟩)
        iterate 2
         simp only[af];refine ls ?_
        iterate 7
         simp only[af];refine lo ?_
        simp only[af];refine ls ?_;simp only[af];refine aq (λW vals hW ag=> ?_);simp only[aw]at ag
        try simp only[ai]at ag
        simp only[fill,Act.put,bo,bn,bh];clear ag;have HZ:=zh (fK.o.ah hW);clear hW
        go_wp2_with fail
        exact⟨⟨3+1,by omega,by go_num,zh ⟨HN.o,HZ.o⟩⟩,by simp[intOf]⟩
  ·
   have hix:=Hv
   by_cases hl:s.length < 4
   ·have hlb:decide ((s.length:Int) < 4)=true:=bz (by omega)
    have HL:=zh hl;clear hl
    go_wp2_with fail
    exact⟨⟨4+1,by omega,by go_num,zh ⟨λj h1 h2 h3=>by
     have:=HL.o
     rcases eS j 4 with h | h
     ·exact HR.o.1 j h1 h h3
     ·omega,HR.o.2.bX _⟩⟩,by simp[intOf]⟩
   ·have hlb:decide ((s.length:Int) < 4)=false:=aZ (by omega)
    have hpos:0 < s.length:=by omega
    obtain⟨a,t,hat⟩:∃a t,s=a::t:=by
     cases s with
     | nil=>simp at hpos
     | cons a t=>exact⟨a,t,rfl⟩
    have HT:=zh (And.intro hat (show 4<=s.length by omega));have ha:∀h:0 < S.size,S[0]'h=a:=λh=>by
     rw[gV HS.o.1 hpos h];simp[hat]
    obtain⟨x,hx⟩:∃x,tj 4 a=x:=⟨_,rfl⟩;have hlow:bits BinOp.andNot IntKind.u8 ((a.toNat:Nat):Int) 240=(x:Int):=by rw[<-hx];exact mO 4 a
    have vX:x<=255:=by rw[<-hx];exact uH 4 a
    have HX:=zh hx;clear hl hat hx
    go_upto_region 5 with fail
    obtain⟨Wb,fg⟩:∃Wb,wr.alloc (.cells #[.int .i32 1114112,.int .u8 240] 190)=Wb:=⟨_,rfl⟩;have hkb:ae wr Wb []:=by rw[<-fg];exact ae.alloc _ _
    have rB:Row Wb wr.heap.size 190 #[.int .i32 1114112,.int .u8 240]:=by rw[<-fg];exact Row.new _ _ _
    have HB:=zh (HR.o.2.ah hkb);have MB:=λ(W' :au) (hW:ae Wb W' [])=>(rB.keeps hW).cell 1
    simp only[cg,bU,fe]at MB;rw[fg];have hwx:IntKind.i32.wrap (x:Int)=(x:Int):=wraps_i32 _ (by omega) (by omega);clear hkb rB fg;refine aB _ (by kernel_rfl) rfl (by kernel_rfl) ?_
    iterate 7
     refine ls ?_;simp only[af]
    refine aq (λW vals hW ag=> ?_);simp only[aw]at ag
    try simp only[ai]at ag
    simp only[fill,Act.put,bo,bn,bh];clear ag MB;have HW:=zh (And.intro (HB.o.ah hW) hW);clear hW;obtain⟨l1,hl1⟩:∃l1,(s.drop 1).take (4 - 1)=l1:=⟨_,rfl⟩;obtain⟨S1,Dy⟩:∃S1,S.extract 1 4=S1:=⟨_,rfl⟩;have uy :S1=⟨l1.toArray⟩:=by rw[<-Dy,<-HS.o.1,gC,hl1]
    have qt:l1.length=4 - 1:=by
     rw[<-hl1,dq,dQ];have:=HT.o.2;omega
    have hks:(4:Int)<=s.length:=by have:=HT.o.2;omega
    obtain⟨cap,W2,iA,hk2,gO⟩:=uP W l1;rw[<-uy,qt]at iA;simp only[Nat.reduceSub]at iA;have e1:S1=S1:=rfl;rw[e1]at iA;have oH:=zh (And.intro (HW.o.1.ah hk2) (And.intro gO (And.intro qt hl1)));clear hk2 gO qt hl1 uy e1
    go_wp2_with fail
    clear Dy iA
    go_loopw [6,33] (λr j wr=>∃m y:Nat,m<=4 - 1/\j= .int .i64 m/\r= .int .i32 (y:Int)/\Hid (y=dS x (l1.take m)/\ae W2 wr [])) (λ_ j _=>4 - 1 - (intOf j).toNat)
    case atStart=>exact⟨0,x,by omega,rfl,rfl,zh ⟨rfl,ae.refl _ _⟩⟩
    case round=>
     obtain⟨m,y,hm,rfl,rfl,HM⟩:=hrel
     by_cases hmk:m < 4 - 1
     ·have qZ:m < l1.length:=by rw[oH.o.2.2.1];exact hmk
      obtain⟨hcm,hlt⟩:=oH.o.2.1 m qZ;obtain⟨c,hc⟩:∃c,l1[m]=c:=⟨_,rfl⟩;rw[hc]at hcm;have q:=(HM.o.2.cell (p:=⟨W.heap.size,m,none⟩) hlt (by simp)).trans hcm;unfold bq at q;have hy:=HM.o.1;have gR:=gL x (l1.take m);rw[<-hy,dq]at gR;have sX:y < 33554432:=by
       refine kB gR ?_;refine cH (lR (show x+1<=256 by omega) (lQ (by omega) (show min m l1.length<=2 by omega))) ?_;omega
      have Q_:=u8_and63 ((c.toNat:Nat):Int) (by omega) (by have:=c.toNat_lt;omega);have QT:=Eg (r:=y) (x:=c.toNat) sX;have hnx:64*y+c.toNat % 64=dS x (l1.take (m+1)):=by
       rw[hO qZ,hc];unfold dS;rw[zV,<-show y=(l1.take m).foldl (λr x=>64*r+x.toNat % 64) x from hy];rfl
      have Cf:=zh hnx;clear hcm hlt hc hy gR hnx qZ
      go_wp2_with fail
      all_goals exact⟨⟨m+1,64*y+c.toNat % 64,by omega,by go_num,by congr 1;omega,zh ⟨Cf.o,HM.o.2⟩⟩,by simp[intOf];omega⟩
     ·have wX :m=4 - 1:=by omega
      subst wX;have HY:=zh (show y=dS x l1 by
       have e:=HM.o.1
       rwa [qD (by rw[oH.o.2.2.1];exact bE _)]at e)
      have Iy:=zh (show s.take 4=a::l1 by
       rw[<-oH.o.2.2.2,HT.o.1];rfl)
      have oh:=zh (show(y≠0/\iU y/\cF y=a::l1)↔fN (s.take 4)by
       rw[Iy.o,HY.o,<-HX.o];exact D3 (by rw[du,oH.o.2.2.1]) (by omega))
      have gZ:=zh (show¬fN (s.take 4)->∀j,1<=j->j < 4+1->¬(j<=s.length/\fN (s.take j))from λhn j h1 h2 h3=>by
       rcases eS j 4 with h | h
       ·exact HR.o.1 j h1 h h3
       ·have e:j=4:=by omega
        rw[e]at h3;exact hn h3.2)
      have sX:y<=2147483647:=by
       have:=gL x l1;rw[<-HY.o,oH.o.2.2.1]at this;refine cH (kV this) ?_;refine cH (xy _ (show x+1<=256 by omega)) (by decide)
      have fK:=zh (oH.o.1.ah HM.o.2);clear HM HB HW
      by_cases hy0:y=0
      ·have HN:=zh (gZ.o (λh=>(oh.o.2 h).1 hy0))
       subst hy0
       go_wp2_with fail
       refine aB _ (by kernel_rfl) rfl (by kernel_rfl) ?_
       iterate 3
        refine ls ?_;simp only[af]
       iterate 2
        refine lo ?_;simp only[af]
       iterate 2
        refine ls ?_;simp only[af]
       iterate 7
        refine lo ?_;simp only[af]
       refine ls ?_;simp only[af];refine aq (λW vals hW ag=> ?_);simp only[aw]at ag
       try simp only[ai]at ag
       simp only[fill,Act.put,bo,bn,bh];clear ag;have HZ:=zh (fK.o.ah hW);clear hW
       go_wp2_with fail
       exact⟨⟨4+1,by omega,by go_num,zh ⟨HN.o,HZ.o⟩⟩,by simp[intOf]⟩
      ·have QO:((y:Int) !=0)=true:=by simpa using hy0
       by_cases hm:iU y
       ·have ny:=zh hm
        obtain⟨S2,pH⟩:∃S2:ByteArray,(⟨(cF y).toArray⟩:ByteArray)=S2:=⟨_,rfl⟩;obtain⟨S3,zo⟩:∃S3,S.extract 0 4=S3:=⟨_,rfl⟩;have e2:S2.toList=cF y:=by rw[<-pH,Lib.toList_data]
        have e3:S3.toList=a::l1:=by rw[<-zo,<-HS.o.1,gC,Lib.toList_data,<-Iy.o];simp
        obtain⟨fb,q7⟩:∃fb:Bool,fb=decide (cF y=a::l1):=⟨_,rfl⟩;have hcmp:(S2.toList==S3.toList)=fb:=by
         rw[e2,e3,q7,lP];simp
        have HF:=zh q7;have DR:=zh pH;clear hm e2 e3 q7 pH
        go_wp2_with fail
        refine aB _ (by kernel_rfl) rfl (by kernel_rfl) ?_
        iterate 4
         refine ls ?_;simp only[af]
        apply ak
        ·intro W vals hW ag
         clear ag;refine⟨?_⟩;simp only[fill];go_simp;refine aC ?_;exact(i_ W y (by assumption) sX).mono (by rintro e w3 ⟨rfl,rfl⟩;exact⟨_,rfl,ae.refl _ _,(by rw[bz ny.o])⟩)
        iterate 3
         simp only[af];refine ls ?_
        simp only[af];refine bH (λv W' =>∃b,v= .slice (some ⟨b,0,none⟩) (cF y).length (cF y).length/\Row W' b 5 (s9 (cF y))) (λW vals hW ag φ' hφ=> ?_) ?_
        ·simp only[knows]at ag
         try simp only[ai]at ag
         clear ag;refine⟨?_⟩;simp only[fill];go_simp
         (refine aC ?_;exact(rH W y (by have:=ny.o.2;omega)).mono (by rintro e w3 ⟨b,rfl,hr,hk⟩;exact⟨_,rfl,hk,hφ.o _ _ ⟨b,rfl,hr⟩⟩))
        simp only[af];apply ak
        ·intro W vals hW ag
         simp only[knows]at ag
         try simp only[ai]at ag
         obtain⟨W5,g0,g1,b,hv,hr⟩:=ag (by decide);have iA:=dO W _ (some ⟨b,0,none⟩) (cF y).length (cF y) (sD (hr.keeps g1));rw[DR.o]at iA;clear g0 g1 hr ag;refine⟨?_⟩;simp only[fill];go_simp
         first | exact⟨ae.refl _ _,rfl⟩ | exact⟨ae.alloc _ _,rfl⟩
        iterate 5
         simp only[af];refine ls ?_
        simp only[af];refine aq (λW vals hW ag=> ?_);simp only[aw]at ag
        try simp only[ai]at ag
        simp only[fill,Act.put,bo,bn,bh];clear ag;have HZ:=zh (fK.o.ah hW);clear hW
        cases fb with
        | true=>
         go_wp2_with fail
         go_ret2
         have hu:cP s=4:=ia (by omega) (by omega) (λj h1 h2=>HR.o.1 j h1 h2) ⟨HT.o.2,oh.o.1 ⟨hy0,ny.o,qj HF.o.symm⟩⟩;exact⟨y,by rw[hu];rfl,λ_=>by omega,HZ.o⟩
        | false=>
         have HN:=zh (gZ.o (λh=>by
          have e:=(oh.o.2 h).2.2;have f:=HF.o;rw[bz e]at f
          cases f))
         go_wp2_with fail
         exact⟨⟨4+1,by omega,by go_num,zh ⟨HN.o,HZ.o⟩⟩,by simp[intOf]⟩
       ·have HN:=zh (gZ.o (λh=>hm (oh.o.2 h).2.1))
        have ny:=zh hm;clear hm
        go_wp2_with fail
        refine aB _ (by kernel_rfl) rfl (by kernel_rfl) ?_
        iterate 4
         refine ls ?_;simp only[af]
        apply ak
        ·intro W vals hW ag
         clear ag;refine⟨?_⟩;simp only[fill];go_simp;refine aC ?_;exact(i_ W y (by assumption) sX).mono (by rintro e w3 ⟨rfl,rfl⟩;exact⟨_,rfl,ae.refl _ _,(by rw[aZ ny.o])⟩)
        iterate 2
         simp only[af];refine ls ?_
        iterate 7
         simp only[af];refine lo ?_
        simp only[af];refine ls ?_;simp only[af];refine aq (λW vals hW ag=> ?_);simp only[aw]at ag
        try simp only[ai]at ag
        simp only[fill,Act.put,bo,bn,bh];clear ag;have HZ:=zh (fK.o.ah hW);clear hW
        go_wp2_with fail
        exact⟨⟨4+1,by omega,by go_num,zh ⟨HN.o,HZ.o⟩⟩,by simp[intOf]⟩
  ·go_wp2_with fail
   go_ret2
   have hu:cP s=0:=ja HR.o.1;exact⟨0,by rw[hu];rfl,λh=>absurd hu h,HR.o.2⟩
end Go.Proofs.YtahbikfbjenfpaaGreatDoor
