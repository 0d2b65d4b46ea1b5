/- Texts as values. Package topic, plain: levels put together; within is told by what is met. Reference 13: signs. Reference 12: May. Reference 12: six. Reference 12: Raw. Reference 12: First. Reference 12: Runes. Reference 13: said, Name. Reference 13: Levels. Reference 13: Filter. -/
import Derived.Test.YtahbikfbjenfpaaGreatDoorPa11
import Derived.Test.YtahbikfbjenfpaaGreatDoorPa1
import Derived.Deep.DeepCutAuto
import Derived.Test.YtahbikfbjenfpaaGreatDoorPa2
set_option maxHeartbeats 4000000
set_option maxRecDepth 100000
namespace Go.Proofs.YtahbikfbjenfpaaGreatDoor
open Tryz Go.RowKit Go.Shelf

/-- Texts as values. -/
abbrev Qs (l:List aG):List Value:=l.map λx=> .string ⟨x.toArray⟩
def lenOf (v:Value):Nat:=match v with
 | .slice _ n _=>n
 | _=>0
theorem Jo (a b:aG):(⟨a.toArray⟩:ByteArray)++⟨b.toArray⟩=⟨(a++b).toArray⟩:=by
 apply ByteArray.ext;simp
end Go.Proofs.YtahbikfbjenfpaaGreatDoor

namespace Go.Proofs.YtahbikfbjenfpaaGreatDoor
open Tryz Go

/-- Levels put together. -/
def ND:List aG->aG
 | []=> []
 | [x]=>x
 | x::y::l=>x++47::ND (y::l)
theorem Gk (s t:aG):dH (s++47::t)=dH s++dH t:=by
 induction s with
 | nil=>
  show dH (47::t)= []::dH t;rw[dH,aE rfl]
 | cons a s ih=>
  by_cases h:a=47
  ·subst h
   rw[jS,dH,aE rfl,ih,dH,aE rfl];rfl
  ·obtain⟨l,ls,e1,e2⟩:=ib (s:=s) h
   obtain⟨l',ls',e3,e4⟩:=ib (s:=s++47::t) h;rw[ih,e1,jS]at e3;injection e3 with e5 e6
   rw[jS,e4,e2,<-e5,<-e6];rfl
theorem Co {s:aG}(h:(47:UInt8)∉s):dH s= [s]:=by
 induction s with
 | nil=>rfl
 | cons a s ih=>
  obtain⟨h1,h2⟩:(47:UInt8)≠a/\(47:UInt8)∉s:=by simpa using h
  obtain⟨l,ls,e1,e2⟩:=ib (s:=s) (Ne.symm h1);rw[ih h2]at e1;injection e1 with e3 e4
  rw[e2,<-e3,<-e4]
/-- The first level. -/
def Ww (l:List aG):aG:=l.headD []
def Ui (c:UInt8)(s:aG):Bool:=([c]:aG).isPrefixOf s
end Go.Proofs.YtahbikfbjenfpaaGreatDoor

namespace Go.Proofs.YtahbikfbjenfpaaGreatDoor
open Tryz Go.RowKit Go.Shelf

def jh (s:aG):Nat:=s.countP λb=>b==43 || b==35
theorem vG (w:au)(s:aG)(hs:s.length<=60000):
  Calls prog 94 #[.string ⟨s.toArray⟩] w λe w' =>e= .returned (.int .i64 (jh s:Nat))/\w=w' :=by
 obtain⟨S,hS⟩:∃S:ByteArray,(⟨s.toArray⟩:ByteArray)=S:=⟨_,rfl⟩;have hz:S.size=s.length:=by rw[<-hS];simp[ByteArray.size]
 have HG:=zh (show∀k (h:k < s.length) (h2:k < S.size),S[k]=s[k]from λk h h2=>by subst hS;rfl);rw[hS];clear hS
 go_enter func94,ntmps94
 go_wp2
 go_loop [3,4] (λn i=>∃k:Nat,k<=s.length/\i= .int .i64 k/\n= .int .i64 (jh (s.take k):Nat)) (λ_ i=>s.length - (intOf i).toNat)
 case atStart=>exact⟨0,by omega,rfl,rfl⟩
 case round=>
  obtain⟨k,hk,rfl,rfl⟩:=hrel
  by_cases hlt:k < s.length
  ·have HS:=zh (hO hlt)
   have ix:∀h,S[k]'h=s[k]:=λh=>HG.o k hlt h
   obtain⟨m,hm⟩:∃m,jh (s.take k)=m:=⟨_,rfl⟩;have hmk:m<=k:=by rw[<-hm];exact cH List.countP_le_length (by rw[dq];omega)
   have HM:=zh hm;rw[hm];clear hm
   generalize s[k]=y at*
   have HN:=zh (show jh (s.take (k+1))=m+(if(y==43 || y==35)=true then 1 else 0)by rw[HS.o,jh,List.countP_append,<-HM.o];simp[jh])
   by_cases FX:y=43
   ·subst FX
    have b1:(((43:UInt8).toNat:Int)==43)=true:=rfl
    go_wp2_with fail
    refine⟨⟨k+1,by omega,by go_num, ?_⟩,by simp[intOf];omega⟩;rw[HN.o]
    go_num
   ·have b1:((y.toNat:Int)==43)=false:=by
     rw[tS];intro h;exact FX (UInt8.toNat_inj.1 (by simpa using (show y.toNat=43 by omega)))
    by_cases FY:y=35
    ·subst FY
     have b2:(((35:UInt8).toNat:Int)==35)=true:=rfl
     go_wp2_with fail
     refine⟨⟨k+1,by omega,by go_num, ?_⟩,by simp[intOf];omega⟩;rw[HN.o]
     go_num
    ·have b2:((y.toNat:Int)==35)=false:=by
      rw[tS];intro h;exact FY (UInt8.toNat_inj.1 (by simpa using (show y.toNat=35 by omega)))
     have FP:=zh (show(y==43 || y==35)=false by simp[FX,FY])
     go_wp2_with fail
     refine⟨⟨k+1,by omega,by go_num, ?_⟩,by simp[intOf];omega⟩;rw[HN.o,FP.o];rfl
  ·obtain rfl:k=s.length:=by omega
   rw[eQ]
   go_wp2_with fail
   go_ret;exact⟨rfl,rfl⟩

def jk (r:Nat):Bool:=decide (r < 55296) || (decide (57343 < r) && decide (r<=1114111))
theorem jU (w:au)(r:Nat):Calls prog 170 #[.int .i32 r] w λe w' =>e= .returned (.bool (jk r))/\w=w' :=by
 have h0:decide ((r:Int)>=0)=true:=by simp
 have h00:decide ((0:Int)<=r)=true:=by simp
 obtain⟨b1,e1⟩:∃b,decide (r < 55296)=b:=⟨_,rfl⟩;obtain⟨b2,e2⟩:∃b,decide (57343 < r)=b:=⟨_,rfl⟩;obtain⟨b3,e3⟩:∃b,decide (r<=1114111)=b:=⟨_,rfl⟩;have HR:=zh (show jk r=(b1 || (b2 && b3))by unfold jk;rw[e1,e2,e3]);have f1:decide ((r:Int) < 55296)=b1:=by rw[<-e1];apply decide_eq_decide.2;omega
 have f2:decide ((57343:Int) < r)=b2:=by rw[<-e2];apply decide_eq_decide.2;omega
 have f3:decide ((r:Int)<=1114111)=b3:=by rw[<-e3];apply decide_eq_decide.2;omega
 clear e1 e2 e3
 go_enter func170,ntmps170
 cases b1 <;> cases b2 <;> cases b3
 all_goals go_wp2_with fail
 all_goals go_ret
 all_goals exact⟨by rw[HR.o];rfl,rfl⟩

theorem rX (w:au)(r:Nat)(hr:r<=4294967295):Calls prog 180 #[.int .i64 r] w λe w' =>e= .returned (.int .u8 (128+r % 64:Nat))/\w=w' :=by
 have h1:(r:Int).tmod 64=((r % 64:Nat):Int):=by rw[rC (by omega)];omega
 have hlt:r % 64 < 64:=Nat.mod_lt _ (by omega);obtain⟨m,hm⟩:∃m,r % 64=m:=⟨_,rfl⟩;rw[hm]at h1 hlt ⊢
 clear hm
 go_enter func180,ntmps180
 go_wp2
 go_ret;exact⟨by go_num,rfl⟩

theorem Ea (w:au)(l:aG):(convert 32 9 (.slice (some ⟨w.heap.size,0,none⟩) l.length l.length)).run prog (w.alloc (.cells (s9 l) 5))= .ok (.string ⟨l.toArray⟩) (w.alloc (.cells (s9 l) 5)):=
 dO _ _ _ _ l (sD (Row.new w 5 (s9 l)))
theorem rY (w:au)(r:Nat)(hr:r<=1114111):Calls prog 171 #[.int .i32 r] w λe w' =>e= .returned (.string ⟨(cF r).toArray⟩)/\ae w w' []:=by
 by_cases h1:r < 128
 ·have d1:decide ((r:Int) < 128)=true:=by simp;omega
  have HU:=zh (show cF r= [u8 r]by unfold cF;rw[aE h1]);have cv:=Ea w [u8 r];rw[show s9 [u8 r]= #[.int .u8 (r:Int)]by simp[s9,bq,cu (show r < 256 by omega)]]at cv
  generalize hS:(⟨[u8 r].toArray⟩:ByteArray)=S at cv
  have HS:=zh hS;clear hS;simp only[du,dR,iP]at cv
  go_enter func171,ntmps171
  go_wp2_with fail
  go_ret;exact⟨by rw[HU.o,HS.o];rfl,ae.alloc _ _⟩
 ·have d1:decide ((r:Int) < 128)=false:=by simp;omega
  by_cases h2:r < 2048
  ·have d2:decide ((r:Int) < 2048)=true:=by simp;omega
   have q1:(r:Int).tdiv 64=((r / 64:Nat):Int):=by rw[zT (by omega)];omega
   have HU:=zh (show cF r= [u8 (192+r / 64),u8 (128+r % 64)]by unfold cF;rw[aj h1,aE h2]);have cv:=Ea w [u8 (192+r / 64),u8 (128+r % 64)];rw[show s9 [u8 (192+r / 64),u8 (128+r % 64)]= #[.int .u8 (192+(r:Int) / 64),.int .u8 (128+(r:Int) % 64)]by simp[s9,bq,cu (show 192+r / 64 < 256 by omega),cu (show 128+r % 64 < 256 by omega)]]at cv
   generalize hS:(⟨[u8 (192+r / 64),u8 (128+r % 64)].toArray⟩:ByteArray)=S at cv
   have HS:=zh hS;clear hS;simp only[du,dR,iP]at cv;have HX:=zh (rX w r (by omega))
   go_enter func171,ntmps171
   go_wp2_with (go_at_call 180;refine HX.o.mono ?_;rintro e w1 ⟨rfl,rfl⟩)
   go_ret;exact⟨by rw[HU.o,HS.o];rfl,ae.alloc _ _⟩
  ·have d2:decide ((r:Int) < 2048)=false:=by simp;omega
   have hx0:=rX w r (by omega);have hx1:=rX w (r / 64) (by omega);have hx2:=rX w (r / 4096) (by omega);simp only[Int.natCast_add,Int.natCast_emod,Int.natCast_ediv,Int.cast_ofNat_Int]at hx0 hx1 hx2;have HX:=zh (And.intro hx0 (And.intro hx1 hx2));clear hx0 hx1 hx2
   by_cases h3:r < 65536
   ·have d3:decide ((r:Int) < 65536)=true:=by simp;omega
    have HU:=zh (show cF r= [u8 (224+r / 4096),u8 (128+r / 64 % 64),u8 (128+r % 64)]by unfold cF;rw[aj h1,aj h2,aE h3]);have cv:=Ea w [u8 (224+r / 4096),u8 (128+r / 64 % 64),u8 (128+r % 64)];rw[show s9 [u8 (224+r / 4096),u8 (128+r / 64 % 64),u8 (128+r % 64)]= #[.int .u8 (224+(r:Int) / 4096),.int .u8 (128+(r:Int) / 64 % 64),.int .u8 (128+(r:Int) % 64)]by simp[s9,bq,cu (show 224+r / 4096 < 256 by omega),cu (show 128+r / 64 % 64 < 256 by omega),cu (show 128+r % 64 < 256 by omega)]]at cv
    generalize hS:(⟨[u8 (224+r / 4096),u8 (128+r / 64 % 64),u8 (128+r % 64)].toArray⟩:ByteArray)=S at cv
    have HS:=zh hS;clear hS;simp only[du,dR,iP]at cv
    go_enter func171,ntmps171
    go_wp2_with (go_at_call 180;first | (refine HX.o.1.mono ?_;rintro e w1 ⟨rfl,rfl⟩) | (refine HX.o.2.1.mono ?_;rintro e w1 ⟨rfl,rfl⟩))
    go_ret;exact⟨by rw[HU.o,HS.o];rfl,ae.alloc _ _⟩
   ·have d3:decide ((r:Int) < 65536)=false:=by simp;omega
    have HU:=zh (show cF r= [u8 (240+r / 262144),u8 (128+r / 4096 % 64),u8 (128+r / 64 % 64),u8 (128+r % 64)]by unfold cF;rw[aj h1,aj h2,aj h3]);have cv:=Ea w [u8 (240+r / 262144),u8 (128+r / 4096 % 64),u8 (128+r / 64 % 64),u8 (128+r % 64)];rw[show s9 [u8 (240+r / 262144),u8 (128+r / 4096 % 64),u8 (128+r / 64 % 64),u8 (128+r % 64)]= #[.int .u8 (240+(r:Int) / 262144),.int .u8 (128+(r:Int) / 4096 % 64),.int .u8 (128+(r:Int) / 64 % 64),.int .u8 (128+(r:Int) % 64)]by simp[s9,bq,cu (show 240+r / 262144 < 256 by omega),cu (show 128+r / 4096 % 64 < 256 by omega),cu (show 128+r / 64 % 64 < 256 by omega),cu (show 128+r % 64 < 256 by omega)]]at cv
    generalize hS:(⟨[u8 (240+r / 262144),u8 (128+r / 4096 % 64),u8 (128+r / 64 % 64),u8 (128+r % 64)].toArray⟩:ByteArray)=S at cv
    have HS:=zh hS;clear hS;simp only[du,dR,iP]at cv
    go_enter func171,ntmps171
    go_wp2_with (go_at_call 180;first | (refine HX.o.1.mono ?_;rintro e w1 ⟨rfl,rfl⟩) | (refine HX.o.2.1.mono ?_;rintro e w1 ⟨rfl,rfl⟩) | (refine HX.o.2.2.mono ?_;rintro e w1 ⟨rfl,rfl⟩))
    go_ret;exact⟨by rw[HU.o,HS.o];rfl,ae.alloc _ _⟩

/-- No rune of fewer bytes. -/
structure Ks (w wr:au)(s:aG)(k:Nat):Prop where
 n:∀j,1<=j->j < k->¬(j<=s.length/\fN (s.take j))
 k:ae w wr []
theorem Ks.next {w wr w' :au}{s:aG}{k:Nat}(h:Ks w wr s k)(hn:¬fN (s.take k))(hk:ae wr w' []):Ks w w' s (k+1):=
 ⟨λj h1 h2 h3=>by
  rcases eS j k with g | g
  ·exact h.n j h1 g h3
  ·obtain rfl:j=k:=by omega
   exact hn h3.2,h.k.ah hk⟩
theorem rZ {s:aG}{a:UInt8}{t:aG}{k:Nat}(hs:s=a::t)(hk:k<=s.length)(h0:1<=k)(h:¬(dw k<=a.toNat/\a.toNat < mN k)):¬fN (s.take k):=by
 intro hh;obtain⟨a',t',e,g1,g2⟩:=xJ hh;have hl:(s.take k).length=k:=by rw[dq];omega
 rw[hl]at g1 g2;have:a' =a:=by
  rw[hs]at e;obtain⟨k,rfl⟩:∃k',k=k' +1:=⟨k - 1,by omega⟩;rw[dc]at e;injection e with e1 _
  exact e1.symm
 rw[this]at g1 g2;exact h ⟨g1,g2⟩
theorem qR {s:aG}{x y m:Nat}{c:UInt8}(h1:1<=m)(hm:m < s.length)(hc:s[m]=c)(hy:y=dS x ((s.take m).drop 1)):64*y+c.toNat % 64=dS x ((s.take (m+1)).drop 1):=by
 rw[hO hm,hc,List.drop_append_of_le_length (by rw[dq];omega)];unfold dS;rw[zV,<-show y=((s.take m).drop 1).foldl (λr x=>64*r+x.toNat % 64) x from hy];rfl
theorem pW {s:aG}{a:UInt8}{t:aG}{k x:Nat}(hs:s=a::t)(hk:k<=s.length)(h1:1<=k)(hx:a.toNat - dw k=x):dS x ((s.take k).drop 1)=qO (s.take k):=by
 have hl:(s.take k).length=k:=by rw[dq];omega
 obtain⟨k,rfl⟩:∃k',k=k' +1:=⟨k - 1,by omega⟩;subst hs;rw[dc]at hl ⊢
 show dS x (t.take k)=dS (a.toNat - dw (a::t.take k).length) (t.take k);rw[hl,hx]
def IP (w:au)(s:aG)(e:Ending)(w' :au):Prop:=∃r:Nat,e= .returned (.tuple #[.int .i32 (r:Int),.int .i64 ((cP s:Nat):Int)])/\(cP s≠0->r=qO (s.take (cP s)))/\ae w w' []
theorem Cv (w:au)(s:aG)(hs:s.length<=1000000):Calls prog 162 #[.string ⟨s.toArray⟩] w (IP w s):=by
 obtain⟨S,hS⟩:∃S:ByteArray,(⟨s.toArray⟩:ByteArray)=S:=⟨_,rfl⟩;have hsz:S.size=s.length:=by rw[<-hS];rfl
 have HS:=zh (And.intro hS hsz);rw[hS];clear hS
 go_enter func162,ntmps162
 go_wp2_with fail
 go_loopw [4] (λi wr=>∃k:Nat,1<=k/\k<=5/\i= .int .i64 k/\Hid (Ks w wr s k)) (λi _=>5 - (intOf i).toNat)
 case atStart=>exact⟨1,by omega,by omega,rfl,zh ⟨λj _ _=>by omega,ae.refl _ _⟩⟩
 case round=>
  obtain⟨k,hk1,iH,rfl,HR⟩:=hrel;have hsl:=HS.o.2
  rcases(show k=1\/k=2\/k=3\/k=4\/k=5 by omega)with rfl | rfl | rfl | rfl | rfl
  ·skip
   by_cases hl:s.length < 1
   ·have hlb:decide ((1:Int)<=s.length)=false:=aZ (by omega)
    have HL:=zh hl;clear hl
    go_wp2_with fail
    go_ret2
    have hu:cP s=0:=ja (λj h1 h2 h3=>by
     have:=HL.o
     rcases eS j 1 with h | h
     ·exact HR.o.n j h1 h h3
     ·omega)
    exact⟨0,by rw[hu];rfl,λh=>absurd hu h,HR.o.k⟩
   ·have hlb:decide ((1:Int)<=s.length)=true:=bz (by omega)
    have hpos:0 < s.length:=by omega
    obtain⟨a,t,hat⟩:∃a t,s=a::t:=by
     cases s with
     | nil=>simp at hpos
     | cons a t=>exact⟨a,t,rfl⟩
    have HT:=zh (And.intro hat (show 1<=s.length by omega));have ha:∀h:0 < S.size,S[0]'h=a:=λh=>by
     rw[gV HS.o.1 hpos h];simp[hat]
    by_cases hr:0<=a.toNat/\a.toNat < 128
    ·obtain⟨hr1,hr2⟩:=hr
     have f1:decide ((a.toNat:Int) < 0)=false:=aZ (by omega);have f2:decide ((a.toNat:Int)>=128)=false:=aZ (by omega);have f3:decide ((128:Int)<=a.toNat)=false:=aZ (by omega);obtain⟨x,hx⟩:∃x,a.toNat - 0=x:=⟨_,rfl⟩;have QQ:((a.toNat:Int) - 0)=x:=by omega
     have HX:=zh hx;have vX:x<=255:=by have:=a.toNat_lt;omega
     have HA:=zh (And.intro hr1 hr2);clear hat hl hx hr1 hr2
     go_wp2_with fail
     go_loopw [8,9] (λr i W=>∃m y:Nat,1<=m/\m<=1/\i= .int .i64 m/\r= .int .i32 (y:Int)/\Hid (y=dS x ((s.take m).drop 1)/\wr=W)) (λ_ i _=>1 - (intOf i).toNat)
     case atStart=>exact⟨1,x,by omega,by omega,rfl,by congr 1 <;> omega,zh ⟨by rw[HT.o.1];rfl,rfl⟩⟩
     case round=>
      obtain⟨m,y,hm1,hm,rfl,rfl,HM⟩:=hrel;obtain⟨hy,rfl⟩:=HM.o;have gR:=gL x ((s.take m).drop 1);rw[<-hy,dQ,dq]at gR
      by_cases hmk:m < 1
      ·skip
       exfalso
       omega
      ·obtain rfl:m=1:=by omega
       have HY:=zh (show y=qO (s.take 1)by
        rw[hy];exact pW HT.o.1 HT.o.2 (by omega) HX.o)
       have sX:y<=2147483647:=by
        refine cH (kV gR) ?_;refine cH (lR (show x+1<=256 by omega) (lQ (by omega) (show min 1 s.length - 1<=3 by omega))) ?_;omega
       clear gR hy HM;have oh:=zh (show(iU y/\cF y=s.take 1)↔fN (s.take 1)by rw[HY.o];exact mP.symm);have hks:(1:Int)<=s.length:=by have:=HT.o.2;omega
       go_wp2_with fail
       by_cases hy0:y=0
       ·have HN:=zh (show¬fN (s.take 1)from λh=>by have:=(oh.o.2 h).1.1;omega)
        subst hy0;refine aB _ (by kernel_rfl) rfl (by kernel_rfl) ?_
        iterate 3
         refine ls ?_;simp only[af]
        iterate 2
         refine lo ?_;simp only[af]
        iterate 2
         refine ls ?_;simp only[af]
        iterate 6
         refine lo ?_;simp only[af]
        refine ls ?_;simp only[af];refine aq (λW vals hW ag=> ?_);simp only[aw]at ag
        try simp only[ai]at ag
        simp only[fill,Act.put,bo,bn,bh];clear ag;have HZ:=zh hW;clear hW
        go_wp2_with fail
        exact⟨⟨1+1,by omega,by omega,by go_num,zh (HR.o.next HN.o HZ.o)⟩,by simp[intOf]⟩
       ·have hyp:0 < y:=by omega
        by_cases hm:iU y
        ·have ny:=zh hm
         have sZ:jk y=true:=by
          unfold jk;have:=hm.2;simp only[kW,cR,fA];exact this
         obtain⟨S2,pH⟩:∃S2:ByteArray,(⟨(cF y).toArray⟩:ByteArray)=S2:=⟨_,rfl⟩;obtain⟨S3,zo⟩:∃S3,S.extract 0 1=S3:=⟨_,rfl⟩;have e2:S2.toList=cF y:=by rw[<-pH,Lib.toList_data]
         have e3:S3.toList=s.take 1:=by rw[<-zo,<-HS.o.1,gC,Lib.toList_data];simp
         obtain⟨fb,q7⟩:∃fb:Bool,fb=decide (cF y=s.take 1):=⟨_,rfl⟩;have hcmp:(S2.toList==S3.toList)=fb:=by
          rw[e2,e3,q7,lP];simp
         have HF:=zh q7;have DR:=zh pH;have DU:=zh sZ;clear hm e2 e3 q7 pH sZ;refine aB _ (by kernel_rfl) rfl (by kernel_rfl) ?_
         iterate 4
          refine ls ?_;simp only[af]
         apply ak
         ·intro W vals hW ag
          clear ag;refine⟨?_⟩;simp only[fill];go_simp;refine aC ?_;exact(jU W y).mono (by rintro e w3 ⟨rfl,rfl⟩;exact⟨_,rfl,ae.refl _ _,(by rw[DU.o])⟩)
         iterate 3
          simp only[af];refine ls ?_
         simp only[af];apply ak
         ·intro W vals hW ag
          clear ag;refine⟨?_⟩;simp only[fill];go_simp;refine aC ?_;exact(rY W y (by have:=ny.o.2;omega)).mono (by rintro e w3 ⟨rfl,hk⟩;exact⟨_,rfl,hk,(by rw[DR.o])⟩)
         iterate 5
          simp only[af];refine ls ?_
         simp only[af];refine aq (λW vals hW ag=> ?_);simp only[aw]at ag
         try simp only[ai]at ag
         simp only[fill,Act.put,bo,bn,bh];clear ag;have HZ:=zh hW;clear hW
         cases fb with
         | true=>
          go_wp2_with fail
          go_ret2
          have hu:cP s=1:=ia (by omega) (by omega) (λj h1 h2=>HR.o.n j h1 h2) ⟨HT.o.2,oh.o.1 ⟨ny.o,qj HF.o.symm⟩⟩;exact⟨y,by rw[hu];rfl,λ_=>by rw[hu];exact HY.o,HR.o.k.ah HZ.o⟩
         | false=>
          have HN:=zh (show¬fN (s.take 1)from λh=>by
           have e:=(oh.o.2 h).2;have f:=HF.o;rw[bz e]at f
           cases f)
          go_wp2_with fail
          exact⟨⟨1+1,by omega,by omega,by go_num,zh (HR.o.next HN.o HZ.o)⟩,by simp[intOf]⟩
        ·have HN:=zh (show¬fN (s.take 1)from λh=>hm (oh.o.2 h).1)
         have sZ:jk y=false:=by
          rw[<-Bool.not_eq_true];unfold jk;simp only[kW,cR,fA];exact λh=>hm ⟨by omega,h⟩
         have DU:=zh sZ;clear hm sZ;refine aB _ (by kernel_rfl) rfl (by kernel_rfl) ?_
         iterate 4
          refine ls ?_;simp only[af]
         apply ak
         ·intro W vals hW ag
          clear ag;refine⟨?_⟩;simp only[fill];go_simp;refine aC ?_;exact(jU W y).mono (by rintro e w3 ⟨rfl,rfl⟩;exact⟨_,rfl,ae.refl _ _,(by rw[DU.o])⟩)
         iterate 2
          simp only[af];refine ls ?_
         iterate 6
          simp only[af];refine lo ?_
         simp only[af];refine ls ?_;simp only[af];refine aq (λW vals hW ag=> ?_);simp only[aw]at ag
         try simp only[ai]at ag
         simp only[fill,Act.put,bo,bn,bh];clear ag;have HZ:=zh hW;clear hW
         go_wp2_with fail
         exact⟨⟨1+1,by omega,by omega,by go_num,zh (HR.o.next HN.o HZ.o)⟩,by simp[intOf]⟩
    ·have HN:=zh (rZ HT.o.1 HT.o.2 (by omega) (show¬(dw 1<=a.toNat/\a.toNat < mN 1)from hr))
     have LX:=a.toNat_lt;have hbb:(decide ((a.toNat:Int) < 0) || decide ((a.toNat:Int)>=128))=true:=by simp;omega
     clear hat hl hr
     go_wp2_with fail
     all_goals exact⟨⟨1+1,by omega,by omega,by go_num,zh (HR.o.next HN.o (ae.refl _ _))⟩,by simp[intOf]⟩
  ·skip
   by_cases hl:s.length < 2
   ·have hlb:decide ((2:Int)<=s.length)=false:=aZ (by omega)
    have HL:=zh hl;clear hl
    go_wp2_with fail
    go_ret2
    have hu:cP s=0:=ja (λj h1 h2 h3=>by
     have:=HL.o
     rcases eS j 2 with h | h
     ·exact HR.o.n j h1 h h3
     ·omega)
    exact⟨0,by rw[hu];rfl,λh=>absurd hu h,HR.o.k⟩
   ·have hlb:decide ((2:Int)<=s.length)=true:=bz (by omega)
    have hpos:0 < s.length:=by omega
    obtain⟨a,t,hat⟩:∃a t,s=a::t:=by
     cases s with
     | nil=>simp at hpos
     | cons a t=>exact⟨a,t,rfl⟩
    have HT:=zh (And.intro hat (show 2<=s.length by omega));have ha:∀h:0 < S.size,S[0]'h=a:=λh=>by
     rw[gV HS.o.1 hpos h];simp[hat]
    by_cases hr:192<=a.toNat/\a.toNat < 224
    ·obtain⟨hr1,hr2⟩:=hr
     have f1:decide ((a.toNat:Int) < 192)=false:=aZ (by omega);have f2:decide ((a.toNat:Int)>=224)=false:=aZ (by omega);have f3:decide ((224:Int)<=a.toNat)=false:=aZ (by omega);obtain⟨x,hx⟩:∃x,a.toNat - 192=x:=⟨_,rfl⟩;have QQ:((a.toNat:Int) - 192)=x:=by omega
     have HX:=zh hx;have vX:x<=255:=by have:=a.toNat_lt;omega
     have HA:=zh (And.intro hr1 hr2);clear hat hl hx hr1 hr2
     go_wp2_with fail
     go_loopw [8,9] (λr i W=>∃m y:Nat,1<=m/\m<=2/\i= .int .i64 m/\r= .int .i32 (y:Int)/\Hid (y=dS x ((s.take m).drop 1)/\wr=W)) (λ_ i _=>2 - (intOf i).toNat)
     case atStart=>exact⟨1,x,by omega,by omega,rfl,by congr 1 <;> omega,zh ⟨by rw[HT.o.1];rfl,rfl⟩⟩
     case round=>
      obtain⟨m,y,hm1,hm,rfl,rfl,HM⟩:=hrel;obtain⟨hy,rfl⟩:=HM.o;have gR:=gL x ((s.take m).drop 1);rw[<-hy,dQ,dq]at gR
      by_cases hmk:m < 2
      ·skip
       have wX :decide ((m:Int) < 2)=true:=bz (by omega);have hms:m < s.length:=by have:=HT.o.2;omega
       have sX:y < 33554432:=by
        refine kB gR ?_;refine cH (lR (show x+1<=256 by omega) (lQ (by omega) (show min m s.length - 1<=2 by omega))) ?_;omega
       obtain⟨c,hc⟩:∃c,s[m]=c:=⟨_,rfl⟩;have ix:∀h:m < S.size,S[m]'h=c:=λh=>by rw[gV HS.o.1 hms h,hc]
       have Cf:=zh (qR (x:=x) hm1 hms hc hy);obtain⟨d,hd⟩:∃d,c.toNat % 64=d:=⟨_,rfl⟩;have Ow:d < 64:=by omega
       have ht:(c.toNat:Int).tmod 64=(d:Int):=by rw[rC (by omega)];omega
       rw[hd]at Cf;have N_:(m:Int) < s.length:=by omega
       have NV:=zh (show Value.int .i32 (RowKit.wrap32 (64*(y:Int)+RowKit.wrap32 ((RowKit.wrap64 (c.toNat:Int)).tmod 64)))=Value.int .i32 ((64*y+d:Nat):Int)by
        rw[show RowKit.wrap64 (c.toNat:Int)=c.toNat by unfold RowKit.wrap64;have:=c.toNat_lt;omega,ht,show RowKit.wrap32 (d:Int)=d by unfold RowKit.wrap32;omega,show RowKit.wrap32 (64*(y:Int)+d)=64*y+d by unfold RowKit.wrap32;omega]
        congr 1)
       clear gR hc hd hy HM ht
       go_wp2_with fail
       all_goals exact⟨⟨m+1,64*y+d,by omega,by omega,by go_num,NV.o,zh ⟨Cf.o,trivial⟩⟩,by simp[intOf];omega⟩
      ·obtain rfl:m=2:=by omega
       have HY:=zh (show y=qO (s.take 2)by
        rw[hy];exact pW HT.o.1 HT.o.2 (by omega) HX.o)
       have sX:y<=2147483647:=by
        refine cH (kV gR) ?_;refine cH (lR (show x+1<=256 by omega) (lQ (by omega) (show min 2 s.length - 1<=3 by omega))) ?_;omega
       clear gR hy HM;have oh:=zh (show(iU y/\cF y=s.take 2)↔fN (s.take 2)by rw[HY.o];exact mP.symm);have hks:(2:Int)<=s.length:=by have:=HT.o.2;omega
       go_wp2_with fail
       by_cases hy0:y=0
       ·have HN:=zh (show¬fN (s.take 2)from λh=>by have:=(oh.o.2 h).1.1;omega)
        subst hy0;refine aB _ (by kernel_rfl) rfl (by kernel_rfl) ?_
        iterate 3
         refine ls ?_;simp only[af]
        iterate 2
         refine lo ?_;simp only[af]
        iterate 2
         refine ls ?_;simp only[af]
        iterate 6
         refine lo ?_;simp only[af]
        refine ls ?_;simp only[af];refine aq (λW vals hW ag=> ?_);simp only[aw]at ag
        try simp only[ai]at ag
        simp only[fill,Act.put,bo,bn,bh];clear ag;have HZ:=zh hW;clear hW
        go_wp2_with fail
        exact⟨⟨2+1,by omega,by omega,by go_num,zh (HR.o.next HN.o HZ.o)⟩,by simp[intOf]⟩
       ·have hyp:0 < y:=by omega
        by_cases hm:iU y
        ·have ny:=zh hm
         have sZ:jk y=true:=by
          unfold jk;have:=hm.2;simp only[kW,cR,fA];exact this
         obtain⟨S2,pH⟩:∃S2:ByteArray,(⟨(cF y).toArray⟩:ByteArray)=S2:=⟨_,rfl⟩;obtain⟨S3,zo⟩:∃S3,S.extract 0 2=S3:=⟨_,rfl⟩;have e2:S2.toList=cF y:=by rw[<-pH,Lib.toList_data]
         have e3:S3.toList=s.take 2:=by rw[<-zo,<-HS.o.1,gC,Lib.toList_data];simp
         obtain⟨fb,q7⟩:∃fb:Bool,fb=decide (cF y=s.take 2):=⟨_,rfl⟩;have hcmp:(S2.toList==S3.toList)=fb:=by
          rw[e2,e3,q7,lP];simp
         have HF:=zh q7;have DR:=zh pH;have DU:=zh sZ;clear hm e2 e3 q7 pH sZ;refine aB _ (by kernel_rfl) rfl (by kernel_rfl) ?_
         iterate 4
          refine ls ?_;simp only[af]
         apply ak
         ·intro W vals hW ag
          clear ag;refine⟨?_⟩;simp only[fill];go_simp;refine aC ?_;exact(jU W y).mono (by rintro e w3 ⟨rfl,rfl⟩;exact⟨_,rfl,ae.refl _ _,(by rw[DU.o])⟩)
         iterate 3
          simp only[af];refine ls ?_
         simp only[af];apply ak
         ·intro W vals hW ag
          clear ag;refine⟨?_⟩;simp only[fill];go_simp;refine aC ?_;exact(rY W y (by have:=ny.o.2;omega)).mono (by rintro e w3 ⟨rfl,hk⟩;exact⟨_,rfl,hk,(by rw[DR.o])⟩)
         iterate 5
          simp only[af];refine ls ?_
         simp only[af];refine aq (λW vals hW ag=> ?_);simp only[aw]at ag
         try simp only[ai]at ag
         simp only[fill,Act.put,bo,bn,bh];clear ag;have HZ:=zh hW;clear hW
         cases fb with
         | true=>
          go_wp2_with fail
          go_ret2
          have hu:cP s=2:=ia (by omega) (by omega) (λj h1 h2=>HR.o.n j h1 h2) ⟨HT.o.2,oh.o.1 ⟨ny.o,qj HF.o.symm⟩⟩;exact⟨y,by rw[hu];rfl,λ_=>by rw[hu];exact HY.o,HR.o.k.ah HZ.o⟩
         | false=>
          have HN:=zh (show¬fN (s.take 2)from λh=>by
           have e:=(oh.o.2 h).2;have f:=HF.o;rw[bz e]at f
           cases f)
          go_wp2_with fail
          exact⟨⟨2+1,by omega,by omega,by go_num,zh (HR.o.next HN.o HZ.o)⟩,by simp[intOf]⟩
        ·have HN:=zh (show¬fN (s.take 2)from λh=>hm (oh.o.2 h).1)
         have sZ:jk y=false:=by
          rw[<-Bool.not_eq_true];unfold jk;simp only[kW,cR,fA];exact λh=>hm ⟨by omega,h⟩
         have DU:=zh sZ;clear hm sZ;refine aB _ (by kernel_rfl) rfl (by kernel_rfl) ?_
         iterate 4
          refine ls ?_;simp only[af]
         apply ak
         ·intro W vals hW ag
          clear ag;refine⟨?_⟩;simp only[fill];go_simp;refine aC ?_;exact(jU W y).mono (by rintro e w3 ⟨rfl,rfl⟩;exact⟨_,rfl,ae.refl _ _,(by rw[DU.o])⟩)
         iterate 2
          simp only[af];refine ls ?_
         iterate 6
          simp only[af];refine lo ?_
         simp only[af];refine ls ?_;simp only[af];refine aq (λW vals hW ag=> ?_);simp only[aw]at ag
         try simp only[ai]at ag
         simp only[fill,Act.put,bo,bn,bh];clear ag;have HZ:=zh hW;clear hW
         go_wp2_with fail
         exact⟨⟨2+1,by omega,by omega,by go_num,zh (HR.o.next HN.o HZ.o)⟩,by simp[intOf]⟩
    ·have HN:=zh (rZ HT.o.1 HT.o.2 (by omega) (show¬(dw 2<=a.toNat/\a.toNat < mN 2)from hr))
     have LX:=a.toNat_lt;have hbb:(decide ((a.toNat:Int) < 192) || decide ((a.toNat:Int)>=224))=true:=by simp;omega
     clear hat hl hr
     go_wp2_with fail
     all_goals exact⟨⟨2+1,by omega,by omega,by go_num,zh (HR.o.next HN.o (ae.refl _ _))⟩,by simp[intOf]⟩
  ·skip
   by_cases hl:s.length < 3
   ·have hlb:decide ((3:Int)<=s.length)=false:=aZ (by omega)
    have HL:=zh hl;clear hl
    go_wp2_with fail
    go_ret2
    have hu:cP s=0:=ja (λj h1 h2 h3=>by
     have:=HL.o
     rcases eS j 3 with h | h
     ·exact HR.o.n j h1 h h3
     ·omega)
    exact⟨0,by rw[hu];rfl,λh=>absurd hu h,HR.o.k⟩
   ·have hlb:decide ((3:Int)<=s.length)=true:=bz (by omega)
    have hpos:0 < s.length:=by omega
    obtain⟨a,t,hat⟩:∃a t,s=a::t:=by
     cases s with
     | nil=>simp at hpos
     | cons a t=>exact⟨a,t,rfl⟩
    have HT:=zh (And.intro hat (show 3<=s.length by omega));have ha:∀h:0 < S.size,S[0]'h=a:=λh=>by
     rw[gV HS.o.1 hpos h];simp[hat]
    by_cases hr:224<=a.toNat/\a.toNat < 240
    ·obtain⟨hr1,hr2⟩:=hr
     have f1:decide ((a.toNat:Int) < 224)=false:=aZ (by omega);have f2:decide ((a.toNat:Int)>=240)=false:=aZ (by omega);have f3:decide ((240:Int)<=a.toNat)=false:=aZ (by omega);obtain⟨x,hx⟩:∃x,a.toNat - 224=x:=⟨_,rfl⟩;have QQ:((a.toNat:Int) - 224)=x:=by omega
     have HX:=zh hx;have vX:x<=255:=by have:=a.toNat_lt;omega
     have HA:=zh (And.intro hr1 hr2);clear hat hl hx hr1 hr2
     go_wp2_with fail
     go_loopw [8,9] (λr i W=>∃m y:Nat,1<=m/\m<=3/\i= .int .i64 m/\r= .int .i32 (y:Int)/\Hid (y=dS x ((s.take m).drop 1)/\wr=W)) (λ_ i _=>3 - (intOf i).toNat)
     case atStart=>exact⟨1,x,by omega,by omega,rfl,by congr 1 <;> omega,zh ⟨by rw[HT.o.1];rfl,rfl⟩⟩
     case round=>
      obtain⟨m,y,hm1,hm,rfl,rfl,HM⟩:=hrel;obtain⟨hy,rfl⟩:=HM.o;have gR:=gL x ((s.take m).drop 1);rw[<-hy,dQ,dq]at gR
      by_cases hmk:m < 3
      ·skip
       have wX :decide ((m:Int) < 3)=true:=bz (by omega);have hms:m < s.length:=by have:=HT.o.2;omega
       have sX:y < 33554432:=by
        refine kB gR ?_;refine cH (lR (show x+1<=256 by omega) (lQ (by omega) (show min m s.length - 1<=2 by omega))) ?_;omega
       obtain⟨c,hc⟩:∃c,s[m]=c:=⟨_,rfl⟩;have ix:∀h:m < S.size,S[m]'h=c:=λh=>by rw[gV HS.o.1 hms h,hc]
       have Cf:=zh (qR (x:=x) hm1 hms hc hy);obtain⟨d,hd⟩:∃d,c.toNat % 64=d:=⟨_,rfl⟩;have Ow:d < 64:=by omega
       have ht:(c.toNat:Int).tmod 64=(d:Int):=by rw[rC (by omega)];omega
       rw[hd]at Cf;have N_:(m:Int) < s.length:=by omega
       have NV:=zh (show Value.int .i32 (RowKit.wrap32 (64*(y:Int)+RowKit.wrap32 ((RowKit.wrap64 (c.toNat:Int)).tmod 64)))=Value.int .i32 ((64*y+d:Nat):Int)by
        rw[show RowKit.wrap64 (c.toNat:Int)=c.toNat by unfold RowKit.wrap64;have:=c.toNat_lt;omega,ht,show RowKit.wrap32 (d:Int)=d by unfold RowKit.wrap32;omega,show RowKit.wrap32 (64*(y:Int)+d)=64*y+d by unfold RowKit.wrap32;omega]
        congr 1)
       clear gR hc hd hy HM ht
       go_wp2_with fail
       all_goals exact⟨⟨m+1,64*y+d,by omega,by omega,by go_num,NV.o,zh ⟨Cf.o,trivial⟩⟩,by simp[intOf];omega⟩
      ·obtain rfl:m=3:=by omega
       have HY:=zh (show y=qO (s.take 3)by
        rw[hy];exact pW HT.o.1 HT.o.2 (by omega) HX.o)
       have sX:y<=2147483647:=by
        refine cH (kV gR) ?_;refine cH (lR (show x+1<=256 by omega) (lQ (by omega) (show min 3 s.length - 1<=3 by omega))) ?_;omega
       clear gR hy HM;have oh:=zh (show(iU y/\cF y=s.take 3)↔fN (s.take 3)by rw[HY.o];exact mP.symm);have hks:(3:Int)<=s.length:=by have:=HT.o.2;omega
       go_wp2_with fail
       by_cases hy0:y=0
       ·have HN:=zh (show¬fN (s.take 3)from λh=>by have:=(oh.o.2 h).1.1;omega)
        subst hy0;refine aB _ (by kernel_rfl) rfl (by kernel_rfl) ?_
        iterate 3
         refine ls ?_;simp only[af]
        iterate 2
         refine lo ?_;simp only[af]
        iterate 2
         refine ls ?_;simp only[af]
        iterate 6
         refine lo ?_;simp only[af]
        refine ls ?_;simp only[af];refine aq (λW vals hW ag=> ?_);simp only[aw]at ag
        try simp only[ai]at ag
        simp only[fill,Act.put,bo,bn,bh];clear ag;have HZ:=zh hW;clear hW
        go_wp2_with fail
        exact⟨⟨3+1,by omega,by omega,by go_num,zh (HR.o.next HN.o HZ.o)⟩,by simp[intOf]⟩
       ·have hyp:0 < y:=by omega
        by_cases hm:iU y
        ·have ny:=zh hm
         have sZ:jk y=true:=by
          unfold jk;have:=hm.2;simp only[kW,cR,fA];exact this
         obtain⟨S2,pH⟩:∃S2:ByteArray,(⟨(cF y).toArray⟩:ByteArray)=S2:=⟨_,rfl⟩;obtain⟨S3,zo⟩:∃S3,S.extract 0 3=S3:=⟨_,rfl⟩;have e2:S2.toList=cF y:=by rw[<-pH,Lib.toList_data]
         have e3:S3.toList=s.take 3:=by rw[<-zo,<-HS.o.1,gC,Lib.toList_data];simp
         obtain⟨fb,q7⟩:∃fb:Bool,fb=decide (cF y=s.take 3):=⟨_,rfl⟩;have hcmp:(S2.toList==S3.toList)=fb:=by
          rw[e2,e3,q7,lP];simp
         have HF:=zh q7;have DR:=zh pH;have DU:=zh sZ;clear hm e2 e3 q7 pH sZ;refine aB _ (by kernel_rfl) rfl (by kernel_rfl) ?_
         iterate 4
          refine ls ?_;simp only[af]
         apply ak
         ·intro W vals hW ag
          clear ag;refine⟨?_⟩;simp only[fill];go_simp;refine aC ?_;exact(jU W y).mono (by rintro e w3 ⟨rfl,rfl⟩;exact⟨_,rfl,ae.refl _ _,(by rw[DU.o])⟩)
         iterate 3
          simp only[af];refine ls ?_
         simp only[af];apply ak
         ·intro W vals hW ag
          clear ag;refine⟨?_⟩;simp only[fill];go_simp;refine aC ?_;exact(rY W y (by have:=ny.o.2;omega)).mono (by rintro e w3 ⟨rfl,hk⟩;exact⟨_,rfl,hk,(by rw[DR.o])⟩)
         iterate 5
          simp only[af];refine ls ?_
         simp only[af];refine aq (λW vals hW ag=> ?_);simp only[aw]at ag
         try simp only[ai]at ag
         simp only[fill,Act.put,bo,bn,bh];clear ag;have HZ:=zh hW;clear hW
         cases fb with
         | true=>
          go_wp2_with fail
          go_ret2
          have hu:cP s=3:=ia (by omega) (by omega) (λj h1 h2=>HR.o.n j h1 h2) ⟨HT.o.2,oh.o.1 ⟨ny.o,qj HF.o.symm⟩⟩;exact⟨y,by rw[hu];rfl,λ_=>by rw[hu];exact HY.o,HR.o.k.ah HZ.o⟩
         | false=>
          have HN:=zh (show¬fN (s.take 3)from λh=>by
           have e:=(oh.o.2 h).2;have f:=HF.o;rw[bz e]at f
           cases f)
          go_wp2_with fail
          exact⟨⟨3+1,by omega,by omega,by go_num,zh (HR.o.next HN.o HZ.o)⟩,by simp[intOf]⟩
        ·have HN:=zh (show¬fN (s.take 3)from λh=>hm (oh.o.2 h).1)
         have sZ:jk y=false:=by
          rw[<-Bool.not_eq_true];unfold jk;simp only[kW,cR,fA];exact λh=>hm ⟨by omega,h⟩
         have DU:=zh sZ;clear hm sZ;refine aB _ (by kernel_rfl) rfl (by kernel_rfl) ?_
         iterate 4
          refine ls ?_;simp only[af]
         apply ak
         ·intro W vals hW ag
          clear ag;refine⟨?_⟩;simp only[fill];go_simp;refine aC ?_;exact(jU W y).mono (by rintro e w3 ⟨rfl,rfl⟩;exact⟨_,rfl,ae.refl _ _,(by rw[DU.o])⟩)
         iterate 2
          simp only[af];refine ls ?_
         iterate 6
          simp only[af];refine lo ?_
         simp only[af];refine ls ?_;simp only[af];refine aq (λW vals hW ag=> ?_);simp only[aw]at ag
         try simp only[ai]at ag
         simp only[fill,Act.put,bo,bn,bh];clear ag;have HZ:=zh hW;clear hW
         go_wp2_with fail
         exact⟨⟨3+1,by omega,by omega,by go_num,zh (HR.o.next HN.o HZ.o)⟩,by simp[intOf]⟩
    ·have HN:=zh (rZ HT.o.1 HT.o.2 (by omega) (show¬(dw 3<=a.toNat/\a.toNat < mN 3)from hr))
     have LX:=a.toNat_lt;have hbb:(decide ((a.toNat:Int) < 224) || decide ((a.toNat:Int)>=240))=true:=by simp;omega
     clear hat hl hr
     go_wp2_with fail
     all_goals exact⟨⟨3+1,by omega,by omega,by go_num,zh (HR.o.next HN.o (ae.refl _ _))⟩,by simp[intOf]⟩
  ·skip
   by_cases hl:s.length < 4
   ·have hlb:decide ((4:Int)<=s.length)=false:=aZ (by omega)
    have HL:=zh hl;clear hl
    go_wp2_with fail
    go_ret2
    have hu:cP s=0:=ja (λj h1 h2 h3=>by
     have:=HL.o
     rcases eS j 4 with h | h
     ·exact HR.o.n j h1 h h3
     ·omega)
    exact⟨0,by rw[hu];rfl,λh=>absurd hu h,HR.o.k⟩
   ·have hlb:decide ((4:Int)<=s.length)=true:=bz (by omega)
    have hpos:0 < s.length:=by omega
    obtain⟨a,t,hat⟩:∃a t,s=a::t:=by
     cases s with
     | nil=>simp at hpos
     | cons a t=>exact⟨a,t,rfl⟩
    have HT:=zh (And.intro hat (show 4<=s.length by omega));have ha:∀h:0 < S.size,S[0]'h=a:=λh=>by
     rw[gV HS.o.1 hpos h];simp[hat]
    by_cases hr:240<=a.toNat/\a.toNat < 248
    ·obtain⟨hr1,hr2⟩:=hr
     have f1:decide ((a.toNat:Int) < 240)=false:=aZ (by omega);have f2:decide ((a.toNat:Int)>=248)=false:=aZ (by omega);have f3:decide ((248:Int)<=a.toNat)=false:=aZ (by omega);obtain⟨x,hx⟩:∃x,a.toNat - 240=x:=⟨_,rfl⟩;have QQ:((a.toNat:Int) - 240)=x:=by omega
     have HX:=zh hx;have vX:x<=255:=by have:=a.toNat_lt;omega
     have HA:=zh (And.intro hr1 hr2);clear hat hl hx hr1 hr2
     go_wp2_with fail
     go_loopw [8,9] (λr i W=>∃m y:Nat,1<=m/\m<=4/\i= .int .i64 m/\r= .int .i32 (y:Int)/\Hid (y=dS x ((s.take m).drop 1)/\wr=W)) (λ_ i _=>4 - (intOf i).toNat)
     case atStart=>exact⟨1,x,by omega,by omega,rfl,by congr 1 <;> omega,zh ⟨by rw[HT.o.1];rfl,rfl⟩⟩
     case round=>
      obtain⟨m,y,hm1,hm,rfl,rfl,HM⟩:=hrel;obtain⟨hy,rfl⟩:=HM.o;have gR:=gL x ((s.take m).drop 1);rw[<-hy,dQ,dq]at gR
      by_cases hmk:m < 4
      ·skip
       have wX :decide ((m:Int) < 4)=true:=bz (by omega);have hms:m < s.length:=by have:=HT.o.2;omega
       have sX:y < 33554432:=by
        refine kB gR ?_;refine cH (lR (show x+1<=256 by omega) (lQ (by omega) (show min m s.length - 1<=2 by omega))) ?_;omega
       obtain⟨c,hc⟩:∃c,s[m]=c:=⟨_,rfl⟩;have ix:∀h:m < S.size,S[m]'h=c:=λh=>by rw[gV HS.o.1 hms h,hc]
       have Cf:=zh (qR (x:=x) hm1 hms hc hy);obtain⟨d,hd⟩:∃d,c.toNat % 64=d:=⟨_,rfl⟩;have Ow:d < 64:=by omega
       have ht:(c.toNat:Int).tmod 64=(d:Int):=by rw[rC (by omega)];omega
       rw[hd]at Cf;have N_:(m:Int) < s.length:=by omega
       have NV:=zh (show Value.int .i32 (RowKit.wrap32 (64*(y:Int)+RowKit.wrap32 ((RowKit.wrap64 (c.toNat:Int)).tmod 64)))=Value.int .i32 ((64*y+d:Nat):Int)by
        rw[show RowKit.wrap64 (c.toNat:Int)=c.toNat by unfold RowKit.wrap64;have:=c.toNat_lt;omega,ht,show RowKit.wrap32 (d:Int)=d by unfold RowKit.wrap32;omega,show RowKit.wrap32 (64*(y:Int)+d)=64*y+d by unfold RowKit.wrap32;omega]
        congr 1)
       clear gR hc hd hy HM ht
       go_wp2_with fail
       all_goals exact⟨⟨m+1,64*y+d,by omega,by omega,by go_num,NV.o,zh ⟨Cf.o,trivial⟩⟩,by simp[intOf];omega⟩
      ·obtain rfl:m=4:=by omega
       have HY:=zh (show y=qO (s.take 4)by
        rw[hy];exact pW HT.o.1 HT.o.2 (by omega) HX.o)
       have sX:y<=2147483647:=by
        refine cH (kV gR) ?_;refine cH (lR (show x+1<=256 by omega) (lQ (by omega) (show min 4 s.length - 1<=3 by omega))) ?_;omega
       clear gR hy HM;have oh:=zh (show(iU y/\cF y=s.take 4)↔fN (s.take 4)by rw[HY.o];exact mP.symm);have hks:(4:Int)<=s.length:=by have:=HT.o.2;omega
       go_wp2_with fail
       by_cases hy0:y=0
       ·have HN:=zh (show¬fN (s.take 4)from λh=>by have:=(oh.o.2 h).1.1;omega)
        subst hy0;refine aB _ (by kernel_rfl) rfl (by kernel_rfl) ?_
        iterate 3
         refine ls ?_;simp only[af]
        iterate 2
         refine lo ?_;simp only[af]
        iterate 2
         refine ls ?_;simp only[af]
        iterate 6
         refine lo ?_;simp only[af]
        refine ls ?_;simp only[af];refine aq (λW vals hW ag=> ?_);simp only[aw]at ag
        try simp only[ai]at ag
        simp only[fill,Act.put,bo,bn,bh];clear ag;have HZ:=zh hW;clear hW
        go_wp2_with fail
        exact⟨⟨4+1,by omega,by omega,by go_num,zh (HR.o.next HN.o HZ.o)⟩,by simp[intOf]⟩
       ·have hyp:0 < y:=by omega
        by_cases hm:iU y
        ·have ny:=zh hm
         have sZ:jk y=true:=by
          unfold jk;have:=hm.2;simp only[kW,cR,fA];exact this
         obtain⟨S2,pH⟩:∃S2:ByteArray,(⟨(cF y).toArray⟩:ByteArray)=S2:=⟨_,rfl⟩;obtain⟨S3,zo⟩:∃S3,S.extract 0 4=S3:=⟨_,rfl⟩;have e2:S2.toList=cF y:=by rw[<-pH,Lib.toList_data]
         have e3:S3.toList=s.take 4:=by rw[<-zo,<-HS.o.1,gC,Lib.toList_data];simp
         obtain⟨fb,q7⟩:∃fb:Bool,fb=decide (cF y=s.take 4):=⟨_,rfl⟩;have hcmp:(S2.toList==S3.toList)=fb:=by
          rw[e2,e3,q7,lP];simp
         have HF:=zh q7;have DR:=zh pH;have DU:=zh sZ;clear hm e2 e3 q7 pH sZ;refine aB _ (by kernel_rfl) rfl (by kernel_rfl) ?_
         iterate 4
          refine ls ?_;simp only[af]
         apply ak
         ·intro W vals hW ag
          clear ag;refine⟨?_⟩;simp only[fill];go_simp;refine aC ?_;exact(jU W y).mono (by rintro e w3 ⟨rfl,rfl⟩;exact⟨_,rfl,ae.refl _ _,(by rw[DU.o])⟩)
         iterate 3
          simp only[af];refine ls ?_
         simp only[af];apply ak
         ·intro W vals hW ag
          clear ag;refine⟨?_⟩;simp only[fill];go_simp;refine aC ?_;exact(rY W y (by have:=ny.o.2;omega)).mono (by rintro e w3 ⟨rfl,hk⟩;exact⟨_,rfl,hk,(by rw[DR.o])⟩)
         iterate 5
          simp only[af];refine ls ?_
         simp only[af];refine aq (λW vals hW ag=> ?_);simp only[aw]at ag
         try simp only[ai]at ag
         simp only[fill,Act.put,bo,bn,bh];clear ag;have HZ:=zh hW;clear hW
         cases fb with
         | true=>
          go_wp2_with fail
          go_ret2
          have hu:cP s=4:=ia (by omega) (by omega) (λj h1 h2=>HR.o.n j h1 h2) ⟨HT.o.2,oh.o.1 ⟨ny.o,qj HF.o.symm⟩⟩;exact⟨y,by rw[hu];rfl,λ_=>by rw[hu];exact HY.o,HR.o.k.ah HZ.o⟩
         | false=>
          have HN:=zh (show¬fN (s.take 4)from λh=>by
           have e:=(oh.o.2 h).2;have f:=HF.o;rw[bz e]at f
           cases f)
          go_wp2_with fail
          exact⟨⟨4+1,by omega,by omega,by go_num,zh (HR.o.next HN.o HZ.o)⟩,by simp[intOf]⟩
        ·have HN:=zh (show¬fN (s.take 4)from λh=>hm (oh.o.2 h).1)
         have sZ:jk y=false:=by
          rw[<-Bool.not_eq_true];unfold jk;simp only[kW,cR,fA];exact λh=>hm ⟨by omega,h⟩
         have DU:=zh sZ;clear hm sZ;refine aB _ (by kernel_rfl) rfl (by kernel_rfl) ?_
         iterate 4
          refine ls ?_;simp only[af]
         apply ak
         ·intro W vals hW ag
          clear ag;refine⟨?_⟩;simp only[fill];go_simp;refine aC ?_;exact(jU W y).mono (by rintro e w3 ⟨rfl,rfl⟩;exact⟨_,rfl,ae.refl _ _,(by rw[DU.o])⟩)
         iterate 2
          simp only[af];refine ls ?_
         iterate 6
          simp only[af];refine lo ?_
         simp only[af];refine ls ?_;simp only[af];refine aq (λW vals hW ag=> ?_);simp only[aw]at ag
         try simp only[ai]at ag
         simp only[fill,Act.put,bo,bn,bh];clear ag;have HZ:=zh hW;clear hW
         go_wp2_with fail
         exact⟨⟨4+1,by omega,by omega,by go_num,zh (HR.o.next HN.o HZ.o)⟩,by simp[intOf]⟩
    ·have HN:=zh (rZ HT.o.1 HT.o.2 (by omega) (show¬(dw 4<=a.toNat/\a.toNat < mN 4)from hr))
     have LX:=a.toNat_lt;have hbb:(decide ((a.toNat:Int) < 240) || decide ((a.toNat:Int)>=248))=true:=by simp;omega
     clear hat hl hr
     go_wp2_with fail
     all_goals exact⟨⟨4+1,by omega,by omega,by go_num,zh (HR.o.next HN.o (ae.refl _ _))⟩,by simp[intOf]⟩
  ·go_wp2_with fail
   go_ret2
   have hu:cP s=0:=ja HR.o.n;exact⟨0,by rw[hu];rfl,λh=>absurd hu h,HR.o.k⟩
end Go.Proofs.YtahbikfbjenfpaaGreatDoor

namespace Go.Proofs.YtahbikfbjenfpaaGreatDoor
open Tryz Go.RowKit Go.Maps Go.Shelf

def D9 (x:Int):List Value:= [.int .i32 x]
theorem J7:Ch 1 D9:=⟨by omega,λ_=>rfl,λa u hu=>by obtain rfl:=List.mem_singleton.1 hu;rfl⟩
theorem Hn:sV prog 154 21 1:=pL (bytes:=4) (z:= .int .i32 0) (by kernel_rfl) (by kernel_rfl) (by omega) rfl
structure Kf (w wr:au)(s:aG)(k:Nat)(v:Value)(l:List Int):Prop where
 g:fB s=fB (s.drop k)
 ln:l.length<=k
 o:dn wr w.heap.size 21 1 D9 v l
 k:ae w wr []
def DK (w:au)(s:aG)(e:Ending)(w' :au):Prop:=∃(v:Value) (a:Int),e= .returned (.tuple #[v,.int .i64 a])/\(if fB s=true then a= -1 else 0<=a)/\ae w w' []
theorem Kf.next {w wr w1 w2 w3:au}{s:aG}{k m:Nat}{v v' :Value}{l:List Int}{r:Int}(h:Kf w wr s k v l)(hm:cP (s.drop k)=m)(hm0:m≠0)(hk:k < s.length)(k1:ae wr w1 [])(k2:ae w1 w2 [])(ho:dn w3 w.heap.size 21 1 D9 v' (l++ [r]))(k3:ae w2 w3 v.ownBlock.toList):Kf w w3 s (k+m) v' (l++ [r]):=by
 refine⟨?_, ?_,ho, ?_⟩
 ·rw[h.g,qN (s:=s.drop k) (λe=>by have:=ek List.length e;rw[dQ,dR]at this;omega),hm,aj hm0,List.drop_drop]
 ·have:=h.ln
  rw[bI,List.length_singleton];omega
 ·refine((h.k.ah k1).ah k2).trans k3 λx hx hlt=> ?_
  have:=(h.o.rows x hx).1;omega
theorem vH (w:au)(s:aG)(hs:s.length<=60000):Calls prog 147 #[.string ⟨s.toArray⟩] w (DK w s):=by
 obtain⟨S,hS⟩:∃S:ByteArray,(⟨s.toArray⟩:ByteArray)=S:=⟨_,rfl⟩;have hsz:S.size=s.length:=by rw[<-hS];rfl
 have HS:=zh (And.intro hS hsz);rw[hS];clear hS
 go_enter func147,ntmps147
 go_wp2_with fail
 go_loopw [4,5] (λout i wr=>∃(k n c:Nat) (A:Option Addr) (l:List Int),k<=s.length/\i= .int .i64 k/\out= .slice A n c/\Hid (Kf w wr s k (.slice A n c) l)) (λ_ i _=>s.length - (intOf i).toNat)
 case atStart=>exact⟨0,0,0,none, [],by omega,rfl,rfl,zh ⟨rfl,by simp,dn.nil _ _ _ _ _,ae.refl _ _⟩⟩
 case round=>
  obtain⟨k,n,c,A,l,hk,rfl,rfl,HR⟩:=hrel;have hsl:=HS.o.2
  by_cases hlt:k < s.length
  ·obtain⟨T,hT⟩:∃T,S.extract k S.size=T:=⟨_,rfl⟩
   have OA :(⟨(s.drop k).toArray⟩:ByteArray)=T:=by
    rw[<-hT,<-HS.o.1,gC,qD];rw[dQ];show s.length - k<=s.length - k;omega
   have HF:=zh (show∀w,Calls prog 162 #[.string T] w (IP w (s.drop k))from λw=>by
    rw[<-OA];exact Cv w _ (by rw[dQ];omega))
   rw[hsz]at hT;have hkl:(k:Int)<=s.length:=by omega
   obtain⟨m,hm⟩:∃m,cP (s.drop k)=m:=⟨_,rfl⟩;have LK:=(uY (s.drop k)).1;rw[hm,dQ]at LK;have HM:=zh (And.intro hm hlt);clear OA
   go_wp2_with fail
   refine(HF.o _).mono ?_;rintro e w1 ⟨r,rfl,_,hk1⟩;rw[hm];have kU:=zh hk1;clear hk1 hm hT
   by_cases hm0:m=0
   ·have hme:((m:Int)==0)=true:=by simp[hm0]
    go_wp2_with fail
    go_ret2
    have hu:fB s=false:=by
     rw[HR.o.g,qN (s:=s.drop k) (λe=>by have:=ek List.length e;rw[dQ,dR]at this;have:=HM.o.2;omega),HM.o.1,aE hm0]
    exact⟨_,_,rfl,by rw[hu];simp,HR.o.k.ah kU.o⟩
   ·have hme:((m:Int)==0)=false:=by simpa using hm0
    have WG:decide ((k:Int)+m > 65535)=false:=aZ (by omega);obtain⟨Wa,FB⟩:∃Wa,w1.alloc (.cells #[.int .i32 (r:Int)] 21)=Wa:=⟨_,rfl⟩;have ra:Row Wa w1.heap.size 21 #[.int .i32 (r:Int)]:=by rw[<-FB];exact Row.new _ _ _
    have ka:ae w1 Wa []:=by rw[<-FB];exact ae.alloc _ _
    have Er:=zh (show cG Wa Wa.heap.size (some ⟨w1.heap.size,0,none⟩) ([(r:Int)].flatMap D9)from fJ ra rfl);have HA:=zh (And.intro ka (And.intro ((HR.o.o.keeps kU.o).keeps ka) ((HR.o.k.ah kU.o).ah ka)));clear ra ka
    go_wp2_with (at_builtin;refine eG Hn J7 rfl (.tmp 28) (.tmp 30) rfl w.heap.size (.slice A n c) (some ⟨w1.heap.size,0,none⟩) 1 1 l [(r:Int)] rfl rfl rfl HA.o.2.1 Er.o (by have:=HR.o.ln;simp;omega) HA.o.2.2.size ?_;intro A5 c5 w5 l5 Ei G9 nz iH _;have H5:=zh (And.intro Ei.o (And.intro nz iH));clear Ei nz iH G9)
    exact⟨⟨k+m,_,c5,A5,l++ [(r:Int)],by omega,by go_num,rfl,zh (by rw[<-H5.o.1];have:=H5.o.2.1;rw[H5.o.1]at this ⊢;exact HR.o.next HM.o.1 hm0 HM.o.2 kU.o HA.o.1 this H5.o.2.2)⟩,by simp[intOf];omega⟩
  ·obtain rfl:k=s.length:=by omega
   go_wp2_with fail
   go_ret2
   have hu:fB s=true:=by rw[HR.o.g,List.drop_length];rfl
   exact⟨_,_,rfl,by rw[aE hu],HR.o.k⟩
end Go.Proofs.YtahbikfbjenfpaaGreatDoor

namespace Go.Proofs.YtahbikfbjenfpaaGreatDoor
open Tryz Go.RowKit Go.Shelf

theorem xP (w:au)(s:aG)(hs:s.length<=60000):Calls prog 93 #[.string ⟨s.toArray⟩] w λe w' =>e= .returned (.bool (gU s))/\ae w w' []:=by
 obtain⟨S,hS⟩:∃S:ByteArray,(⟨s.toArray⟩:ByteArray)=S:=⟨_,rfl⟩;have hz:S.size=s.length:=by rw[<-hS];rfl
 have HR:=zh (show∀w:au,Calls prog 147 #[.string S] w (DK w s)from λw=>by
  rw[<-hS];exact vH w s hs)
 rw[hS];clear hS
 by_cases h0:s.length < 1
 ·have HT:=zh (show gU s=false by unfold gU;simp;omega)
  go_enter func93,ntmps93
  go_wp2_with fail
  go_ret;exact⟨by rw[HT.o];rfl,ae.refl _ _⟩
 ·by_cases h2:200 < s.length
  ·have HT:=zh (show gU s=false by unfold gU;simp;omega)
   have hp:0 < s.length:=by omega
   clear h0
   go_enter func93,ntmps93
   go_wp2_with fail
   go_ret;exact⟨by rw[HT.o];rfl,ae.refl _ _⟩
  ·have HT:=zh (show gU s=fB s by
    unfold gU;rw[bz (by omega),bz (by omega)];rfl)
   have hp:0 < s.length:=by omega
   have hq:s.length<=200:=by omega
   clear h0 h2
   go_enter func93,ntmps93
   go_wp2_with fail
   refine(HR.o _).mono ?_;rintro e w1 ⟨v,a,rfl,ha,hk⟩;have HK:=zh hk;clear hk
   cases hg:fB s with
   | true=>
    rw[hg,aE rfl]at ha;subst ha;rw[hg]at HT;clear hg
    go_wp2_with fail
    go_ret;exact⟨by rw[HT.o];rfl,HK.o⟩
   | false=>
    rw[hg,aj (by simp)]at ha;rw[hg]at HT;have hb:decide (a < 0)=false:=aZ (by omega);clear hg ha
    go_wp2_with fail
    go_ret;exact⟨by rw[HT.o];rfl,HK.o⟩
theorem ma (s:aG):(jh s=0)↔gT s=false:=by
 unfold jh gT;rw[List.countP_eq_zero,List.any_eq_false]
theorem xQ (w:au)(s:aG)(hs:s.length<=60000):Calls prog 27 #[.string ⟨s.toArray⟩] w λe w' =>e= .returned (.bool (fW s))/\ae w w' []:=by
 obtain⟨S,hS⟩:∃S:ByteArray,(⟨s.toArray⟩:ByteArray)=S:=⟨_,rfl⟩;have HS:=zh hS;rw[hS];clear hS
 go_enter func27,ntmps27
 go_wp2_with fail
 rw[<-HS.o];refine(xP w s hs).mono ?_;rintro e w1 ⟨rfl,hk⟩;rw[HS.o];have HK:=zh hk;clear hk
 cases hg:gU s with
 | false=>
  have HT:=zh (show fW s=false by unfold fW;rw[hg];rfl);clear hg
  go_wp2_with fail
  go_ret;exact⟨by rw[HT.o];rfl,HK.o⟩
 | true=>
  have HT:=zh (show fW s= !gT s by unfold fW;rw[hg];rfl);clear hg
  go_wp2_with fail
  rw[<-HS.o];refine(vG w1 s hs).mono ?_;rintro e w2 ⟨rfl,rfl⟩;rw[HS.o]
  cases hb:gT s with
  | true=>
   have hne:(((jh s:Nat):Int)==0)=false:=by
    rw[tS];intro e;have:=(ma s).1 (by omega);rw[hb]at this
    cases this
   rw[hb]at HT;clear hb
   generalize jh s=k at*
   go_wp2_with fail
   go_ret;exact⟨by rw[HT.o];rfl,HK.o⟩
  | false=>
   have h0:=(ma s).2 hb;rw[hb]at HT;rw[h0];clear hb h0
   go_wp2_with fail
   go_ret;exact⟨by rw[HT.o];rfl,HK.o⟩

theorem Cn (s:aG):dH (s++ [47])=dH s++ [[]]:=Gk s []
theorem EI {a:UInt8}(ha:a≠47)(s:aG):∃ls x,dH s=ls++ [x]/\dH (s++ [a])=ls++ [x++ [a]]:=by
 induction s with
 | nil=>exact⟨[], [],rfl,by rw[jD,Co (by simpa using Ne.symm ha)];rfl⟩
 | cons b s ih=>
  obtain⟨ls,x,h1,h2⟩:=ih
  by_cases hb:b=47
  ·subst hb
   refine⟨[]::ls,x, ?_, ?_⟩
   ·rw[dH,aE rfl,h1];rfl
   ·rw[jS,dH,aE rfl,h2];rfl
  ·obtain⟨l,m,e1,e2⟩:=ib (s:=s) hb
   obtain⟨l',m',e3,e4⟩:=ib (s:=s++ [a]) hb;rw[h1]at e1;rw[h2]at e3
   cases ls with
   | nil=>
    injection e1 with e5 e6
    injection e3 with e7 e8
    exact⟨[],b::x,by rw[e2,<-e5,<-e6];rfl,by rw[jS,e4,<-e7,<-e8];rfl⟩
   | cons y ls=>
    injection e1 with e5 e6
    injection e3 with e7 e8
    exact⟨(b::y)::ls,x,by rw[e2,<-e5,<-e6];rfl,by rw[jS,e4,<-e7,<-e8];rfl⟩
theorem Gj {a:UInt8}(ha:a≠47){s:aG}{l:List aG}{m:Nat}(hl:dH s=l)(hm:l.length=m+1)(h:m < l.length):dH (s++ [a])=l.set m (l[m]++ [a]):=by
 obtain⟨ls,x,h1,h2⟩:=EI ha s;subst hl;have hls:ls.length=m:=by
  rw[h1,bI,List.length_singleton]at hm;omega
 subst hls;rw[h2];simp[h1]
theorem zu:sV prog 27 9 1:=pL (bytes:=16) (z:= .string ⟨#[]⟩) (by kernel_rfl) (by kernel_rfl) (by omega) rfl
theorem He (l:List aG):l.flatMap fC=Qs l:=by
 induction l with
 | nil=>rfl
 | cons a l ih=>rw[kA,ih];rfl
abbrev Ir (w:au)(B:Nat)(v:Value)(l:List aG):Prop:=dn w B 9 1 fC v l
theorem dn.GW {w:au}{B n c:Nat}{A:Option Addr}{l:List aG}(h:Ir w B (.slice A n c) l):n=l.length/\cG w w.heap.size A (Qs l):=by
 obtain⟨A',c',e⟩:=dn.slice h;injection e with e1 e2 e3
 subst e1 e2 e3;refine⟨rfl, ?_⟩;have:=(dn.at_ h mE).lies mE
 rwa [He]at this
theorem dn.cap {w:au}{B n c:Nat}{A:Option Addr}{l:List aG}(h:Ir w B (.slice A n c) l):l.length<=c:=by
 rcases h.2 with⟨hv,h0⟩ | ⟨gb,cap,cur,hv,_,_,h1,h2,_⟩
 ·injection hv with _ h3 h4
  subst h3 h4;omega
 ·injection hv with _ h3 h4
  subst h3 h4;exact h1
theorem GN (w:au)(x:aG):Ir (w.alloc (.cells #[.string ⟨x.toArray⟩] 9)) w.heap.size (.slice (some ⟨w.heap.size,0,none⟩) 1 1) [x]:=
 ⟨by simp[fC],.inr ⟨w.heap.size,1, #[.string ⟨x.toArray⟩],rfl,bE _,Row.new _ _ _,by simp,by simp[maxLen],by simp,by simp[fC]⟩⟩
/-- The levels of the first bytes of a text. -/
structure RM (w wr:au)(s:aG)(v:Value)(l:List aG):Prop where
 e:dH s=l
 o:Ir wr w.heap.size v l
 k:ae w wr []
def Iu (w:au)(s:aG)(e:Ending)(w' :au):Prop:=∃A c,e= .returned (.slice A (dH s).length c)/\(dH s).length<=c/\cG w' w'.heap.size A (Qs (dH s))/\ae w w' []
theorem AG (w:au)(s:aG)(hs:s.length<=60000):Calls prog 95 #[.string ⟨s.toArray⟩] w (Iu w s):=by
 obtain⟨S,hS⟩:∃S:ByteArray,(⟨s.toArray⟩:ByteArray)=S:=⟨_,rfl⟩;have hz:S.size=s.length:=by rw[<-hS];rfl
 have HS:=zh hS;rw[hS];clear hS
 go_enter func95,ntmps95
 go_wp2_with fail
 go_loopw [3,4] (λout i wr=>∃(k m c:Nat) (A:Option Addr) (l:List aG),k<=s.length/\i= .int .i64 k/\out= .slice A (m+1) c/\m<=k/\Hid (RM w wr (s.take k) (.slice A (m+1) c) l)) (λ_ i _=>s.length - (intOf i).toNat)
 case atStart=>exact⟨0,0,1,_, [[]],by omega,rfl,rfl,by omega,zh ⟨rfl,GN w [],ae.alloc _ _⟩⟩
 case round=>
  obtain⟨k,m,c,A,l,hk,rfl,rfl,hmk,HR⟩:=hrel
  by_cases hlt:k < s.length
  ·have HT:=zh (hO hlt)
   have ix:∀h,S[k]'h=s[k]:=λh=>gV HS.o hlt h
   obtain⟨a,ha⟩:∃a,s[k]=a:=⟨_,rfl⟩;rw[ha]at HT ix;have hcut:S.extract k (k+1)=⟨[a].toArray⟩:=by
    rw[<-HS.o,gC,Nat.add_sub_cancel_left,List.drop_eq_getElem_cons hlt,ha];rfl
   by_cases Rx:a=47
   ·subst Rx
    have HL:=zh (show dH (s.take (k+1))=l++ [[]]by rw[HT.o,Cn,HR.o.e]);obtain⟨Wa,FB⟩:∃Wa,wr.alloc (.cells #[.string ⟨#[]⟩] 9)=Wa:=⟨_,rfl⟩;have ra:Row Wa wr.heap.size 9 #[.string ⟨#[]⟩]:=by rw[<-FB];exact Row.new _ _ _
    have ka:ae wr Wa []:=by rw[<-FB];exact ae.alloc _ _
    have Ca:m+1=l.length:=HR.o.o.GW.1;have Er:=zh (show cG Wa Wa.heap.size (some ⟨wr.heap.size,0,none⟩) ([([]:aG)].flatMap fC)from fJ ra rfl);have HA:=zh (And.intro ka (And.intro (HR.o.o.keeps ka) (And.intro (HR.o.k.ah ka) Ca)));clear ra ka hcut ha Ca
    go_wp2_with (at_builtin;refine eG zu mE rfl (.tmp 16) (.tmp 17) rfl w.heap.size (.slice A (m+1) c) (some ⟨wr.heap.size,0,none⟩) 1 1 l [[]] rfl rfl rfl HA.o.2.1 Er.o (by have:=HA.o.2.2.2;simp;omega) HA.o.2.2.1.size ?_;intro A5 c5 w5 l5 Ei G9 nz iH _;have H5:=zh (And.intro Ei.o (And.intro nz iH));have On:l5.length=m+2:=(by have:=HA.o.2.2.2;rw[Ei.o,bI,List.length_singleton];omega);rw[On];clear Ei nz iH G9)
    have ho:=H5.o.2.1;rw[On,H5.o.1]at ho;exact⟨⟨k+1,m+1,c5,A5,l++ [[]],by omega,by go_num,rfl,by omega,zh ⟨HL.o,ho,HA.o.2.2.1.trans H5.o.2.2 λx hx hlt=>by
     have:=(HA.o.2.1.rows x hx).1;omega⟩⟩,by simp[intOf];omega⟩
   ·have hb:(((a.toNat:Int))==47)=false:=by
     rw[tS];intro h;exact Rx (UInt8.toNat_inj.1 (by simpa using (show a.toNat=47 by omega)))
    have Ca:m+1=l.length:=HR.o.o.GW.1;have LK:m < l.length:=by omega
    have HL:=zh (show dH (s.take (k+1))=l.set m (l[m]++ [a])by
     rw[HT.o];exact Gj Rx HR.o.e Ca.symm LK)
    obtain⟨g,cur,rfl,-,hgB,hr,hc,-⟩:=dn.one (q:=λa=> .string ⟨a.toArray⟩) (λ_=>rfl) HR.o.o LK;obtain⟨X,hX⟩:∃X,l[m]=X:=⟨_,rfl⟩;rw[hX]at hc HL;have Ta:X.length<=60000:=by
     have h1:X∈dH (s.take k):=by rw[HR.o.e,<-hX];exact fS LK
     have:=tq h1;rw[dq]at this;omega
    obtain⟨LS,P1⟩:∃LS:ByteArray,(⟨X.toArray⟩:ByteArray)=LS:=⟨_,rfl⟩;have Wx:LS.size<=60000:=by rw[<-P1];exact Ta
    have LP:LS++S.extract k (k+1)=⟨(X++ [a]).toArray⟩:=by rw[hcut,<-P1,Jo]
    obtain⟨CS,Tf⟩:∃CS,S.extract k (k+1)=CS:=⟨_,rfl⟩;have WE:CS.size=1:=by rw[<-Tf,hcut];rfl
    rw[Tf]at LP;rw[P1]at hc;have M1:=λ(W' :au) (hW:ae wr W' [])=>((hr.keeps hW).cell m).trans hc
    have HG:=zh (And.intro hr (And.intro hgB (And.intro LP (And.intro LK Ca))));clear hr hgB hc hX P1 hcut LP Ta LK Ca
    go_upto_region 7 with fail
    have oB:IntKind.i64.wrap (m:Int)=m:=IntWalk.i64_in _ (by omega);have hw2:IntKind.i64.wrap ((k:Int)+1)=k+1:=IntWalk.i64_in _ (by omega);have Dm:((k:Int)+1).toNat=k+1:=by omega
    have yd:(k:Int)+1<=s.length:=by omega
    have iy:(k:Int)<=k+1:=by omega
    have Na:(0:Int)<=k+1:=by omega
    have Wn:(m:Int) < m+1:=by omega
    have Wm:¬9223372036854775807 < LS.size+1:=by omega
    refine cE ax _ 16 (by kernel_rfl) rfl (by kernel_rfl) (λ_=>ae.refl _ _) (λ_ _ _ h k=>h.trans k (by simp)) (ae.drew _) ?_;simp only[dc,dg,dF,dK]
    iterate 9
     refine ls ?_;simp only[af]
    apply ak
    ·intro W vals hW ag
     simp only[knows]at ag
     try simp only[ai]at ag
     clear ag;have m1:=M1 W hW;refine⟨?_⟩;simp only[fill];go_simp
     first | exact⟨ae.refl _ _,rfl⟩ | exact⟨ae.alloc _ _,rfl⟩
    iterate 6
     simp only[af];refine ls ?_
    simp only[af];refine aq (λW vals hW ag=> ?_);simp only[aw]at ag
    try simp only[ai]at ag
    simp only[fill,Act.put,bo,bn,bh];clear ag;have hr:=HG.o.1.keeps hW;have d0:=M1 W hW;have g0:=hr.frozen m;have HW:=zh (show ae wr W []from hW);clear hr hW M1
    go_wp2_with fail
    obtain⟨g',cur',e1,-,hgB,hr,hc,ho⟩:=dn.one (q:=λa=> .string ⟨a.toArray⟩) (λ_=>rfl) (HR.o.o.keeps HW.o) HG.o.2.2.2.1;injection e1 with e1
    injection e1 with e1
    subst e1;have ho:=ho (X++ [a]);rw[<-HG.o.2.2.1]at ho;exact⟨⟨k+1,m,c,_,_,by omega,by go_num,rfl,by omega,zh ⟨HL.o,ho,(HR.o.k.ah HW.o).trans (ae.setCell _ _ _) λx hx hlt=>by
     simp at hx;omega⟩⟩,by simp[intOf];omega⟩
  ·obtain rfl:k=s.length:=by omega
   have HE:=zh (show dH s=l by rw[<-HR.o.e,eQ])
   go_wp2_with fail
   go_ret;have:=HR.o.o.GW;exact⟨A,c,by rw[HE.o,<-this.1];rfl,by rw[HE.o];exact dn.cap HR.o.o,by rw[HE.o];exact this.2,HR.o.k⟩

theorem D5 (L:List aG):Ah L=true↔∀j (h:j < L.length),yz L[j] (j+1==L.length)=true:=by
 rw[vl,List.all_eq_true]
 constructor
 ·intro h j hj
  have:=h ((mB L)[j]'(by rw[mS];exact hj)) (fS _)
  rwa [vk hj]at this
 ·intro h x hx
  obtain⟨j,hj,rfl⟩:=List.mem_iff_getElem.1 hx;rw[mS]at hj;rw[vk hj];exact h j hj
theorem ud (w:au)(s:aG)(hs:s.length<=60000):Calls prog 28 #[.string ⟨s.toArray⟩] w (aJ w (cD s)):=by
 obtain⟨S,hS⟩:∃S:ByteArray,(⟨s.toArray⟩:ByteArray)=S:=⟨_,rfl⟩;have HS:=zh (show∀w:au,(Calls prog 93 #[.string S] w λe w' =>e= .returned (.bool (gU s))/\ae w w' [])/\Calls prog 95 #[.string S] w (Iu w s)from λw=>by
  rw[<-hS];exact⟨xP w s hs,AG w s hs⟩)
 rw[hS];clear hS
 go_enter func28,ntmps28
 go_wp2_with fail
 refine(HS.o _).1.mono ?_;rintro e w1 ⟨rfl,hk⟩;have HK:=zh hk;clear hk
 cases hg:gU s with
 | false=>
  have HT:=zh (show cD s=false by unfold cD;rw[hg];rfl);clear hg
  go_wp2_with fail
  go_ret;exact⟨by rw[HT.o];rfl,HK.o⟩
 | true=>
  have HT:=zh (show cD s=Ah (dH s)by unfold cD;rw[hg];rfl);clear hg
  go_wp2_with fail
  refine(HS.o _).2.mono ?_;rintro e w2 ⟨A,c,rfl,-,hL,hk⟩;have lN:=zh (HK.o.ah hk);have HB:=zh (And.intro (λy (h:y∈dH s)=>tq h) (vn s));have hn:(dH s).length<=60001:=by have:=vn s;omega
  generalize dH s=l at*
  have HL:=zh hL;clear hk hL HK
  go_wp2_with fail
  go_loop [4] (λi=>∃k:Nat,k<=l.length/\i= .int .i64 k/\Hid (∀j (h:j < l.length),j < k->yz l[j] (j+1==l.length)=true)) (λi=>l.length - (intOf i).toNat)
  case atStart=>exact⟨0,by omega,rfl,zh λj h h2=>by omega⟩
  case round=>
   obtain⟨k,hk,rfl,HR⟩:=hrel
   by_cases hlt:k < l.length
   ·obtain⟨g,o,rfl,hb,hcx⟩:=HL.o.at_ (k:=k) (by simpa using hlt)
    rw[List.getElem_map]at hcx;obtain⟨y,hy⟩:∃y,l[k]=y:=⟨_,rfl⟩;have HN:=zh (show yz y (k+1==l.length)=true->∀j (h:j < l.length),j < k+1->yz l[j] (j+1==l.length)=true from λhq j h h2=>by
     rcases eS j k with g | g
     ·exact HR.o j h g
     ·obtain rfl:j=k:=by omega
      rw[hy];exact hq)
    have HF:=zh (show yz y (k+1==l.length)=false->cD s=false from λhq=>by
     rw[HT.o,<-Bool.not_eq_true,D5];intro h;have:=h k hlt;rw[hy,hq]at this
     cases this)
    have sX:y.length<=60000:=by have:=HB.o.1 y (by rw[<-hy];exact fS hlt);omega
    rw[hy]at hcx;obtain⟨Y,hY⟩:∃Y:ByteArray,(⟨y.toArray⟩:ByteArray)=Y:=⟨_,rfl⟩;have HG:=zh (show Calls prog 94 #[.string Y] w2 λe w' =>e= .returned (.int .i64 (jh y:Nat))/\w2=w' by
     rw[<-hY];exact vG w2 y sX)
    have eY:Y.toList=y:=by rw[<-hY,Lib.toList_data]
    rw[hY]at hcx;clear hy hb
    go_wp2_with fail
    refine HG.o.mono ?_;rintro e w3 ⟨rfl,rfl⟩
    cases Bs:gT y with
    | false=>
     have h0:=(ma y).2 Bs;have HO:=zh (show yz y (k+1==l.length)=true by unfold yz;rw[Bs];simp);rw[h0];clear h0 Bs eY hY
     go_wp2_with fail
     exact⟨⟨k+1,by omega,by go_num,zh (HN.o HO.o)⟩,by simp[intOf];omega⟩
    | true=>
     have hpos:0 < jh y:=by
      rcases Ey (jh y)with h | h
      ·rw[(ma y).1 h]at Bs;cases Bs
      ·exact h
     obtain⟨q,hq⟩:∃q,jh y=q:=⟨_,rfl⟩;rw[hq]at hpos ⊢
     have HO:=zh (show yz y (k+1==l.length)=(y== [43] || (y== [35] && (k+1==l.length)))by unfold yz;rw[Bs];simp);clear hq Bs
     by_cases FX:y= [43]
     ·have U1:(Y.toList== [43])=true:=by rw[eY,FX];rfl
      have HP:=zh (HN.o (by rw[HO.o,FX];rfl));clear FX eY hY
      go_wp2_with fail
      exact⟨⟨k+1,by omega,by go_num,HP⟩,by simp[intOf];omega⟩
     ·have U1:(Y.toList== [43])=false:=by rw[eY];simpa using FX
      have PK:(y== [43])=false:=by simpa using FX
      by_cases FY:y= [35]
      ·have U2:(Y.toList== [35])=true:=by rw[eY,FY];rfl
       by_cases hla:k+1=l.length
       ·have HP:=zh (HN.o (by rw[HO.o,FY,hla];simp))
        have hkl:((k:Int)==l.length - 1)=true:=by rw[kX];omega
        clear FY eY hY FX PK
        go_wp2_with fail
        exact⟨⟨k+1,by omega,by go_num,HP⟩,by simp[intOf];omega⟩
       ·have HP:=zh (HF.o (by rw[HO.o,FY];simpa using hla))
        have hkl:((k:Int)==l.length - 1)=false:=by rw[tS];omega
        clear FY eY hY FX PK
        go_wp2_with fail
        go_ret;exact⟨by rw[HP.o];rfl,lN.o⟩
      ·have U2:(Y.toList== [35])=false:=by rw[eY];simpa using FY
       have HP:=zh (HF.o (by rw[HO.o,PK,show(y== [35])=false by simpa using FY];rfl));clear FY eY hY FX PK
       go_wp2_with fail
       go_ret;exact⟨by rw[HP.o];rfl,lN.o⟩
   ·obtain rfl:k=l.length:=by omega
    have HP:=zh (show cD s=true by rw[HT.o,D5];exact λj h=>HR.o j h h)
    go_wp2_with fail
    go_ret;exact⟨by rw[HP.o];rfl,lN.o⟩
end Go.Proofs.YtahbikfbjenfpaaGreatDoor
