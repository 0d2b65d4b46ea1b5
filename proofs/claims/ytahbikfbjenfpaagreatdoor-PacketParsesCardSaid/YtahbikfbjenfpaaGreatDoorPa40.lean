/- The statements of packets: known. Package packet, plain: what the reference reads of the bytes behind a length. Packages of packets, plain: what the statements say of their bytes. The law PacketApart. What Parse tells of a packet's own bytes. The law PacketLists. -/
import Derived.Test.YtahbikfbjenfpaaGreatDoorPa39
import Derived.Test.YtahbikfbjenfpaaGreatDoorPa36
import Derived.Test.YtahbikfbjenfpaaGreatDoorPa13
import Derived.Test.YtahbikfbjenfpaaGreatDoorPa26
set_option maxHeartbeats 4000000
set_option maxRecDepth 100000
namespace Go.Proofs.YtahbikfbjenfpaaGreatDoor
open Tryz Go.RowKit Go.Shelf

def QI:Pk:=⟨3,false,false,1, [97], [104,105],10, [],false,0,false, [], [],0,false,false,false, [], [],false,0, [], [], []⟩
def Lj:Pk:=⟨1,false,false,0, [], [],0, [120],true,10,false, [], [],0,false,false,false, [], [],false,0, [], [], []⟩
theorem Ll:fD QI=true/\gu QI= [50,7,0,1,97,0,10,104,105]:=⟨by decide+kernel,by decide+kernel⟩
theorem JF:fD Lj=true/\gu Lj= [16,13,0,4,77,81,84,84,4,2,0,10,0,1,120]:=⟨by decide+kernel,by decide+kernel⟩
theorem JE (p:Pk):¬fc [192,1] p:=λh=>by
 obtain⟨s,h1,_⟩:=bP h;have h2:gi [1]=some (some (1,1)):=by decide+kernel
 rw[h2]at h1;injection h1 with h1
 injection h1 with h1
 injection h1 with h3 h4
 subst h4;simp at h3
theorem JD (p:Pk):¬fc [96,2,0,1] p:=λh=>by
 obtain⟨s,h1,_,_,_,h5,h6,_⟩:=bP h;have e:p.k=6:=h5;have e2:kM p=0:=h6;unfold kM at e2;rw[aj (by omega),aE (by omega)]at e2
 cases e2
theorem GL:gG 12= [112,105,110,103,114,101,113]/\uJ 12=0:=⟨by decide+kernel,by decide+kernel⟩
theorem xO (w:au)(p:Pk)(sw sc sf:Value)(r:aG)(hm:lG w)(hl:fR w p sw sc sf)(hs:rl p)(hk1: -9223372036854775808<=p.k)(hk2:p.k<=9223372036854775807)(h:fD p=true/\gu p=r):
  Calls prog 11 #[eO p sw sc sf] w λe w' =>∃A c,e= .returned (.tuple #[.slice A r.length c,.int .i64 0])/\aS w' w.heap.size (.slice A r.length c) r/\ae w w' []:=by
 refine(xV p sw sc sf w hl hs hm hk1 hk2).mono ?_;intro e w' hp;unfold iT at hp;rw[aE h.1,h.2]at hp;obtain⟨v,rfl,ho,hk⟩:=hp;obtain⟨A,c,rfl,_,_⟩:=ck ho;exact⟨A,c,rfl,ho,hk⟩
theorem xW (w:au)(b:aG)(v:Value)(hm:lG w)(hB:Bytes w w.heap.size v b)(hb:b.length<=50000)(h:∀p,¬fc b p):
  Calls prog 14 #[v] w λe w' =>e= .returned (.tuple #[.agg si,.int .i64 260])/\ae w w' []:=by
 refine(ug w v b hm hb hB).mono ?_;rintro e w' ⟨hk,⟨p,_,_,_,h1,_⟩ | ⟨_,rfl⟩⟩
 ·exact absurd h1 (h p)
 ·exact⟨rfl,hk⟩
theorem yj (w:au)(b:aG)(hb:b.length<=1000):Bytes (w.alloc (.cells (b.map bq).toArray 5)) (w.alloc (.cells (b.map bq).toArray 5)).heap.size (.slice (some ⟨w.heap.size,0,none⟩) b.length b.length) b:=
 ⟨_,_,rfl,bE _,(λh=>by cases h),by simp[maxLen];omega,by omega,λ_=>⟨w.heap.size,0,rfl,by simp,λi u hu=>by
  have:=(Row.new w 5 (b.map bq).toArray).cell i;rw[iP,this,cg];exact hu⟩⟩
theorem Bm (w:au)(hm:lG w):Calls prog 10 #[] w (aJ w true):=by
 have HM:=zh hm;clear hm
 go_enter func10,ntmps10
 go_wp2_with fail
 have h1:=xO w QI aN aN aN _ HM.o (fR.empty rfl rfl rfl) ⟨by decide,by decide,by decide,by decide,by decide,by decide,by decide,by decide,by decide,by decide⟩ (by decide) (by decide) Ll;refine h1.mono ?_;clear h1;rintro e w1 ⟨A1,c1,rfl,S5,hk1⟩;have H1:=zh (And.intro S5 hk1);clear S5 hk1
 go_wp2_with fail
 have h1:=xO w1 Lj aN aN aN _ (HM.o.keeps H1.o.2) (fR.empty rfl rfl rfl) ⟨by decide,by decide,by decide,by decide,by decide,by decide,by decide,by decide,by decide,by decide⟩ (by decide) (by decide) JF;refine h1.mono ?_;clear h1;rintro e w2 ⟨A2,c2,rfl,p6,hk2⟩;have H2:=zh (And.intro p6 (And.intro (H1.o.2.ah hk2) (aM H1.o.1 hk2 (by simp))));clear p6 hk2 H1
 go_wp2_with fail
 have hb:=yj w2 [192,1] (by decide);have h1:=xW _ [192,1] _ (HM.o.keeps (H2.o.2.1.bX _)) hb (by decide) JE;refine h1.mono ?_;clear h1 hb;rintro e w3 ⟨rfl,hk3⟩;have hk3:=(ae.alloc w2 _).ah hk3;have H3:=zh (And.intro (aM H2.o.1 hk3 (by simp)) (And.intro (H2.o.2.1.ah hk3) (aM H2.o.2.2 hk3 (by simp))));clear hk3 H2
 go_wp2_with (refine aQ rfl (.tmp 5) (.tmp 24) rfl eM eM w3 rfl (by kernel_rfl) rfl (by simp[Value.oneCell']) rfl rfl ?_;intro w5 iy)
 refine zh ?_;have hk3:ae w3 w5 []:=by rw[<-iy];exact ae.alloc _ _
 have H4:=zh (And.intro (aM H3.o.1 hk3 (by simp)) (And.intro (H3.o.2.1.ah hk3) (aM H3.o.2.2 hk3 (by simp))));clear hk3 iy H3
 go_wp2_with fail
 have hb:=yj w5 [96,2,0,1] (by decide);have h1:=xW _ [96,2,0,1] _ (HM.o.keeps (H4.o.2.1.bX _)) hb (by decide) JD;refine h1.mono ?_;clear h1 hb;rintro e w6 ⟨rfl,hk3⟩;have hk3:=(ae.alloc w5 _).ah hk3;have H5:=zh (And.intro (aM H4.o.1 hk3 (by simp)) (And.intro (H4.o.2.1.ah hk3) (aM H4.o.2.2 hk3 (by simp))));clear hk3 H4
 go_wp2_with (refine aQ rfl (.tmp 7) (.tmp 29) rfl eM eM w6 rfl (by kernel_rfl) rfl (by simp[Value.oneCell']) rfl rfl ?_;intro w7 iy)
 refine zh ?_;have hk3:ae w6 w7 []:=by rw[<-iy];exact ae.alloc _ _
 have H6:=zh (And.intro (aM H5.o.1 hk3 (by simp)) (And.intro (H5.o.2.1.ah hk3) (aM H5.o.2.2 hk3 (by simp))));clear hk3 iy H5
 go_wp2_with fail
 obtain⟨S1,Dy⟩:∃S:ByteArray,S=⟨#[50,7,0,1,97,0,10,104,105]⟩:=⟨_,rfl⟩;obtain⟨S2,pH⟩:∃S:ByteArray,S=⟨#[16,13,0,4,77,81,84,84,4,2,0,10,0,1,120]⟩:=⟨_,rfl⟩;obtain⟨S3,zo⟩:∃S:ByteArray,S=⟨#[112,105,110,103,114,101,113]⟩:=⟨_,rfl⟩;have h1:=Cy 12 w7;rw[GL.1,GL.2,show(⟨([112,105,110,103,114,101,113]:aG).toArray⟩:ByteArray)=S3 from zo.symm]at h1;refine h1.mono ?_;clear h1;rintro e w8 ⟨rfl,hk3⟩;have H7:=zh (And.intro (aM H6.o.1 hk3 (by simp)) (And.intro (H6.o.2.1.ah hk3) (aM H6.o.2.2 hk3 (by simp))));clear hk3 H6;have WJ:(convert 32 9 (.slice A2 15 c2)).run prog w8= .ok (.string S2) w8:=by rw[pH];exact dO w8 _ A2 c2 _ (cG.tG H7.o.1)
 have WK:(convert 32 9 (.slice A1 9 c1)).run prog w8= .ok (.string S1) w8:=by rw[Dy];exact dO w8 _ A1 c1 _ (cG.tG H7.o.2.2)
 have q1:(S1.toList== [50,7,0,1,97,0,10,104,105])=true:=by rw[Dy];decide+kernel
 have q2:(S2.toList== [16,13,0,4,77,81,84,84,4,2,0,10,0,1,120])=true:=by rw[pH];decide+kernel
 have q3:(S3.toList== [112,105,110,103,114,101,113])=true:=by rw[zo];decide+kernel
 clear Dy pH zo
 go_wp2_with fail
 go_ret;exact⟨rfl,H7.o.2.1⟩
end Go.Proofs.YtahbikfbjenfpaaGreatDoor

namespace Go.Proofs.YtahbikfbjenfpaaGreatDoor
open Tryz Go

/-- So many texts. -/
def cJ:Nat->aG->Option (List aG)
 | 0,_=>some []
 | n+1,l=>(cQ l).bind λs=>(cJ n s.2).bind λr=>some (s.1::r)
def tA (f:Nat):Nat:=1+g_ (aH f 4) 2+g_ (aH f 128) 1+g_ (aH f 64) 1
/-- A connect's texts. -/
def ox (f:Nat)(kp:Int)(L:List aG):Pk:=
 let L1:=L.drop 1
 let L2:=if aH f 4 then L1.drop 2 else L1
 let L3:=if aH f 128 then L2.drop 1 else L2
 {nU f with k:=0,keep:=kp,c:=L.headD [],wt:=if aH f 4 then L1.headD []else [],wb:=if aH f 4 then(L1.drop 1).headD []else [],u:=if aH f 128 then L2.headD []else [],pw:=if aH f 64 then L3.headD []else []}
def mc:aG->Option Pk
 | a0::a1::a2::a3::a4::a5::a6::f::k1::k2::r=>
  if [a0,a1,a2,a3,a4,a5,a6]= [0,4,77,81,84,84,4]then(cJ (tA f.toNat) r).bind λL=>some (ox f.toNat (256*(k1.toNat:Int)+(k2.toNat:Int)) L)else none
 | _=>none
def dV (k:Int)(l:aG):Option Pk:=(jv 2 l).bind λi=>
 if k=8 then(bM cU i.2.length i.2).bind λaz=>some {bN with id:=(i.1:Int),wants:=az}
 else if k=9 then(bM dC i.2.length i.2).bind λaz=>some {bN with id:=(i.1:Int),aF:=az}
 else(bM cQ i.2.length i.2).bind λaz=>some {bN with id:=(i.1:Int),fs:=az}
def Ay (f:Nat)(l:aG):Option Pk:=
 (cQ l).bind λt=>if 0 < f / 2 % 4 then(jv 2 t.2).bind λi=>some {bN with dup:=aH f 8,ret:=aH f 1,q:=(f / 2 % 4:Nat),t:=t.1,id:=(i.1:Int),b:=i.2}
  else some {bN with dup:=aH f 8,ret:=aH f 1,q:=(f / 2 % 4:Nat),t:=t.1,b:=t.2}
def D_:aG->Pk
 | [a,b]=>{bN with pr:=decide (a.toNat=1),code:=(b.toNat:Int)}
 | _=>bN
def lJ (k:Int)(f:Nat)(l:aG):Option Pk:=
 if k=1 then mc l else if k=2 then some (D_ l)else if k=3 then Ay f l else if 4<=k/\k<=11 then dV k l else some bN
theorem two_bytes (n:Int):∃a b:UInt8,bA n= [a,b]:=by
 have:=aP 2 n.toNat;unfold bA
 match dZ 2 n.toNat,this with
 | [a,b],_=>exact⟨a,b,rfl⟩
theorem Jr {n:Int}{a b:UInt8}(h:bA n= [a,b])(h0:0<=n/\n<=65535):256*(a.toNat:Int)+(b.toNat:Int)=n:=by
 have e:=wo 2 n.toNat (by simp;omega);unfold bA at h;rw[h]at e;simp[qw]at e;omega
theorem one_byte {n:Nat}(h:n < 256):∃a:UInt8,aX n= [a]/\a.toNat=n:=by
 have e:=wo 1 n (by simpa using h);have l:=aP 1 n;unfold aX
 match dZ 1 n,l,e with
 | [a],_,e=>exact⟨a,rfl,by simpa [qw]using e⟩
theorem cC {n:Nat}{s l:aG}(hs:s.length<=60000):cJ (n+1) (aO s++l)=(cJ n l).bind λr=>some (s::r):=by
 rw[cJ,ic hs];rfl
theorem Gt {p:Pk}(e:p.k=1)(h2:cK p=true)(h3:aL p=p):mc (bg p)=some {p with k:=0}:=by
 have f:=nR e h2;rw[uM e];obtain⟨k1,k2,hk⟩:=two_bytes p.keep;obtain⟨fl,hf,UA⟩:=one_byte (mX f.will.2.2.2);rw[hk,hf,show aO [77,81,84,84]= [0,4,77,81,84,84]from rfl,show aX 4= [4]from rfl];simp only[jS,jD];rw[mc,aE rfl,UA,Jr hk f.keep];have c0:=Ed f.will.2.2;have c1:aH (cM p) 4=p.hw:=ek Pk.hw c0;have c2:aH (cM p) 128=p.hu:=ek Pk.hu c0;have c3:aH (cM p) 64=p.hp:=ek Pk.hp c0;have hc:p.c.length<=60000:=by have:=f.c;omega
 have hu:=f.u.1;have hw:=f.will.1;have hb:=f.will.2.1;have QW:=f.pw.1;unfold tA ox;rw[c0,c1,c2,c3];unfold aL at h3;rw[aE e]at h3;have hpq:p= {bN with k:=1,c:=p.c,cl:=p.cl,keep:=p.keep,hw:=p.hw,wt:=p.wt,wb:=p.wb,wq:=p.wq,wr:=p.wr,hu:=p.hu,hp:=p.hp,u:=p.u,pw:=p.pw}:=by
  rw[e]at h3;exact h3.symm
 have hend:aO p.pw=aO p.pw++ []:=by simp
 have fin:({p with k:=0}:Pk)= {bN with c:=p.c,cl:=p.cl,keep:=p.keep,hw:=p.hw,wt:=p.wt,wb:=p.wb,wq:=p.wq,wr:=p.wr,hu:=p.hu,hp:=p.hp,u:=p.u,pw:=p.pw}:=ek (λx:Pk=>({x with k:=0}:Pk)) hpq;rw[fin];have nw:=f.nw;have nu:=f.u.2;have np:=f.pw.2
 generalize p.hw=w at*
 generalize p.hu=u at*
 generalize p.hp=q at*
 cases w <;> cases u <;> cases q <;> simp only[dB,g_,cond_true,cond_false,jF,jC,zY,jD,dJ,fj,Nat.reduceAdd,eK] <;> (try rw[hend])
 ·have a:=nw rfl
  have b:=nu rfl;have c:=np rfl;rw[show aO p.c=aO p.c++ []by simp,cC hc,cJ];simp[a,b,c,bN]
 ·have b:=nu rfl
  cases b.2
 ·have a:=nw rfl
  have c:=np rfl;rw[show aO p.u=aO p.u++ []by simp,cC hc,cC (by omega),cJ];simp[a,c,bN]
 ·have a:=nw rfl
  rw[cC hc,cC (by omega),cC (by omega),cJ];simp[a,bN]
 ·have b:=nu rfl
  have c:=np rfl;rw[show aO p.wb=aO p.wb++ []by simp,cC hc,cC (by omega),cC (by omega),cJ];simp[b,c,bN]
 ·have b:=nu rfl
  cases b.2
 ·have c:=np rfl
  rw[show aO p.u=aO p.u++ []by simp,cC hc,cC (by omega),cC (by omega),cC (by omega),cJ];simp[c,bN]
 ·rw[cC hc,cC (by omega),cC (by omega),cC (by omega),cC (by omega),cJ]
  simp[bN]
/-- What a packet that may be says is read again. -/
theorem Jv {p:Pk}(h:fD p=true):(lJ p.k (kM p) (bg p)).map (λq=>{q with k:=p.k})=some p:=by
 obtain⟨h1,h2,h3⟩:=bF h;have back:∀q:Pk,({({q with k:=0}:Pk)with k:=q.k}:Pk)=q:=λq=>rfl
 unfold lJ
 rcases jl h1 with e | e | e | e | e | e | e | e
 ·rw[aE e,Gt e h2 h3,tg,back]
 ·have f:=pX e h2
  unfold aL at h3;rw[aj (by omega),aE e]at h3;rw[aj (by omega),aE e,yY e];obtain⟨a,ha,UF⟩:=one_byte (n:=g_ p.pr 1) (by have:=bY p.pr 1;omega);obtain⟨b,hb,UC⟩:=one_byte (n:=p.code.toNat) (by omega);rw[ha,hb];show some ({bN with k:=p.k,pr:=decide (a.toNat=1),code:=(b.toNat:Int)}:Pk)=_;rw[UF,UC,jQ f.1,show decide (g_ p.pr 1=1)=p.pr by cases p.pr <;> rfl];exact ek some h3
 ·have f:=jN e h2
  unfold aL at h3;rw[aj (by omega),aj (by omega),aE e]at h3;rw[aj (by omega),aj (by omega),aE e,yX e,show kM p=jq p by unfold kM;rw[aE e]];have ef:jq p=8*g_ p.dup 1+g_ p.ret 1+2*p.q.toNat:=by
   unfold jq;rw[d_ p.dup]
  have a1:=bY p.dup 1;have a2:=bY p.ret 1;unfold Ay;rw[ic (by omega),di,kN p.dup _ 8 (by omega),kN p.ret _ 1 (by omega),show jq p / 2 % 4=p.q.toNat by omega,show((p.q.toNat:Nat):Int)=p.q from jQ f.2.2.1.1]
  by_cases hq:0 < p.q
  ·rw[bz hq,aE (by omega)]
   unfold dB bA;rw[aE rfl,ez (by simp;omega),di,show((p.id.toNat:Nat):Int)=p.id from jQ f.2.2.2.1.1];exact ek some h3
  ·rw[aZ hq,aj (by omega)]
   have h4:=f.2.2.2.2 (by omega);rw[h4.1]at h3;exact ek some h3
 ·have f:=nP e h2
  unfold aL at h3;rw[aj (by omega),aj (by omega),aj (by omega),aE e]at h3;rw[aj (by omega),aj (by omega),aj (by omega),aE (by omega),uL e];unfold dV bA;rw[ez (by have:=f.1;simp;omega),di,aE e,jI _ _ (λw hw=>⟨λr=>vB (f.2.2.2 w hw).1 (f.2.2.2 w hw).2 r,λhn=>by
   have:=ek List.length hn;rw[bI,bB]at this;simp at this⟩) (bE _),di,show((p.id.toNat:Nat):Int)=p.id from jQ (by have:=f.1;omega)]
  exact ek some h3
 ·have f:=nO e h2
  unfold aL at h3;rw[aj (by omega),aj (by omega),aj (by omega),aj (by omega),aE e]at h3;rw[aj (by omega),aj (by omega),aj (by omega),aE (by omega),uK e];unfold dV bA;rw[ez (by have:=f.1;simp;omega),di,aj (by omega),aE e,jI _ _ (λw hw=>⟨λr=>vD (f.2.2.2 w hw) r,λhn=>by
   have:=ek List.length hn;rw[aX,aP]at this;simp at this⟩) (bE _),di,show((p.id.toNat:Nat):Int)=p.id from jQ (by have:=f.1;omega)]
  exact ek some h3
 ·have f:=lp e h2
  unfold aL at h3;rw[aj (by omega),aj (by omega),aj (by omega),aj (by omega),aj (by omega),aE e]at h3;rw[aj (by omega),aj (by omega),aj (by omega),aE (by omega),sm e];unfold dV bA;rw[ez (by have:=f.1;simp;omega),di,aj (by omega),aj (by omega),jI _ _ (λw hw=>⟨λr=>ic (by have:=f.2.2.2 w hw;omega) r,λhn=>by
   have:=ek List.length hn;rw[bB]at this;simp at this⟩) (bE _),di,show((p.id.toNat:Nat):Int)=p.id from jQ (by have:=f.1;omega)]
  exact ek some h3
 ·unfold aL at h3
  rw[aj (by omega),aj (by omega),aj (by omega),aj (by omega),aj (by omega),aj (by omega),aE e]at h3;rw[aj (by omega),aj (by omega),aj (by omega),aj (by omega)];exact ek some h3
 ·have f:=nQ e h2
  unfold aL at h3;rw[aj (by omega),aj (by omega),aj (by omega),aj (by omega),aj (by omega),aj (by omega),aj (by omega)]at h3;rw[aj (by omega),aj (by omega),aj (by omega),aE (by omega),sj e];unfold dV bA;have:=ez (k:=2) (n:=p.id.toNat) (by simp;omega) [];rw[dJ]at this;rw[this,di,aj (by omega),aj (by omega),show bM cQ _ []=some []from rfl,di,show((p.id.toNat:Nat):Int)=p.id from jQ (by omega)];exact ek some h3
/-- The reference finds a packet where there is one. -/
theorem vv {x:UInt8}{l:aG}{p:Pk}(h:fc (x::l) p):∃s,gi l=some (some (l.length - s,s))/\s<=l.length/\1<=s/\(lJ (x.toNat / 16:Nat) (x.toNat % 16) (l.drop s)).map (λq=>{q with k:=((x.toNat / 16:Nat):Int)})=some p:=by
 obtain⟨s,h1,h2,h3,_,h5,h6,h7⟩:=bP h;refine⟨s,h1,h2,h3, ?_⟩;have hb:=(r9 (by rw[<-h5];exact(bF h.1).1) h7).2;rw[dJ]at hb;rw[hb,<-h5,<-h6];exact Jv h.1

/-- Dup and Retain turned. -/
def Qy (p:Pk):Pk:={p with dup:= !p.dup,ret:= !p.ret}
/-- How many bytes differ. -/
def OI:aG->aG->Nat
 | x::l,y::m=>(if x=y then 0 else 1)+OI l m
 | _,_=>0
/-- With another ID. -/
def SA (p:Pk)(n:Int):Pk:={p with id:=n}
/-- The lists of two, one behind the other. -/
def QH (p q:Pk):Pk:={p with wants:=p.wants++q.wants,aF:=p.aF++q.aF,fs:=p.fs++q.fs}
def Qz (p:Pk):Nat:=p.wants.length+p.aF.length+p.fs.length
end Go.Proofs.YtahbikfbjenfpaaGreatDoor

namespace Go.Proofs.YtahbikfbjenfpaaGreatDoor
open Tryz Go.RowKit Go.Shelf

/-- A whole struct is read out of its box. -/
theorem bf {P:Program}{Q:Exit->Act->au->Prop}{ops:Array Oper}{op:Oper}{rest:List Oper}{a:Act}{w:au}{ty:TypeId}{x:Operand}{b:Nat}{X:Array Value}{d:TypeDesc}(hw:Region.wanted op (yielded ops a.tmps)=true)(ho:op.op= .load ty x)
  (hx:a.eval x= .pointer (some ⟨b,0,none⟩)) (hr:Row w b ty X) (hu:P.underlying ty=some d) (hd:d.isRow=true) (hi:(P.info? ty).map (·.size)=some X.size)
  (h:wpList P ops Q rest (a.put op.dst (.agg X)) w):wpList P ops Q (op::rest) a w:=
 jg hw ty x ho b 0 hx X.toList d (aD hr) hu hd (by rw[xG];exact hi) h
/-- What a packet does in few and in Raw. -/
structure TC (w:au)(p:Pk)(X:Array Value):Prop where
 sz:(Tryz.prog.info? 29).map (·.size)=some X.size
 few:∀W,ae w W []->Calls prog 9 #[.agg X] W (Kt W p)
 raw:∀W,ae w W []->wB p->Calls prog 11 #[.agg X] W (iT W p)
theorem E_ (p:Pk):0 < (gu p).length:=by unfold gu;simp
/-- What is known of two boxes. -/
structure TB (w W:au)(a b:Nat)(X Y:Array Value):Prop where
 k:ae w W []
 r1:Row W a 29 X
 r2:Row W b 29 Y

/-- A packet as one value, its cells hidden. -/
structure qg (R:Array Value)(p:Pk)(sw sc sf:Value):Prop where
 v:Value.agg R=eO p sw sc sf
 z:24=R.size
 one:R.all (·.oneCell')=true
 sz:(Tryz.prog.info? 29).map (·.size)=some R.size
theorem qg.of {w:au}{p:Pk}{sw sc sf:Value}(h:fR w p sw sc sf):∃R,qg R p sw sc sf:=by
 obtain⟨A1,d1,A2,d2,A3,d3,rfl,rfl,rfl⟩:=h.slices;exact⟨_,rfl,rfl,by simp[Value.oneCell'],by kernel_rfl⟩

/-- What the statement asks of two packets. -/
structure Qd (w:au)(p q:Pk)(X Y:Array Value):Prop where
 m:lG w
 a1:TC w p X
 a2:TC w q Y
 k1:X[0]? =some (.int .i64 p.k)
 k2:Y[0]? =some (.int .i64 q.k)
 WO:∀W,ae w W []->wB p->Calls prog 13 #[.agg X] W λe W' =>e= .returned (.int .i64 (xe p))/\ae W W' []
 WM:∀W,ae w W []->wB q->Calls prog 13 #[.agg Y] W λe W' =>e= .returned (.int .i64 (xe q))/\ae W W' []
 z:24=X.size
 one:X.all (·.oneCell')=true
abbrev GZ (X:Array Value)(v1 v2 v3:Value):Array Value:=((X.setIfInBounds 21 v1).setIfInBounds 22 v2).setIfInBounds 23 v3
/-- What the joined packet does. -/
structure OX (w:au)(o:Pk)(X:Array Value):Prop where
 raw:∀W v1 v2 v3,ae w W []->rl o->fR W o v1 v2 v3->Calls prog 11 #[.agg (GZ X v1 v2 v3)] W (iT W o)
 same:∀W R sw sc sf v1 v2 v3,rl o->qg R o sw sc sf->fR W o sw sc sf->fR W o v1 v2 v3->Calls prog 17 #[.agg R,.agg (GZ X v1 v2 v3)] W (aJ W true)
 sz:∀v1 v2 v3,(Tryz.prog.info? 29).map (·.size)=some (GZ X v1 v2 v3).size
end Go.Proofs.YtahbikfbjenfpaaGreatDoor
