/- Package packet, plain: what bytes are a packet's, they are no other one's. Package packet, plain: what is read of bytes behind a length. Package packet, plain: packets of no more than some fifty thousand bytes; what is read is one. -/
import Derived.Test.YtahbikfbjenfpaaGreatDoorPa12

namespace Go.Proofs.YtahbikfbjenfpaaGreatDoor
open Tryz Go

theorem d_ (b:Bool)(n:Nat):g_ b n=n*g_ b 1:=by cases b <;> simp[g_]
theorem mo {a b:Bool}(h:g_ a 1=g_ b 1):a=b:=by cases a <;> cases b <;> simp[g_]at h ⊢
theorem mX {p:Pk}(h:p.wq<=2):cM p < 256:=by
 unfold cM;have:=bY p.hu 128;have:=bY p.hp 64;have:=bY p.wr 32;have:=bY p.hw 4;have:=bY p.cl 2;omega
theorem C9 {p q:Pk}(hp:0<=p.wq/\p.wq<=2)(hq:0<=q.wq/\q.wq<=2)(h:cM p=cM q):p.hu=q.hu/\p.hp=q.hp/\p.wr=q.wr/\p.hw=q.hw/\p.cl=q.cl/\p.wq=q.wq:=by
 unfold cM at h;rw[d_ p.hu,d_ p.hp,d_ p.wr,d_ p.hw,d_ p.cl,d_ q.hu,d_ q.hp,d_ q.wr,d_ q.hw,d_ q.cl]at h;have a1:=bY p.hu 1;have a2:=bY p.hp 1;have a3:=bY p.wr 1;have a4:=bY p.hw 1;have a5:=bY p.cl 1;have b1:=bY q.hu 1;have b2:=bY q.hp 1;have b3:=bY q.wr 1;have b4:=bY q.hw 1;have b5:=bY q.cl 1;exact⟨mo (by omega),mo (by omega),mo (by omega),mo (by omega),mo (by omega),by omega⟩
theorem Fa {p q:Pk}(hp:0<=p.q/\p.q<=2)(hq:0<=q.q/\q.q<=2)(h:jq p=jq q):p.dup=q.dup/\p.ret=q.ret/\p.q=q.q:=by
 unfold jq at h;rw[d_ p.dup,d_ p.ret,d_ q.dup,d_ q.ret]at h;have a1:=bY p.dup 1;have a2:=bY p.ret 1;have b1:=bY q.dup 1;have b2:=bY q.ret 1;exact⟨mo (by omega),mo (by omega),by omega⟩
theorem pV {m n:Int}{r r' :aG}(hm:0<=m/\m<=65535)(hn:0<=n/\n<=65535)(h:bA m++r=bA n++r'):m=n/\r=r' :=by
 obtain⟨e1,e2⟩:=H_ (k:=2) (by simp;omega) (by simp;omega) h;exact⟨by omega,e2⟩
theorem sn {m n:Nat}{r r' :aG}(hm:m < 256)(hn:n < 256)(h:aX m++r=aX n++r'):m=n/\r=r' :=H_ (k:=1) (by simpa using hm) (by simpa using hn) h
theorem Jp {a b:aG}(ha:a.length < 65536)(hb:b.length < 65536)(h:aO a=aO b):a=b:=
 (oV (r:= []) (r' := []) ha hb (by simpa using h)).1
theorem FM {p q:Pk}(hp:aL p=p)(hq:aL q=q)(h:aL p=aL q):p=q:=by rw[<-hp,<-hq];exact h
theorem Da {p q:Pk}(hp:fD p=true)(hq:fD q=true)(hk:p.k=q.k)(hf:kM p=kM q)(h:bg p=bg q):p=q:=by
 obtain⟨h1,h2,h3⟩:=bF hp;obtain⟨g1,g2,g3⟩:=bF hq;refine FM h3 g3 ?_;unfold bg at h;unfold aL
 rcases jl h1 with e | e | e | e | e | e | e | e
 ·have e' :q.k=1:=hk▸e
  have f:=nR e h2;have g:=nR e' g2;rw[aE e,aE e']at h ⊢
  have h:=List.append_cancel_left (List.append_cancel_left h);obtain⟨c1,h⟩:=sn (mX f.will.2.2.2) (mX g.will.2.2.2) h;obtain⟨d1,d2,d3,d4,d5,d6⟩:=C9 f.will.2.2 g.will.2.2 c1;obtain⟨c2,h⟩:=pV f.keep g.keep h;obtain⟨c3,h⟩:=oV (by have:=f.c;omega) (by have:=g.c;omega) h;have hw:p.wt=q.wt/\p.wb=q.wb/\dB p.hu (aO p.u)++dB p.hp (aO p.pw)=dB q.hu (aO q.u)++dB q.hp (aO q.pw):=by
   rw[<-d4]at h
   cases hw:p.hw with
   | true=>
    rw[hw]at h;have h:aO p.wt++aO p.wb++_=aO q.wt++aO q.wb++_:=h;rw[eK,eK]at h;obtain⟨c4,h⟩:=oV (by have:=f.will;omega) (by have:=g.will;omega) h;obtain⟨c5,h⟩:=oV (by have:=f.will;omega) (by have:=g.will;omega) h;exact⟨c4,c5,h⟩
   | false=>
    rw[hw]at h;obtain⟨x1,x2,_⟩:=f.nw hw;obtain⟨y1,y2,_⟩:=g.nw (d4▸hw);exact⟨by rw[x1,y1],by rw[x2,y2],h⟩
  obtain⟨c4,c5,h⟩:=hw;have hu:p.u=q.u/\dB p.hp (aO p.pw)=dB q.hp (aO q.pw):=by
   rw[<-d1]at h
   cases hu:p.hu with
   | true=>
    rw[hu]at h;exact oV (by have:=f.u.1;omega) (by have:=g.u.1;omega) h
   | false=>
    rw[hu]at h;exact⟨by rw[(f.u.2 hu).1,(g.u.2 (d1▸hu)).1],h⟩
  obtain⟨c6,h⟩:=hu;have c7:p.pw=q.pw:=by
   rw[<-d2]at h
   cases QX:p.hp with
   | true=>
    rw[QX]at h;exact Jp (by have:=f.pw.1;omega) (by have:=g.pw.1;omega) h
   | false=>rw[f.pw.2 QX,g.pw.2 (d2▸QX)]
  simp only[hk,c2,c3,c4,c5,c6,c7,d1,d2,d3,d4,d5,d6]
 ·have e' :q.k=2:=hk▸e
  have f:=pX e h2;have g:=pX e' g2;rw[aj (by omega),aE e,aj (by omega),aE e']at h;rw[aj (by omega),aE e,aj (by omega),aE e'];obtain⟨c1,h⟩:=sn (by have:=bY p.pr 1;omega) (by have:=bY q.pr 1;omega) h;obtain⟨c2,_⟩:=sn (m:=p.code.toNat) (n:=q.code.toNat) (r:= []) (r' := []) (by omega) (by omega) (by rw[h]);have c3:p.code=q.code:=by omega
  simp only[hk,mo c1,c3]
 ·have e' :q.k=3:=hk▸e
  have f:=jN e h2;have g:=jN e' g2;rw[aj (by omega),aj (by omega),aE e,aj (by omega),aj (by omega),aE e']at h;rw[aj (by omega),aj (by omega),aE e,aj (by omega),aj (by omega),aE e'];unfold kM at hf;rw[aE e,aE e']at hf;obtain⟨d1,d2,d3⟩:=Fa f.2.2.1 g.2.2.1 hf;obtain⟨c1,h⟩:=oV (by omega) (by omega) h;have hid:p.id=q.id/\p.b=q.b:=by
   rw[<-d3]at h
   by_cases Fx:0 < p.q
   ·rw[bz Fx]at h
    exact pV f.2.2.2.1 g.2.2.2.1 h
   ·rw[aZ Fx]at h
    have hz:p.q=0:=by omega
    exact⟨by rw[(f.2.2.2.2 hz).1,(g.2.2.2.2 (d3▸hz)).1],h⟩
  simp only[hk,d1,d2,d3,c1,hid.1,hid.2]
 ·have e' :q.k=8:=hk▸e
  have f:=nP e h2;have g:=nP e' g2;rw[aj (by omega),aj (by omega),aj (by omega),aE e,aj (by omega),aj (by omega),aj (by omega),aE e']at h;rw[aj (by omega),aj (by omega),aj (by omega),aE e,aj (by omega),aj (by omega),aj (by omega),aE e'];obtain⟨c1,h⟩:=pV (by omega) (by omega) h;have c2:p.wants=q.wants:=sI (P:=λw:aG×Int=>w.1.length<=200/\0<=w.2/\w.2<=2) (λa ha=>by
   have:=ek List.length ha;rw[bI,bB]at this;simp at this) (λa b r r' ha hb hh=>by
   rw[eK,eK]at hh;obtain⟨x1,hh⟩:=oV (by omega) (by omega) hh;obtain⟨x2,hh⟩:=sn (by omega) (by omega) hh;exact⟨Prod.ext x1 (by omega),hh⟩) f.2.2.2 g.2.2.2 h
  simp only[hk,c1,c2]
 ·have e' :q.k=9:=hk▸e
  have f:=nO e h2;have g:=nO e' g2;rw[aj (by omega),aj (by omega),aj (by omega),aj (by omega),aE e,aj (by omega),aj (by omega),aj (by omega),aj (by omega),aE e']at h;rw[aj (by omega),aj (by omega),aj (by omega),aj (by omega),aE e,aj (by omega),aj (by omega),aj (by omega),aj (by omega),aE e'];obtain⟨c1,h⟩:=pV (by omega) (by omega) h;have c2:p.aF=q.aF:=sI (P:=λc:Int=>0<=c/\c<=255) (λa ha=>by
   have:=ek List.length ha;rw[aX,aP]at this;simp at this) (λa b r r' ha hb hh=>by
   obtain⟨x2,hh⟩:=sn (by omega) (by omega) hh;exact⟨by omega,hh⟩) f.2.2.2 g.2.2.2 h
  simp only[hk,c1,c2]
 ·have e' :q.k=10:=hk▸e
  have f:=lp e h2;have g:=lp e' g2;rw[aj (by omega),aj (by omega),aj (by omega),aj (by omega),aj (by omega),aE e,aj (by omega),aj (by omega),aj (by omega),aj (by omega),aj (by omega),aE e']at h;rw[aj (by omega),aj (by omega),aj (by omega),aj (by omega),aj (by omega),aE e,aj (by omega),aj (by omega),aj (by omega),aj (by omega),aj (by omega),aE e'];obtain⟨c1,h⟩:=pV (by omega) (by omega) h;have c2:p.fs=q.fs:=sI (P:=λf:aG=>f.length<=200) (λa ha=>by
   have:=ek List.length ha;rw[bB]at this;simp at this) (λa b r r' ha hb hh=>oV (by omega) (by omega) hh) f.2.2.2 g.2.2.2 h
  simp only[hk,c1,c2]
 ·have e' :q.k=12\/q.k=13\/q.k=14:=hk▸e
  rw[aj (by omega),aj (by omega),aj (by omega),aj (by omega),aj (by omega),aj (by omega),aE e,aj (by omega),aj (by omega),aj (by omega),aj (by omega),aj (by omega),aj (by omega),aE e',hk]
 ·have e' :q.k=4\/q.k=5\/q.k=6\/q.k=7\/q.k=11:=hk▸e
  have f:=nQ e h2;have g:=nQ e' g2;rw[aj (by omega),aj (by omega),aj (by omega),aj (by omega),aj (by omega),aj (by omega),aj (by omega),aj (by omega),aj (by omega),aj (by omega),aj (by omega),aj (by omega),aj (by omega),aj (by omega)]at h;rw[aj (by omega),aj (by omega),aj (by omega),aj (by omega),aj (by omega),aj (by omega),aj (by omega),aj (by omega),aj (by omega),aj (by omega),aj (by omega),aj (by omega),aj (by omega),aj (by omega)];obtain⟨c1,_⟩:=pV (m:=p.id) (n:=q.id) (r:= []) (r' := []) (by omega) (by omega) (by rw[h]);simp only[hk,c1]
/-- No packet's bytes begin with another one's. -/
theorem GG {p q:Pk}(hp:fD p=true)(hq:fD q=true){r r' :aG}(h:gu p++r=gu q++r')(hr:r= []\/r' = []):p=q/\r=r' :=by
 obtain⟨x,l,s,a1,a2,a3,a4,a5,a6,a7⟩:=yO hp r;obtain⟨y,m,t,b1,b2,b3,b4,b5,b6,b7⟩:=yO hq r';rw[a1,b1]at h;injection h with h1 h2
 subst h1 h2;rw[a4]at b4;injection b4 with b4
 injection b4 with b4
 injection b4 with c1 c2
 subst c2;rw[a5]at b5;have k1:=bW.1 (bF hp).1;have k2:=bW.1 (bF hq).1;have hk:p.k=q.k:=by omega
 have hl:r.length=r'.length:=by omega
 have h0:r= []/\r' = []:=by
  rcases hr with rfl | rfl
  ·exact⟨rfl,List.length_eq_zero_iff.1 (by rw[<-hl];rfl)⟩
  ·exact⟨List.length_eq_zero_iff.1 (by rw[hl];rfl),rfl⟩
 rw[h0.1,h0.2,dJ,dJ]at b5;exact⟨Da hp hq hk (by omega) b5,by rw[h0.1,h0.2]⟩
theorem ER {p q:Pk}(hp:fD p=true)(hq:fD q=true)(h:gu p=gu q):p=q:=
 (GG (r:= []) (r' := []) hp hq (by rw[h]) (.inl rfl)).1

def aH (f n:Nat):Bool:=decide (f / n % 2=1)
/-- A text that is there only where a bit is. -/
def jj (b:Bool)(l:aG):Option (aG×aG):=if b=true then cQ l else some ([],l)
/-- Things are read till nothing is left. -/
def bM {α:Type}(rd:aG->Option (α×aG)):Nat->aG->Option (List α)
 | _, []=>some []
 | 0,_::_=>none
 | f+1,x::l=>(rd (x::l)).bind λr=>(bM rd f r.2).bind λaz=>some (r.1::az)
def cU (l:aG):Option ((aG×Int)×aG):=(cQ l).bind λs=>(jv 1 s.2).bind λq=>some ((s.1,(q.1:Int)),q.2)
def dC (l:aG):Option (Int×aG):=(jv 1 l).bind λq=>some ((q.1:Int),q.2)
def Fe:aG:= [77,81,84,84]
/-- The flags of a connect. -/
def nU (f:Nat):Pk:={bN with k:=1,hu:=aH f 128,hp:=aH f 64,wr:=aH f 32,hw:=aH f 4,cl:=aH f 2,wq:=(f / 8 % 4:Nat)}
def iE (f kp:Nat)(c wt wb u pw:aG):Pk:={nU f with keep:=(kp:Int),c:=c,wt:=wt,wb:=wb,u:=u,pw:=pw}
def yN (f:Nat)(kp:Nat)(l:aG):Option (Pk×aG):=
 (cQ l).bind λc=>(jj (aH f 4) c.2).bind λwt=>(jj (aH f 4) wt.2).bind λwb=>(jj (aH f 128) wb.2).bind λu=>(jj (aH f 64) u.2).bind λpw=>
  if cM (nU f)=f then some (iE f kp c.1 wt.1 wb.1 u.1 pw.1,pw.2)else none
def nK (l:aG):Option (Pk×aG):=(jv 1 l).bind λf=>(jv 2 f.2).bind λkp=>yN f.1 kp.1 kp.2
def uc (l:aG):Option (Pk×aG):=(cQ l).bind λm=>if m.1=Fe then(jv 1 m.2).bind λv=>if v.1=4 then nK v.2 else none else none
def lj (l:aG):Option (Pk×aG):=(jv 1 l).bind λi=>if i.1<=1 then(jv 1 i.2).bind λc=>some ({bN with k:=2,pr:=decide (i.1=1),code:=(c.1:Int)},c.2)else none
def mh (f:Nat)(l:aG):Option (Pk×aG):=
 (cQ l).bind λt=>if 0 < f / 2 % 4 then(jv 2 t.2).bind λi=>some ({bN with k:=3,dup:=aH f 8,ret:=aH f 1,q:=(f / 2 % 4:Nat),t:=t.1,id:=(i.1:Int),b:=i.2}, [])
  else some ({bN with k:=3,dup:=aH f 8,ret:=aH f 1,q:=(f / 2 % 4:Nat),t:=t.1,b:=t.2}, [])
def iK (k:Int)(l:aG):Option (Pk×aG):=(jv 2 l).bind λi=>
 if k=8 then(bM cU i.2.length i.2).bind λaz=>some ({bN with k:=k,id:=(i.1:Int),wants:=az}, [])
 else if k=9 then(bM dC i.2.length i.2).bind λaz=>some ({bN with k:=k,id:=(i.1:Int),aF:=az}, [])
 else if k=10 then(bM cQ i.2.length i.2).bind λaz=>some ({bN with k:=k,id:=(i.1:Int),fs:=az}, [])
 else some ({bN with k:=k,id:=(i.1:Int)},i.2)
/-- What is read of the bytes behind a packet's length. -/
def kg (k:Int)(f:Nat)(l:aG):Option (Pk×aG):=
 if k=1 then uc l else if k=2 then lj l else if k=3 then mh f l else if k=12\/k=13\/k=14 then some ({bN with k:=k},l)else iK k l
section
variable {α:Type} {rd:aG->Option (α×aG)} {enc:α->aG}
theorem jI:∀(f:Nat) (az:List α) (_:∀a∈az,(∀r,rd (enc a++r)=some (a,r))/\enc a≠ []) (_:(az.flatMap enc).length<=f),bM rd f (az.flatMap enc)=some az
 | f, [],_,_=>by cases f <;> rfl
 | f,a::az,h,hf=>by
  obtain⟨h1,h2⟩:=h a (by simp)
  rcases he:enc a with _ | ⟨x,l⟩
  ·exact absurd he h2
  ·have e:(a::az).flatMap enc=x::(l++az.flatMap enc):=by rw[kA,he];rfl
   rw[e]at hf ⊢
   cases f with
   | zero=>simp at hf
   | succ f=>
    have h3:=h1 (az.flatMap enc);rw[he,jS]at h3;rw[bM,h3];have:=jI f az (λb hb=>h b (by simp[hb])) (by simp only[du,bI]at hf;omega);simp only[di,this]
theorem ig (h:∀l a r,rd l=some (a,r)->l=enc a++r):∀(f:Nat) (l:aG) (az:List α),bM rd f l=some az->l=az.flatMap enc
 | f, [],az,e=>by
  have:az= []:=by cases f <;> (injection e with e;exact e.symm)
  subst this;rfl
 | 0,_::_,az,e=>by cases e
 | f+1,x::l,az,e=>by
  rw[bM,cj]at e;obtain⟨⟨a,r⟩,e1,e2⟩:=e;rw[cj]at e2;obtain⟨bs,e3,e4⟩:=e2;injection e4 with e4
  subst e4;rw[kA,<-ig h f r bs e3];exact h _ _ _ e1
/-- One step of the loop. -/
theorem Ct {f:Nat}{l r:aG}{a:α}(hl:l≠ [])(hf:l.length<=f+1)(e:rd l=some (a,r)):bM rd (f+1) l=(bM rd f r).bind λaz=>some (a::az):=by
 cases l with
 | nil=>exact absurd rfl hl
 | cons x l=>rw[bM,e];rfl
theorem Cu {f:Nat}{l:aG}(hl:l≠ [])(e:rd l=none):bM rd f l=none:=by
 cases l with
 | nil=>exact absurd rfl hl
 | cons x l=>
  cases f with
  | zero=>rfl
  | succ f=>rw[bM,e];rfl
/-- More than enough rounds are enough. -/
theorem vE (hr:∀l a r,rd l=some (a,r)->r.length < l.length):∀(f g:Nat) (l:aG),l.length<=f->l.length<=g->bM rd f l=bM rd g l
 | f,g, [],_,_=>by cases f <;> cases g <;> rfl
 | 0,_,_::_,hf,_=>by simp at hf
 | _,0,_::_,_,hg=>by simp at hg
 | f+1,g+1,x::l,hf,hg=>by
  rw[bM,bM]
  rcases e:rd (x::l)with _ | ⟨a,r⟩
  ·rfl
  ·have:=hr _ _ _ e
   simp only[di];rw[vE hr f g r (by simp only[du]at*;omega) (by simp only[du]at*;omega)]
end
theorem vB {w:aG×Int}(h1:w.1.length<=200)(h2:0<=w.2/\w.2<=2)(r:aG):cU ((aO w.1++aX w.2.toNat)++r)=some (w,r):=by
 unfold cU aO aX;rw[eK,rT (by omega),di,ez (by simp;omega),di,jQ h2.1]
theorem vD {c:Int}(h:0<=c/\c<=255)(r:aG):dC (aX c.toNat++r)=some (c,r):=by
 unfold dC aX;rw[ez (by simp;omega),di,jQ h.1]
theorem ic {s:aG}(h:s.length<=60000)(r:aG):cQ (aO s++r)=some (s,r):=rT (by omega) r
theorem rW {b:Bool}{s:aG}(h:s.length<=60000)(h0:b=false->s= [])(r:aG):jj b (dB b (aO s)++r)=some (s,r):=by
 cases b with
 | true=>exact ic h r
 | false=>rw[h0 rfl];rfl
theorem nH {l r:aG}{w:aG×Int}(h:cU l=some (w,r)):l=(aO w.1++aX w.2.toNat)++r:=by
 unfold cU at h;rw[cj]at h;obtain⟨⟨s,l1⟩,h1,h2⟩:=h;rw[cj]at h2;obtain⟨⟨q,l2⟩,h2,h3⟩:=h2;injection h3 with h3
 injection h3 with h3 h4
 subst h3 h4;rw[(eH h1).1,show l1=dZ 1 q++l2 from(bJ h2).1];simp[aO,aX]
theorem nI {l r:aG}{w:aG×Int}(h:cU l=some (w,r)):r.length < l.length:=by
 have:=ek List.length (nH h);rw[bI,bI,bB]at this;omega
theorem nL {l r:aG}{c:Int}(h:dC l=some (c,r)):l=aX c.toNat++r:=by
 unfold dC at h;rw[cj]at h;obtain⟨⟨q,l2⟩,h2,h3⟩:=h;injection h3 with h3
 injection h3 with h3 h4
 subst h3 h4;exact(bJ h2).1
theorem nM {l r:aG}{c:Int}(h:dC l=some (c,r)):r.length < l.length:=by
 have:=ek List.length (nL h);rw[bI,aX,aP]at this;omega
theorem gE {l r s:aG}(h:cQ l=some (s,r)):l=aO s++r:=(eH h).1
theorem mV {l r s:aG}(h:cQ l=some (s,r)):r.length < l.length:=by
 have:=(eH h).2.2;omega
theorem nJ {b:Bool}{l r s:aG}(h:jj b l=some (s,r)):l=dB b (aO s)++r/\(b=false->s= []):=by
 cases b with
 | true=>exact⟨gE h,λe=>by cases e⟩
 | false=>
  injection h with h
  injection h with h1 h2
  subst h1 h2;exact⟨rfl,λ_=>rfl⟩
theorem kN (b:Bool)(f n:Nat)(h:f / n % 2=g_ b 1):aH f n=b:=by
 unfold aH;rw[h]
 cases b <;> rfl
theorem Ed {p:Pk}(hq:0<=p.wq/\p.wq<=2):nU (cM p)= {bN with k:=1,hu:=p.hu,hp:=p.hp,wr:=p.wr,hw:=p.hw,cl:=p.cl,wq:=p.wq}:=by
 have e:cM p=128*g_ p.hu 1+64*g_ p.hp 1+32*g_ p.wr 1+4*g_ p.hw 1+2*g_ p.cl 1+8*p.wq.toNat:=by
  unfold cM;rw[d_ p.hu,d_ p.hp,d_ p.wr,d_ p.hw,d_ p.cl]
 have a1:=bY p.hu 1;have a2:=bY p.hp 1;have a3:=bY p.wr 1;have a4:=bY p.hw 1;have a5:=bY p.cl 1;unfold nU;rw[kN p.hu _ 128 (by omega),kN p.hp _ 64 (by omega),kN p.wr _ 32 (by omega),kN p.hw _ 4 (by omega),kN p.cl _ 2 (by omega),show((cM p / 8 % 4:Nat):Int)=p.wq by omega]
theorem uM {p:Pk}(e:p.k=1):bg p=aO [77,81,84,84]++(aX 4++(aX (cM p)++(bA p.keep++(aO p.c++(dB p.hw (aO p.wt++aO p.wb)++(dB p.hu (aO p.u)++dB p.hp (aO p.pw))))))):=by
 unfold bg;rw[aE e]
theorem yY {p:Pk}(e:p.k=2):bg p=aX (g_ p.pr 1)++aX p.code.toNat:=by
 unfold bg;rw[aj (by omega),aE e]
theorem yX {p:Pk}(e:p.k=3):bg p=aO p.t++(dB (decide (0 < p.q)) (bA p.id)++p.b):=by
 unfold bg;rw[aj (by omega),aj (by omega),aE e]
theorem uL {p:Pk}(e:p.k=8):bg p=bA p.id++p.wants.flatMap λw=>aO w.1++aX w.2.toNat:=by
 unfold bg;rw[aj (by omega),aj (by omega),aj (by omega),aE e]
theorem uK {p:Pk}(e:p.k=9):bg p=bA p.id++p.aF.flatMap λc=>aX c.toNat:=by
 unfold bg;rw[aj (by omega),aj (by omega),aj (by omega),aj (by omega),aE e]
theorem sm {p:Pk}(e:p.k=10):bg p=bA p.id++p.fs.flatMap aO:=by
 unfold bg;rw[aj (by omega),aj (by omega),aj (by omega),aj (by omega),aj (by omega),aE e]
theorem Ba {p:Pk}(e:p.k=12\/p.k=13\/p.k=14):bg p= []:=by
 unfold bg;rw[aj (by omega),aj (by omega),aj (by omega),aj (by omega),aj (by omega),aj (by omega),aE e]
theorem sj {p:Pk}(e:p.k=4\/p.k=5\/p.k=6\/p.k=7\/p.k=11):bg p=bA p.id:=by
 unfold bg;rw[aj (by omega),aj (by omega),aj (by omega),aj (by omega),aj (by omega),aj (by omega),aj (by omega)]
theorem eV {k:Int}(h:4<=k/\k<=11)(f:Nat)(l:aG):kg k f l=iK k l:=by
 unfold kg;rw[aj (by omega),aj (by omega),aj (by omega),aj (by omega)]
theorem tB {k:Int}(h:k=12\/k=13\/k=14)(f:Nat)(l:aG):kg k f l=some ({bN with k:=k},l):=by
 unfold kg;rw[aj (by omega),aj (by omega),aj (by omega),aE h]
/-- What a packet that may be says is read again. -/
theorem Jy {p:Pk}(h:fD p=true):kg p.k (kM p) (bg p)=some (p, []):=by
 obtain⟨h1,h2,h3⟩:=bF h
 rcases jl h1 with e | e | e | e | e | e | e | e
 ·have f:=nR e h2
  rw[uM e,e];rw[show∀f l,kg 1 f l=uc l from λf l=>by unfold kg;rw[aE rfl]];unfold uc aX;rw[ic (s:= [77,81,84,84]) (by simp),di];simp only;rw[aE (show([77,81,84,84]:aG)=Fe from rfl),ez (by decide),di];simp only;rw[aE trivial];unfold nK;rw[ez (by have:=mX f.will.2.2.2;omega),di,bA];simp only;rw[ez (by have:=f.keep;omega),di];unfold yN;rw[ic (by have:=f.c;omega),di];have ew:dB p.hw (aO p.wt++aO p.wb)=dB p.hw (aO p.wt)++dB p.hw (aO p.wb):=by cases p.hw <;> rfl
  have c0:=Ed f.will.2.2;have c1:aH (cM p) 4=p.hw:=ek Pk.hw c0;have c2:aH (cM p) 128=p.hu:=ek Pk.hu c0;have c3:aH (cM p) 64=p.hp:=ek Pk.hp c0;simp only;rw[c1,c2,c3,ew,eK,rW (by have:=f.will;omega) (λe=>(f.nw e).1),di];simp only;rw[rW (by have:=f.will;omega) (λe=>(f.nw e).2.1),di];simp only;rw[rW (by have:=f.u;omega) (λe=>(f.u.2 e).1),di];simp only;have hl:=rW (b:=p.hp) (s:=p.pw) (by have:=f.pw;omega) f.pw.2 [];rw[dJ]at hl;rw[hl,di];simp only;unfold iE;have hcc:cM {bN with k:=1,hu:=p.hu,hp:=p.hp,wr:=p.wr,hw:=p.hw,cl:=p.cl,wq:=p.wq} =cM p:=by unfold cM;rfl
  rw[c0,hcc,aE rfl,show((p.keep.toNat:Nat):Int)=p.keep from jQ f.keep.1]
  congr 2
  unfold aL at h3;rw[aE e]at h3;rw[e]at h3;exact h3
 ·have f:=pX e h2
  unfold aL at h3;rw[aj (by omega),aE e]at h3;rw[yY e,e];rw[show∀f l,kg 2 f l=lj l from λf l=>by unfold kg;rw[aj (by omega),aE rfl]];unfold lj aX;rw[ez (by have:=bY p.pr 1;omega),di,aE (bY p.pr 1)];have:=ez (k:=1) (n:=p.code.toNat) (by simp;omega) [];rw[dJ]at this;rw[this,di,show((p.code.toNat:Nat):Int)=p.code from jQ f.1,show decide (g_ p.pr 1=1)=p.pr by cases p.pr <;> rfl]
  congr 2
  rw[e]at h3;exact h3
 ·have f:=jN e h2
  unfold aL at h3;rw[aj (by omega),aj (by omega),aE e]at h3;rw[yX e,e,show kM p=jq p by unfold kM;rw[aE e]];rw[show∀f l,kg 3 f l=mh f l from λf l=>by unfold kg;rw[aj (by omega),aj (by omega),aE rfl]];have ef:jq p=8*g_ p.dup 1+g_ p.ret 1+2*p.q.toNat:=by
   unfold jq;rw[d_ p.dup]
  have a1:=bY p.dup 1;have a2:=bY p.ret 1;unfold mh;rw[ic (by omega),di,kN p.dup _ 8 (by omega),kN p.ret _ 1 (by omega),show jq p / 2 % 4=p.q.toNat by omega,show((p.q.toNat:Nat):Int)=p.q from jQ f.2.2.1.1]
  by_cases hq:0 < p.q
  ·rw[bz hq,aE (by omega)]
   unfold dB bA;rw[aE rfl,ez (by simp;omega),di,show((p.id.toNat:Nat):Int)=p.id from jQ f.2.2.2.1.1]
   congr 2
   rw[e]at h3;exact h3
  ·rw[aZ hq,aj (by omega)]
   congr 2
   have h4:=f.2.2.2.2 (by omega);rw[e,h4.1]at h3;exact h3
 ·have f:=nP e h2
  unfold aL at h3;rw[aj (by omega),aj (by omega),aj (by omega),aE e]at h3;rw[uL e,eV (by omega)];unfold iK bA;rw[ez (by have:=f.1;simp;omega),di,aE e,jI _ _ (λw hw=>⟨λr=>vB (f.2.2.2 w hw).1 (f.2.2.2 w hw).2 r,λhn=>by
   have:=ek List.length hn;rw[bI,bB]at this;simp at this⟩) (bE _),di,show((p.id.toNat:Nat):Int)=p.id from jQ (by have:=f.1;omega)]
  congr 2
 ·have f:=nO e h2
  unfold aL at h3;rw[aj (by omega),aj (by omega),aj (by omega),aj (by omega),aE e]at h3;rw[uK e,eV (by omega)];unfold iK bA;rw[ez (by have:=f.1;simp;omega),di,aj (by omega),aE e,jI _ _ (λw hw=>⟨λr=>vD (f.2.2.2 w hw) r,λhn=>by
   have:=ek List.length hn;rw[aX,aP]at this;simp at this⟩) (bE _),di,show((p.id.toNat:Nat):Int)=p.id from jQ (by have:=f.1;omega)]
  congr 2
 ·have f:=lp e h2
  unfold aL at h3;rw[aj (by omega),aj (by omega),aj (by omega),aj (by omega),aj (by omega),aE e]at h3;rw[sm e,eV (by omega)];unfold iK bA;rw[ez (by have:=f.1;simp;omega),di,aj (by omega),aj (by omega),aE e,jI _ _ (λw hw=>⟨λr=>ic (by have:=f.2.2.2 w hw;omega) r,λhn=>by
   have:=ek List.length hn;rw[bB]at this;simp at this⟩) (bE _),di,show((p.id.toNat:Nat):Int)=p.id from jQ (by have:=f.1;omega)]
  congr 2
 ·unfold aL at h3
  rw[aj (by omega),aj (by omega),aj (by omega),aj (by omega),aj (by omega),aj (by omega),aE e]at h3;rw[Ba e,tB e]
  congr 2
 ·have f:=nQ e h2
  unfold aL at h3;rw[aj (by omega),aj (by omega),aj (by omega),aj (by omega),aj (by omega),aj (by omega),aj (by omega)]at h3;rw[sj e,eV (by omega)];unfold iK bA;have:=ez (k:=2) (n:=p.id.toNat) (by simp;omega) [];rw[dJ]at this;rw[this,di,aj (by omega),aj (by omega),aj (by omega),show((p.id.toNat:Nat):Int)=p.id from jQ (by omega)]
  congr 2
/-- What is read of bytes, those bytes tell. -/
theorem r9 {k:Int}{f:Nat}{l t:aG}{p:Pk}(hk:dz k 1 14=true)(h:kg k f l=some (p,t)):p.k=k/\l=bg p++t:=by
 unfold kg at h
 rcases jl hk with e | e | e | e | e | e | e | e
 ·rw[aE e]at h
  unfold uc at h;rw[cj]at h;obtain⟨⟨m,l1⟩,h1,h⟩:=h;simp only at h
  split at h
  ·rename_i hm
   rw[cj]at h;obtain⟨⟨v,l2⟩,h2,h⟩:=h;simp only at h
   split at h
   ·rename_i hv
    unfold nK at h;rw[cj]at h;obtain⟨⟨c,l3⟩,h3,h⟩:=h;rw[cj]at h;obtain⟨⟨kp,l4⟩,h4,h⟩:=h;unfold yN at h;rw[cj]at h;obtain⟨⟨cl,l5⟩,h5,h⟩:=h;rw[cj]at h;obtain⟨⟨wt,l6⟩,h6,h⟩:=h;rw[cj]at h;obtain⟨⟨wb,l7⟩,h7,h⟩:=h;rw[cj]at h;obtain⟨⟨u,l8⟩,h8,h⟩:=h;rw[cj]at h;obtain⟨⟨pw,l9⟩,h9,h⟩:=h;simp only at h h3 h4 h5 h6 h7 h8 h9 hm hv
    split at h
    ·rename_i hc
     injection h with h
     injection h with g1 g2
     subst g1 g2;refine⟨e.symm, ?_⟩;rw[gE h1,hm,(bJ h2).1,hv,(bJ h3).1,(bJ h4).1,gE h5,(nJ h6).1,(nJ h7).1,(nJ h8).1,(nJ h9).1];rw[uM rfl];have gO:cM (iE c kp cl wt wb u pw)=c:=hc;rw[gO];have ew:dB (aH c 4) (aO wt++aO wb)=dB (aH c 4) (aO wt)++dB (aH c 4) (aO wb):=by cases aH c 4 <;> rfl
     show _=(aO [77,81,84,84]++(aX 4++(aX c++(bA kp++(aO cl++(dB (aH c 4) (aO wt++aO wb)++(dB (aH c 128) (aO u)++dB (aH c 64) (aO pw))))))))++l9;rw[ew];simp only[eK,aX,bA,fT,Fe]
    ·cases h
   ·cases h
  ·cases h
 ·rw[aj (by omega),aE e]at h
  unfold lj at h;rw[cj]at h;obtain⟨⟨i,l1⟩,h1,h⟩:=h;simp only at h
  split at h
  ·rename_i hi
   rw[cj]at h;obtain⟨⟨c,l2⟩,h2,h⟩:=h;injection h with h
   injection h with g1 g2
   subst g1 g2;refine⟨e.symm, ?_⟩;unfold bg;rw[aj (by simp),aE rfl,(bJ h1).1,show l1=dZ 1 c++l2 from(bJ h2).1];have:g_ (decide (i=1)) 1=i:=by
    have:i=0\/i=1:=by omega
    rcases this with rfl | rfl <;> rfl
   simp only[this,aX,fT,eK]
  ·cases h
 ·rw[aj (by omega),aj (by omega),aE e]at h
  unfold mh at h;rw[cj]at h;obtain⟨⟨s,l1⟩,h1,h⟩:=h;simp only at h
  split at h
  ·rename_i hq
   rw[cj]at h;obtain⟨⟨i,l2⟩,h2,h⟩:=h;injection h with h
   injection h with g1 g2
   subst g1 g2;refine⟨e.symm, ?_⟩;unfold bg;rw[aj (by simp),aj (by simp),aE rfl,gE h1,show l1=dZ 2 i++l2 from(bJ h2).1];simp only[dB,bA,fT,dJ];rw[bz (by omega),aE rfl]
  ·rename_i hq
   injection h with h
   injection h with g1 g2
   subst g1 g2;refine⟨e.symm, ?_⟩;unfold bg;rw[aj (by simp),aj (by simp),aE rfl,gE h1];simp only[dB,dJ];rw[aZ (by omega)];rfl
 ·rw[aj (by omega),aj (by omega),aj (by omega),aj (by omega)]at h
  unfold iK at h;rw[cj]at h;obtain⟨⟨i,l1⟩,h1,h⟩:=h;rw[aE e,cj]at h;obtain⟨az,h2,h⟩:=h;injection h with h
  injection h with g1 g2
  subst g1 g2 e;refine⟨rfl, ?_⟩;unfold bg;rw[aj (by simp),aj (by simp),aj (by simp),aE rfl,(bJ h1).1,show l1=_ from ig (λl a r h=>nH h) _ _ _ h2];simp only[bA,fT,dJ]
 ·rw[aj (by omega),aj (by omega),aj (by omega),aj (by omega)]at h
  unfold iK at h;rw[cj]at h;obtain⟨⟨i,l1⟩,h1,h⟩:=h;rw[aj (by omega),aE e,cj]at h;obtain⟨az,h2,h⟩:=h;injection h with h
  injection h with g1 g2
  subst g1 g2 e;refine⟨rfl, ?_⟩;unfold bg;rw[aj (by simp),aj (by simp),aj (by simp),aj (by simp),aE rfl,(bJ h1).1,show l1=_ from ig (λl a r h=>nL h) _ _ _ h2];simp only[bA,fT,dJ]
 ·rw[aj (by omega),aj (by omega),aj (by omega),aj (by omega)]at h
  unfold iK at h;rw[cj]at h;obtain⟨⟨i,l1⟩,h1,h⟩:=h;rw[aj (by omega),aj (by omega),aE e,cj]at h;obtain⟨az,h2,h⟩:=h;injection h with h
  injection h with g1 g2
  subst g1 g2 e;refine⟨rfl, ?_⟩;unfold bg;rw[aj (by simp),aj (by simp),aj (by simp),aj (by simp),aj (by simp),aE rfl,(bJ h1).1,show l1=_ from ig (λl a r h=>gE h) _ _ _ h2];simp only[bA,fT,dJ]
 ·rw[aj (by omega),aj (by omega),aj (by omega),aE e]at h
  injection h with h
  injection h with g1 g2
  subst g1 g2;refine⟨rfl, ?_⟩;unfold bg;simp only;rw[aj (by omega),aj (by omega),aj (by omega),aj (by omega),aj (by omega),aj (by omega),aE e];rfl
 ·rw[aj (by omega),aj (by omega),aj (by omega),aj (by omega)]at h
  unfold iK at h;rw[cj]at h;obtain⟨⟨i,l1⟩,h1,h⟩:=h;rw[aj (by omega),aj (by omega),aj (by omega)]at h;injection h with h
  injection h with g1 g2
  subst g1 g2;refine⟨rfl, ?_⟩;unfold bg;simp only;rw[aj (by omega),aj (by omega),aj (by omega),aj (by omega),aj (by omega),aj (by omega),aj (by omega),(bJ h1).1];simp only[bA,fT]

/-- A packet of no more than is done here. -/
structure rl (p:Pk):Prop where
 t:p.t.length<=50000
 b:p.b.length<=50000
 c:p.c.length<=50000
 u:p.u.length<=50000
 pw:p.pw.length<=50000
 wt:p.wt.length<=50000
 wb:p.wb.length<=50000
 wants:p.wants.length<=50000/\∀x∈p.wants,x.1.length<=50000
 aF:p.aF.length<=50000
 fs:p.fs.length<=50000/\∀x∈p.fs,x.length<=50000
theorem p9 {α:Type}{f:α->aG}:∀{l:List α},(∀x∈l,1<=(f x).length)->l.length<=(l.flatMap f).length
 | [],_=>by simp
 | a::l,h=>by
  have h1:=h a (by simp);have h2:=p9 (l:=l) (λx hx=>h x (by simp[hx]));rw[kA,bI,du];omega
theorem wj {α:Type}{f:α->aG}{x:α}:∀{l:List α},x∈l->(f x).length<=(l.flatMap f).length
 | a::l,h=>by
  rw[kA,bI]
  rcases List.mem_cons.1 h with rfl | h
  ·omega
  ·have:=wj (f:=f) h
   omega
theorem rV {b:Bool}{l r s:aG}(h:jj b l=some (s,r)):s.length+r.length<=l.length:=by
 cases b with
 | true=>
  have:=(eH h).2.2;omega
 | false=>
  injection h with h
  injection h with h1 h2
  subst h1 h2;simp
theorem xS (k id:Int):rl {bN with k:=k,id:=id}:=⟨by simp[bN],by simp[bN],by simp[bN],by simp[bN],by simp[bN],by simp[bN],by simp[bN],by simp[bN],by simp[bN],by simp[bN]⟩
theorem o6 {k:Int}{f:Nat}{l t:aG}{p:Pk}(hk:dz k 1 14=true)(hl:l.length<=50000)(h:kg k f l=some (p,t)):rl p:=by
 rcases jl hk with e | e | e | e | e | e | e | e
 ·unfold kg at h
  rw[aE e]at h;unfold uc at h;rw[cj]at h;obtain⟨⟨m,l1⟩,h1,h⟩:=h;simp only at h
  split at h
  ·rw[cj]at h
   obtain⟨⟨v,l2⟩,h2,h⟩:=h;simp only at h
   split at h
   ·unfold nK at h
    rw[cj]at h;obtain⟨⟨c,l3⟩,h3,h⟩:=h;rw[cj]at h;obtain⟨⟨kp,l4⟩,h4,h⟩:=h;unfold yN at h;rw[cj]at h;obtain⟨⟨cl,l5⟩,h5,h⟩:=h;rw[cj]at h;obtain⟨⟨wt,l6⟩,h6,h⟩:=h;rw[cj]at h;obtain⟨⟨wb,l7⟩,h7,h⟩:=h;rw[cj]at h;obtain⟨⟨u,l8⟩,h8,h⟩:=h;rw[cj]at h;obtain⟨⟨pw,l9⟩,h9,h⟩:=h;simp only at h h2 h3 h4 h5 h6 h7 h8 h9
    split at h
    ·injection h with h
     injection h with g1 g2
     subst g1 g2;have a1:=(eH h1).2.2;have a2:=(bJ h2).2.2;have a3:=(bJ h3).2.2;have a4:=(bJ h4).2.2;have a5:=(eH h5).2.2;have a6:=rV h6;have a7:=rV h7;have a8:=rV h8;have a9:=rV h9;exact⟨by simp[iE,nU,bN],by simp[iE,nU,bN],show cl.length<=50000 by omega,show u.length<=50000 by omega,show pw.length<=50000 by omega,show wt.length<=50000 by omega,show wb.length<=50000 by omega,by simp[iE,nU,bN],by simp[iE,nU,bN],by simp[iE,nU,bN]⟩
    ·cases h
   ·cases h
  ·cases h
 ·unfold kg at h
  rw[aj (by omega),aE e]at h;unfold lj at h;rw[cj]at h;obtain⟨⟨i,l1⟩,h1,h⟩:=h;simp only at h
  split at h
  ·rw[cj]at h
   obtain⟨⟨c,l2⟩,h2,h⟩:=h;injection h with h
   injection h with g1 g2
   subst g1 g2;exact⟨by simp[bN],by simp[bN],by simp[bN],by simp[bN],by simp[bN],by simp[bN],by simp[bN],by simp[bN],by simp[bN],by simp[bN]⟩
  ·cases h
 ·unfold kg at h
  rw[aj (by omega),aj (by omega),aE e]at h;unfold mh at h;rw[cj]at h;obtain⟨⟨s,l1⟩,h1,h⟩:=h;have a1:=(eH h1).2.2;simp only at h
  split at h
  ·rw[cj]at h
   obtain⟨⟨i,l2⟩,h2,h⟩:=h;have a2:=(bJ (show jv 2 l1=some (i,l2)from h2)).2.2;injection h with h
   injection h with g1 g2
   subst g1 g2;exact⟨show s.length<=50000 by omega,show l2.length<=50000 by omega,by simp[bN],by simp[bN],by simp[bN],by simp[bN],by simp[bN],by simp[bN],by simp[bN],by simp[bN]⟩
  ·injection h with h
   injection h with g1 g2
   subst g1 g2;exact⟨show s.length<=50000 by omega,show l1.length<=50000 by omega,by simp[bN],by simp[bN],by simp[bN],by simp[bN],by simp[bN],by simp[bN],by simp[bN],by simp[bN]⟩
 ·rw[eV (by omega)]at h
  unfold iK at h;rw[cj]at h;obtain⟨⟨i,l1⟩,h1,h⟩:=h;have a1:=(bJ h1).2.2;rw[aE e,cj]at h;obtain⟨az,h2,h⟩:=h;injection h with h
  injection h with g1 g2
  subst g1 g2;have hl1:l1=az.flatMap λw=>aO w.1++aX w.2.toNat:=ig (λl a r h=>nH h) _ _ _ h2
  have b1:=p9 (f:=λw:aG×Int=>aO w.1++aX w.2.toNat) (l:=az) (λw _=>by rw[bI,bB];omega);rw[<-hl1]at b1;refine⟨by simp[bN],by simp[bN],by simp[bN],by simp[bN],by simp[bN],by simp[bN],by simp[bN],⟨show az.length<=50000 by omega,λx hx=> ?_⟩,by simp[bN],by simp[bN]⟩;have b2:=wj (f:=λw:aG×Int=>aO w.1++aX w.2.toNat) (show x∈az from hx);rw[<-hl1,bI,bB]at b2;omega
 ·rw[eV (by omega)]at h
  unfold iK at h;rw[cj]at h;obtain⟨⟨i,l1⟩,h1,h⟩:=h;have a1:=(bJ h1).2.2;rw[aj (by omega),aE e,cj]at h;obtain⟨az,h2,h⟩:=h;injection h with h
  injection h with g1 g2
  subst g1 g2;have hl1:l1=az.flatMap λc=>aX c.toNat:=ig (λl a r h=>nL h) _ _ _ h2
  have b1:=p9 (f:=λc:Int=>aX c.toNat) (l:=az) (λw _=>by rw[aX,aP];omega);rw[<-hl1]at b1;exact⟨by simp[bN],by simp[bN],by simp[bN],by simp[bN],by simp[bN],by simp[bN],by simp[bN],by simp[bN],show az.length<=50000 by omega,by simp[bN]⟩
 ·rw[eV (by omega)]at h
  unfold iK at h;rw[cj]at h;obtain⟨⟨i,l1⟩,h1,h⟩:=h;have a1:=(bJ h1).2.2;rw[aj (by omega),aj (by omega),aE e,cj]at h;obtain⟨az,h2,h⟩:=h;injection h with h
  injection h with g1 g2
  subst g1 g2;have hl1:l1=az.flatMap aO:=ig (λl a r h=>gE h) _ _ _ h2;have b1:=p9 (f:=aO) (l:=az) (λw _=>by rw[bB];omega);rw[<-hl1]at b1;refine⟨by simp[bN],by simp[bN],by simp[bN],by simp[bN],by simp[bN],by simp[bN],by simp[bN],by simp[bN],by simp[bN],⟨show az.length<=50000 by omega,λx hx=> ?_⟩⟩;have b2:=wj (f:=aO) (show x∈az from hx);rw[<-hl1,bB]at b2;omega
 ·rw[tB e]at h
  injection h with h
  injection h with g1 g2
  subst g1;exact xS k 0
 ·rw[eV (by omega)]at h
  unfold iK at h;rw[cj]at h;obtain⟨⟨i,l1⟩,h1,h⟩:=h;rw[aj (by omega),aj (by omega),aj (by omega)]at h;injection h with h
  injection h with g1 g2
  subst g1;exact xS k _
/-- What a packet has without its kind. -/
def fG (p:Pk):Pk:={aL p with k:=0}
theorem qT (p:Pk):{fG p with k:=p.k} =aL p:=by
 unfold fG aL;simp only
 split
 ·rfl
 ·split
  ·rfl
  ·split
   ·rfl
   ·split
    ·rfl
    ·split
     ·rfl
     ·split
      ·rfl
      ·split <;> rfl
/-- Bytes that these are the packet of. -/
def fc (b:aG)(p:Pk):Prop:=fD p=true/\gu p=b
theorem fc.one {b:aG}{p q:Pk}(h:fc b p)(g:fc b q):p=q:=ER h.1 g.1 (h.2.trans g.2.symm)
/-- The bytes' head, and what is behind. -/
theorem r_ {x:UInt8}{l:aG}{n s:Nat}(hl:gi l=some (some (n,s)))(hn:l.length - s=n){p:Pk}{t:aG}(hk:dz (x.toNat / 16:Nat) 1 14=true)(hr:kg (x.toNat / 16:Nat) (x.toNat % 16) (l.drop s)=some (p,t))(ht:t= [])(hf:kM p=x.toNat % 16)(ho:fD p=true):fc (x::l) p:=by
 obtain⟨e1,e2⟩:=r9 hk hr;refine⟨ho, ?_⟩;obtain⟨g1,g2,g3,g4⟩:=nW hl;subst ht;rw[dJ]at e2;unfold gu;rw[<-e2,hf,e1,show(l.drop s).length=n by rw[dQ];exact hn]
 congr 1
 ·apply UInt8.toNat_inj.1
  rw[eP (by have:=x.toNat_lt;omega)];omega
 ·rw[<-g4,List.take_append_drop]
/-- Bytes that no packet has. -/
theorem bP {x:UInt8}{l:aG}{p:Pk}(h:fc (x::l) p):∃s,gi l=some (some (l.length - s,s))/\s<=l.length/\1<=s/\s<=4/\p.k=(x.toNat / 16:Nat)/\kM p=x.toNat % 16/\kg (x.toNat / 16:Nat) (x.toNat % 16) (l.drop s)=some (p, []):=by
 obtain⟨y,m,s,a1,a2,a3,a4,a5,a6,a7⟩:=yO h.1 [];rw[dJ,h.2]at a1;injection a1 with a1 a0
 subst a1 a0;rw[dJ]at a5;have hk:=bW.1 (bF h.1).1;have e:p.k=((x.toNat / 16:Nat):Int):=by omega
 obtain⟨_,g2,g3,_⟩:=nW a4;have g5:=(gP (bg p).length).1;simp only[dR,fj]at a6;refine⟨s,by rw[a4,show l.length - s=(bg p).length by omega],g3,by omega,a7,e,a3.symm, ?_⟩;rw[a5,<-e,a3];exact Jy h.1
end Go.Proofs.YtahbikfbjenfpaaGreatDoor
