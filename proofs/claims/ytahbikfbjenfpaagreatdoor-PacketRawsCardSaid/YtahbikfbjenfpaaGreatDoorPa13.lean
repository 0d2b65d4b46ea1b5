/- Package packet, plain: what bytes are a packet's, they are no other one's. Package packet, plain: what is read of bytes behind a length. Package packet, plain: packets of no more than some fifty thousand bytes; what is read is one. -/
import Derived.Test.YtahbikfbjenfpaaGreatDoorPa12

namespace Go.Proofs.YtahbikfbjenfpaaGreatDoor
open Go

theorem pkB_mul (b:Bool)(n:Nat):pkB b n=n*pkB b 1:=by cases b <;> simp[pkB]
theorem pkB_inj {a b:Bool}(h:pkB a 1=pkB b 1):a=b:=by cases a <;> cases b <;> simp[pkB]at h ⊢
theorem pkConn_lt {p:Pk}(h:p.wq≤2):pkConn p < 256:=by
 unfold pkConn;have:=pkB_le p.hu 128;have:=pkB_le p.hp 64;have:=pkB_le p.wr 32;have:=pkB_le p.hw 4;have:=pkB_le p.cl 2;omega
theorem pkConn_inj {p q:Pk}(hp:0≤p.wq∧p.wq≤2)(hq:0≤q.wq∧q.wq≤2)(h:pkConn p=pkConn q):p.hu=q.hu∧p.hp=q.hp∧p.wr=q.wr∧p.hw=q.hw∧p.cl=q.cl∧p.wq=q.wq:=by
 unfold pkConn at h;rw[pkB_mul p.hu,pkB_mul p.hp,pkB_mul p.wr,pkB_mul p.hw,pkB_mul p.cl,pkB_mul q.hu,pkB_mul q.hp,pkB_mul q.wr,pkB_mul q.hw,pkB_mul q.cl]at h;have a1:=pkB_le p.hu 1;have a2:=pkB_le p.hp 1;have a3:=pkB_le p.wr 1;have a4:=pkB_le p.hw 1;have a5:=pkB_le p.cl 1;have b1:=pkB_le q.hu 1;have b2:=pkB_le q.hp 1;have b3:=pkB_le q.wr 1;have b4:=pkB_le q.hw 1;have b5:=pkB_le q.cl 1;exact⟨pkB_inj (by omega),pkB_inj (by omega),pkB_inj (by omega),pkB_inj (by omega),pkB_inj (by omega),by omega⟩
theorem pkPub_inj {p q:Pk}(hp:0≤p.q∧p.q≤2)(hq:0≤q.q∧q.q≤2)(h:pkPub p=pkPub q):p.dup=q.dup∧p.ret=q.ret∧p.q=q.q:=by
 unfold pkPub at h;rw[pkB_mul p.dup,pkB_mul p.ret,pkB_mul q.dup,pkB_mul q.ret]at h;have a1:=pkB_le p.dup 1;have a2:=pkB_le p.ret 1;have b1:=pkB_le q.dup 1;have b2:=pkB_le q.ret 1;exact⟨pkB_inj (by omega),pkB_inj (by omega),by omega⟩
theorem two_inj {m n:Int}{r r' :List UInt8}(hm:0≤m∧m≤65535)(hn:0≤n∧n≤65535)(h:pkTwo m++r=pkTwo n++r'):m=n∧r=r' :=by
 obtain⟨e1,e2⟩:=be_inj (k:=2) (by simp;omega) (by simp;omega) h;exact⟨by omega,e2⟩
theorem one_inj {m n:Nat}{r r' :List UInt8}(hm:m < 256)(hn:n < 256)(h:pkOne m++r=pkOne n++r'):m=n∧r=r' :=be_inj (k:=1) (by simpa using hm) (by simpa using hn) h
theorem tx_inj0 {a b:List UInt8}(ha:a.length < 65536)(hb:b.length < 65536)(h:pkTx a=pkTx b):a=b:=
 (tx_inj (r:= []) (r' := []) ha hb (by simpa using h)).1
theorem alone_inj {p q:Pk}(hp:pkAlone p=p)(hq:pkAlone q=q)(h:pkAlone p=pkAlone q):p=q:=by rw[←hp,←hq];exact h
theorem pkBody_inj {p q:Pk}(hp:pkOk p=true)(hq:pkOk q=true)(hk:p.k=q.k)(hf:pkF p=pkF q)(h:pkBody p=pkBody q):p=q:=by
 obtain⟨h1,h2,h3⟩:=pkOk_parts hp;obtain⟨g1,g2,g3⟩:=pkOk_parts hq;refine alone_inj h3 g3 ?_;unfold pkBody at h;unfold pkAlone
 rcases pk_kinds h1 with e | e | e | e | e | e | e | e
 ·have e' :q.k=1:=hk▸e
  have f:=pk_fit1 e h2;have g:=pk_fit1 e' g2;rw[if_pos e,if_pos e']at h ⊢
  have h:=List.append_cancel_left (List.append_cancel_left h);obtain⟨c1,h⟩:=one_inj (pkConn_lt f.will.2.2.2) (pkConn_lt g.will.2.2.2) h;obtain⟨d1,d2,d3,d4,d5,d6⟩:=pkConn_inj f.will.2.2 g.will.2.2 c1;obtain⟨c2,h⟩:=two_inj f.keep g.keep h;obtain⟨c3,h⟩:=tx_inj (by have:=f.c;omega) (by have:=g.c;omega) h;have hw:p.wt=q.wt∧p.wb=q.wb∧pkIf p.hu (pkTx p.u)++pkIf p.hp (pkTx p.pw)=pkIf q.hu (pkTx q.u)++pkIf q.hp (pkTx q.pw):=by
   rw[←d4]at h
   cases hw:p.hw with
   | true=>
    rw[hw]at h;have h:pkTx p.wt++pkTx p.wb++_=pkTx q.wt++pkTx q.wb++_:=h;rw[List.append_assoc,List.append_assoc]at h;obtain⟨c4,h⟩:=tx_inj (by have:=f.will;omega) (by have:=g.will;omega) h;obtain⟨c5,h⟩:=tx_inj (by have:=f.will;omega) (by have:=g.will;omega) h;exact⟨c4,c5,h⟩
   | false=>
    rw[hw]at h;obtain⟨x1,x2,_⟩:=f.nw hw;obtain⟨y1,y2,_⟩:=g.nw (d4▸hw);exact⟨by rw[x1,y1],by rw[x2,y2],h⟩
  obtain⟨c4,c5,h⟩:=hw;have hu:p.u=q.u∧pkIf p.hp (pkTx p.pw)=pkIf q.hp (pkTx q.pw):=by
   rw[←d1]at h
   cases hu:p.hu with
   | true=>
    rw[hu]at h;exact tx_inj (by have:=f.u.1;omega) (by have:=g.u.1;omega) h
   | false=>
    rw[hu]at h;exact⟨by rw[(f.u.2 hu).1,(g.u.2 (d1▸hu)).1],h⟩
  obtain⟨c6,h⟩:=hu;have c7:p.pw=q.pw:=by
   rw[←d2]at h
   cases hpp:p.hp with
   | true=>
    rw[hpp]at h;exact tx_inj0 (by have:=f.pw.1;omega) (by have:=g.pw.1;omega) h
   | false=>rw[f.pw.2 hpp,g.pw.2 (d2▸hpp)]
  simp only[hk,c2,c3,c4,c5,c6,c7,d1,d2,d3,d4,d5,d6]
 ·have e' :q.k=2:=hk▸e
  have f:=pk_fit2 e h2;have g:=pk_fit2 e' g2;rw[if_neg (by omega),if_pos e,if_neg (by omega),if_pos e']at h;rw[if_neg (by omega),if_pos e,if_neg (by omega),if_pos e'];obtain⟨c1,h⟩:=one_inj (by have:=pkB_le p.pr 1;omega) (by have:=pkB_le q.pr 1;omega) h;obtain⟨c2,_⟩:=one_inj (m:=p.code.toNat) (n:=q.code.toNat) (r:= []) (r' := []) (by omega) (by omega) (by rw[h]);have c3:p.code=q.code:=by omega
  simp only[hk,pkB_inj c1,c3]
 ·have e' :q.k=3:=hk▸e
  have f:=pk_fit3 e h2;have g:=pk_fit3 e' g2;rw[if_neg (by omega),if_neg (by omega),if_pos e,if_neg (by omega),if_neg (by omega),if_pos e']at h;rw[if_neg (by omega),if_neg (by omega),if_pos e,if_neg (by omega),if_neg (by omega),if_pos e'];unfold pkF at hf;rw[if_pos e,if_pos e']at hf;obtain⟨d1,d2,d3⟩:=pkPub_inj f.2.2.1 g.2.2.1 hf;obtain⟨c1,h⟩:=tx_inj (by omega) (by omega) h;have hid:p.id=q.id∧p.b=q.b:=by
   rw[←d3]at h
   by_cases hq0:0 < p.q
   ·rw[decide_eq_true hq0]at h
    exact two_inj f.2.2.2.1 g.2.2.2.1 h
   ·rw[decide_eq_false hq0]at h
    have hz:p.q=0:=by omega
    exact⟨by rw[(f.2.2.2.2 hz).1,(g.2.2.2.2 (d3▸hz)).1],h⟩
  simp only[hk,d1,d2,d3,c1,hid.1,hid.2]
 ·have e' :q.k=8:=hk▸e
  have f:=pk_fit8 e h2;have g:=pk_fit8 e' g2;rw[if_neg (by omega),if_neg (by omega),if_neg (by omega),if_pos e,if_neg (by omega),if_neg (by omega),if_neg (by omega),if_pos e']at h;rw[if_neg (by omega),if_neg (by omega),if_neg (by omega),if_pos e,if_neg (by omega),if_neg (by omega),if_neg (by omega),if_pos e'];obtain⟨c1,h⟩:=two_inj (by omega) (by omega) h;have c2:p.wants=q.wants:=flat_inj (P:=fun w:List UInt8×Int=>w.1.length≤200∧0≤w.2∧w.2≤2) (fun a ha=>by
   have:=congrArg List.length ha;rw[List.length_append,pkTx_length]at this;simp at this) (fun a b r r' ha hb hh=>by
   rw[List.append_assoc,List.append_assoc]at hh;obtain⟨x1,hh⟩:=tx_inj (by omega) (by omega) hh;obtain⟨x2,hh⟩:=one_inj (by omega) (by omega) hh;exact⟨Prod.ext x1 (by omega),hh⟩) f.2.2.2 g.2.2.2 h
  simp only[hk,c1,c2]
 ·have e' :q.k=9:=hk▸e
  have f:=pk_fit9 e h2;have g:=pk_fit9 e' g2;rw[if_neg (by omega),if_neg (by omega),if_neg (by omega),if_neg (by omega),if_pos e,if_neg (by omega),if_neg (by omega),if_neg (by omega),if_neg (by omega),if_pos e']at h;rw[if_neg (by omega),if_neg (by omega),if_neg (by omega),if_neg (by omega),if_pos e,if_neg (by omega),if_neg (by omega),if_neg (by omega),if_neg (by omega),if_pos e'];obtain⟨c1,h⟩:=two_inj (by omega) (by omega) h;have c2:p.codes=q.codes:=flat_inj (P:=fun c:Int=>0≤c∧c≤255) (fun a ha=>by
   have:=congrArg List.length ha;rw[pkOne,toBE_length]at this;simp at this) (fun a b r r' ha hb hh=>by
   obtain⟨x2,hh⟩:=one_inj (by omega) (by omega) hh;exact⟨by omega,hh⟩) f.2.2.2 g.2.2.2 h
  simp only[hk,c1,c2]
 ·have e' :q.k=10:=hk▸e
  have f:=pk_fit10 e h2;have g:=pk_fit10 e' g2;rw[if_neg (by omega),if_neg (by omega),if_neg (by omega),if_neg (by omega),if_neg (by omega),if_pos e,if_neg (by omega),if_neg (by omega),if_neg (by omega),if_neg (by omega),if_neg (by omega),if_pos e']at h;rw[if_neg (by omega),if_neg (by omega),if_neg (by omega),if_neg (by omega),if_neg (by omega),if_pos e,if_neg (by omega),if_neg (by omega),if_neg (by omega),if_neg (by omega),if_neg (by omega),if_pos e'];obtain⟨c1,h⟩:=two_inj (by omega) (by omega) h;have c2:p.fs=q.fs:=flat_inj (P:=fun f:List UInt8=>f.length≤200) (fun a ha=>by
   have:=congrArg List.length ha;rw[pkTx_length]at this;simp at this) (fun a b r r' ha hb hh=>tx_inj (by omega) (by omega) hh) f.2.2.2 g.2.2.2 h
  simp only[hk,c1,c2]
 ·have e' :q.k=12∨q.k=13∨q.k=14:=hk▸e
  rw[if_neg (by omega),if_neg (by omega),if_neg (by omega),if_neg (by omega),if_neg (by omega),if_neg (by omega),if_pos e,if_neg (by omega),if_neg (by omega),if_neg (by omega),if_neg (by omega),if_neg (by omega),if_neg (by omega),if_pos e',hk]
 ·have e' :q.k=4∨q.k=5∨q.k=6∨q.k=7∨q.k=11:=hk▸e
  have f:=pk_fit4 e h2;have g:=pk_fit4 e' g2;rw[if_neg (by omega),if_neg (by omega),if_neg (by omega),if_neg (by omega),if_neg (by omega),if_neg (by omega),if_neg (by omega),if_neg (by omega),if_neg (by omega),if_neg (by omega),if_neg (by omega),if_neg (by omega),if_neg (by omega),if_neg (by omega)]at h;rw[if_neg (by omega),if_neg (by omega),if_neg (by omega),if_neg (by omega),if_neg (by omega),if_neg (by omega),if_neg (by omega),if_neg (by omega),if_neg (by omega),if_neg (by omega),if_neg (by omega),if_neg (by omega),if_neg (by omega),if_neg (by omega)];obtain⟨c1,_⟩:=two_inj (m:=p.id) (n:=q.id) (r:= []) (r' := []) (by omega) (by omega) (by rw[h]);simp only[hk,c1]
/-- No packet's bytes begin with another one's. -/
theorem pk_apart {p q:Pk}(hp:pkOk p=true)(hq:pkOk q=true){r r' :List UInt8}(h:pkRaw p++r=pkRaw q++r')(hr:r= []∨r' = []):p=q∧r=r' :=by
 obtain⟨x,l,s,a1,a2,a3,a4,a5,a6,a7⟩:=pk_head hp r;obtain⟨y,m,t,b1,b2,b3,b4,b5,b6,b7⟩:=pk_head hq r';rw[a1,b1]at h;injection h with h1 h2
 subst h1 h2;rw[a4]at b4;injection b4 with b4
 injection b4 with b4
 injection b4 with c1 c2
 subst c2;rw[a5]at b5;have k1:=pkIn_iff.1 (pkOk_parts hp).1;have k2:=pkIn_iff.1 (pkOk_parts hq).1;have hk:p.k=q.k:=by omega
 have hl:r.length=r'.length:=by omega
 have h0:r= []∧r' = []:=by
  rcases hr with rfl | rfl
  ·exact⟨rfl,List.length_eq_zero_iff.1 (by rw[←hl];rfl)⟩
  ·exact⟨List.length_eq_zero_iff.1 (by rw[hl];rfl),rfl⟩
 rw[h0.1,h0.2,List.append_nil,List.append_nil]at b5;exact⟨pkBody_inj hp hq hk (by omega) b5,by rw[h0.1,h0.2]⟩
theorem pk_unique {p q:Pk}(hp:pkOk p=true)(hq:pkOk q=true)(h:pkRaw p=pkRaw q):p=q:=
 (pk_apart (r:= []) (r' := []) hp hq (by rw[h]) (.inl rfl)).1

def pkBit (f n:Nat):Bool:=decide (f / n % 2=1)
/-- A text that is there only where a bit is. -/
def rdIf (b:Bool)(l:List UInt8):Option (List UInt8×List UInt8):=if b=true then rdTx l else some ([],l)
/-- Things are read till nothing is left. -/
def rdAll {α:Type}(rd:List UInt8→Option (α×List UInt8)):Nat→List UInt8→Option (List α)
 | _, []=>some []
 | 0,_::_=>none
 | f+1,x::l=>(rd (x::l)).bind fun r=>(rdAll rd f r.2).bind fun az=>some (r.1::az)
def rdWant (l:List UInt8):Option ((List UInt8×Int)×List UInt8):=(rdTx l).bind fun s=>(rdN 1 s.2).bind fun q=>some ((s.1,(q.1:Int)),q.2)
def rdCode (l:List UInt8):Option (Int×List UInt8):=(rdN 1 l).bind fun q=>some ((q.1:Int),q.2)
def pkMq:List UInt8:= [77,81,84,84]
/-- The flags of a connect. -/
def pkCf (f:Nat):Pk:={pkZ with k:=1,hu:=pkBit f 128,hp:=pkBit f 64,wr:=pkBit f 32,hw:=pkBit f 4,cl:=pkBit f 2,wq:=(f / 8 % 4:Nat)}
def pkCm (f kp:Nat)(c wt wb u pw:List UInt8):Pk:={pkCf f with keep:=(kp:Int),c:=c,wt:=wt,wb:=wb,u:=u,pw:=pw}
def rdCon3 (f:Nat)(kp:Nat)(l:List UInt8):Option (Pk×List UInt8):=
 (rdTx l).bind fun c=>(rdIf (pkBit f 4) c.2).bind fun wt=>(rdIf (pkBit f 4) wt.2).bind fun wb=>(rdIf (pkBit f 128) wb.2).bind fun u=>(rdIf (pkBit f 64) u.2).bind fun pw=>
  if pkConn (pkCf f)=f then some (pkCm f kp c.1 wt.1 wb.1 u.1 pw.1,pw.2)else none
def rdCon2 (l:List UInt8):Option (Pk×List UInt8):=(rdN 1 l).bind fun f=>(rdN 2 f.2).bind fun kp=>rdCon3 f.1 kp.1 kp.2
def rdCon (l:List UInt8):Option (Pk×List UInt8):=(rdTx l).bind fun m=>if m.1=pkMq then(rdN 1 m.2).bind fun v=>if v.1=4 then rdCon2 v.2 else none else none
def rdAck (l:List UInt8):Option (Pk×List UInt8):=(rdN 1 l).bind fun i=>if i.1≤1 then(rdN 1 i.2).bind fun c=>some ({pkZ with k:=2,pr:=decide (i.1=1),code:=(c.1:Int)},c.2)else none
def rdPub (f:Nat)(l:List UInt8):Option (Pk×List UInt8):=
 (rdTx l).bind fun t=>if 0 < f / 2 % 4 then(rdN 2 t.2).bind fun i=>some ({pkZ with k:=3,dup:=pkBit f 8,ret:=pkBit f 1,q:=(f / 2 % 4:Nat),t:=t.1,id:=(i.1:Int),b:=i.2}, [])
  else some ({pkZ with k:=3,dup:=pkBit f 8,ret:=pkBit f 1,q:=(f / 2 % 4:Nat),t:=t.1,b:=t.2}, [])
def rdList (k:Int)(l:List UInt8):Option (Pk×List UInt8):=(rdN 2 l).bind fun i=>
 if k=8 then(rdAll rdWant i.2.length i.2).bind fun az=>some ({pkZ with k:=k,id:=(i.1:Int),wants:=az}, [])
 else if k=9 then(rdAll rdCode i.2.length i.2).bind fun az=>some ({pkZ with k:=k,id:=(i.1:Int),codes:=az}, [])
 else if k=10 then(rdAll rdTx i.2.length i.2).bind fun az=>some ({pkZ with k:=k,id:=(i.1:Int),fs:=az}, [])
 else some ({pkZ with k:=k,id:=(i.1:Int)},i.2)
/-- What is read of the bytes behind a packet's length. -/
def rdPk (k:Int)(f:Nat)(l:List UInt8):Option (Pk×List UInt8):=
 if k=1 then rdCon l else if k=2 then rdAck l else if k=3 then rdPub f l else if k=12∨k=13∨k=14 then some ({pkZ with k:=k},l)else rdList k l
section
variable {α:Type} {rd:List UInt8→Option (α×List UInt8)} {enc:α→List UInt8}
theorem rdAll_app:∀(f:Nat) (az:List α) (_:∀a∈az,(∀r,rd (enc a++r)=some (a,r))∧enc a≠ []) (_:(az.flatMap enc).length≤f),rdAll rd f (az.flatMap enc)=some az
 | f, [],_,_=>by cases f <;> rfl
 | f,a::az,h,hf=>by
  obtain⟨h1,h2⟩:=h a (by simp)
  rcases he:enc a with _ | ⟨x,l⟩
  ·exact absurd he h2
  ·have e:(a::az).flatMap enc=x::(l++az.flatMap enc):=by rw[List.flatMap_cons,he];rfl
   rw[e]at hf ⊢
   cases f with
   | zero=>simp at hf
   | succ f=>
    have h3:=h1 (az.flatMap enc);rw[he,List.cons_append]at h3;rw[rdAll,h3];have:=rdAll_app f az (fun b hb=>h b (by simp[hb])) (by simp only[List.length_cons,List.length_append]at hf;omega);simp only[Option.bind_some,this]
theorem rdAll_sound (h:∀l a r,rd l=some (a,r)→l=enc a++r):∀(f:Nat) (l:List UInt8) (az:List α),rdAll rd f l=some az→l=az.flatMap enc
 | f, [],az,e=>by
  have:az= []:=by cases f <;> (injection e with e;exact e.symm)
  subst this;rfl
 | 0,_::_,az,e=>by cases e
 | f+1,x::l,az,e=>by
  rw[rdAll,Option.bind_eq_some_iff]at e;obtain⟨⟨a,r⟩,e1,e2⟩:=e;rw[Option.bind_eq_some_iff]at e2;obtain⟨bs,e3,e4⟩:=e2;injection e4 with e4
  subst e4;rw[List.flatMap_cons,←rdAll_sound h f r bs e3];exact h _ _ _ e1
/-- One step of the loop. -/
theorem rdAll_step {f:Nat}{l r:List UInt8}{a:α}(hl:l≠ [])(hf:l.length≤f+1)(e:rd l=some (a,r)):rdAll rd (f+1) l=(rdAll rd f r).bind fun az=>some (a::az):=by
 cases l with
 | nil=>exact absurd rfl hl
 | cons x l=>rw[rdAll,e];rfl
theorem rdAll_none {f:Nat}{l:List UInt8}(hl:l≠ [])(e:rd l=none):rdAll rd f l=none:=by
 cases l with
 | nil=>exact absurd rfl hl
 | cons x l=>
  cases f with
  | zero=>rfl
  | succ f=>rw[rdAll,e];rfl
/-- More than enough rounds are enough. -/
theorem rdAll_more (hr:∀l a r,rd l=some (a,r)→r.length < l.length):∀(f g:Nat) (l:List UInt8),l.length≤f→l.length≤g→rdAll rd f l=rdAll rd g l
 | f,g, [],_,_=>by cases f <;> cases g <;> rfl
 | 0,_,_::_,hf,_=>by simp at hf
 | _,0,_::_,_,hg=>by simp at hg
 | f+1,g+1,x::l,hf,hg=>by
  rw[rdAll,rdAll]
  rcases e:rd (x::l)with _ | ⟨a,r⟩
  ·rfl
  ·have:=hr _ _ _ e
   simp only[Option.bind_some];rw[rdAll_more hr f g r (by simp only[List.length_cons]at*;omega) (by simp only[List.length_cons]at*;omega)]
end
theorem rdWant_app {w:List UInt8×Int}(h1:w.1.length≤200)(h2:0≤w.2∧w.2≤2)(r:List UInt8):rdWant ((pkTx w.1++pkOne w.2.toNat)++r)=some (w,r):=by
 unfold rdWant pkTx pkOne;rw[List.append_assoc,rdTx_app (by omega),Option.bind_some,rdN_app (by simp;omega),Option.bind_some,Int.toNat_of_nonneg h2.1]
theorem rdCode_app {c:Int}(h:0≤c∧c≤255)(r:List UInt8):rdCode (pkOne c.toNat++r)=some (c,r):=by
 unfold rdCode pkOne;rw[rdN_app (by simp;omega),Option.bind_some,Int.toNat_of_nonneg h.1]
theorem rdPkTx_app {s:List UInt8}(h:s.length≤60000)(r:List UInt8):rdTx (pkTx s++r)=some (s,r):=rdTx_app (by omega) r
theorem rdIf_app {b:Bool}{s:List UInt8}(h:s.length≤60000)(h0:b=false→s= [])(r:List UInt8):rdIf b (pkIf b (pkTx s)++r)=some (s,r):=by
 cases b with
 | true=>exact rdPkTx_app h r
 | false=>rw[h0 rfl];rfl
theorem rdWant_sound {l r:List UInt8}{w:List UInt8×Int}(h:rdWant l=some (w,r)):l=(pkTx w.1++pkOne w.2.toNat)++r:=by
 unfold rdWant at h;rw[Option.bind_eq_some_iff]at h;obtain⟨⟨s,l1⟩,h1,h2⟩:=h;rw[Option.bind_eq_some_iff]at h2;obtain⟨⟨q,l2⟩,h2,h3⟩:=h2;injection h3 with h3
 injection h3 with h3 h4
 subst h3 h4;rw[(rdTx_sound h1).1,show l1=toBE 1 q++l2 from(rdN_sound h2).1];simp[pkTx,pkOne]
theorem rdWant_len {l r:List UInt8}{w:List UInt8×Int}(h:rdWant l=some (w,r)):r.length < l.length:=by
 have:=congrArg List.length (rdWant_sound h);rw[List.length_append,List.length_append,pkTx_length]at this;omega
theorem rdCode_sound {l r:List UInt8}{c:Int}(h:rdCode l=some (c,r)):l=pkOne c.toNat++r:=by
 unfold rdCode at h;rw[Option.bind_eq_some_iff]at h;obtain⟨⟨q,l2⟩,h2,h3⟩:=h;injection h3 with h3
 injection h3 with h3 h4
 subst h3 h4;exact(rdN_sound h2).1
theorem rdCode_len {l r:List UInt8}{c:Int}(h:rdCode l=some (c,r)):r.length < l.length:=by
 have:=congrArg List.length (rdCode_sound h);rw[List.length_append,pkOne,toBE_length]at this;omega
theorem rdPkTx_sound {l r s:List UInt8}(h:rdTx l=some (s,r)):l=pkTx s++r:=(rdTx_sound h).1
theorem rdTx_len {l r s:List UInt8}(h:rdTx l=some (s,r)):r.length < l.length:=by
 have:=(rdTx_sound h).2.2;omega
theorem rdIf_sound {b:Bool}{l r s:List UInt8}(h:rdIf b l=some (s,r)):l=pkIf b (pkTx s)++r∧(b=false→s= []):=by
 cases b with
 | true=>exact⟨rdPkTx_sound h,fun e=>by cases e⟩
 | false=>
  injection h with h
  injection h with h1 h2
  subst h1 h2;exact⟨rfl,fun _=>rfl⟩
theorem pkBit_B (b:Bool)(f n:Nat)(h:f / n % 2=pkB b 1):pkBit f n=b:=by
 unfold pkBit;rw[h]
 cases b <;> rfl
theorem pkCf_of {p:Pk}(hq:0≤p.wq∧p.wq≤2):pkCf (pkConn p)= {pkZ with k:=1,hu:=p.hu,hp:=p.hp,wr:=p.wr,hw:=p.hw,cl:=p.cl,wq:=p.wq}:=by
 have e:pkConn p=128*pkB p.hu 1+64*pkB p.hp 1+32*pkB p.wr 1+4*pkB p.hw 1+2*pkB p.cl 1+8*p.wq.toNat:=by
  unfold pkConn;rw[pkB_mul p.hu,pkB_mul p.hp,pkB_mul p.wr,pkB_mul p.hw,pkB_mul p.cl]
 have a1:=pkB_le p.hu 1;have a2:=pkB_le p.hp 1;have a3:=pkB_le p.wr 1;have a4:=pkB_le p.hw 1;have a5:=pkB_le p.cl 1;unfold pkCf;rw[pkBit_B p.hu _ 128 (by omega),pkBit_B p.hp _ 64 (by omega),pkBit_B p.wr _ 32 (by omega),pkBit_B p.hw _ 4 (by omega),pkBit_B p.cl _ 2 (by omega),show((pkConn p / 8 % 4:Nat):Int)=p.wq by omega]
theorem pkBody1 {p:Pk}(e:p.k=1):pkBody p=pkTx [77,81,84,84]++(pkOne 4++(pkOne (pkConn p)++(pkTwo p.keep++(pkTx p.c++(pkIf p.hw (pkTx p.wt++pkTx p.wb)++(pkIf p.hu (pkTx p.u)++pkIf p.hp (pkTx p.pw))))))):=by
 unfold pkBody;rw[if_pos e]
theorem pkBody2 {p:Pk}(e:p.k=2):pkBody p=pkOne (pkB p.pr 1)++pkOne p.code.toNat:=by
 unfold pkBody;rw[if_neg (by omega),if_pos e]
theorem pkBody3 {p:Pk}(e:p.k=3):pkBody p=pkTx p.t++(pkIf (decide (0 < p.q)) (pkTwo p.id)++p.b):=by
 unfold pkBody;rw[if_neg (by omega),if_neg (by omega),if_pos e]
theorem pkBody8 {p:Pk}(e:p.k=8):pkBody p=pkTwo p.id++p.wants.flatMap fun w=>pkTx w.1++pkOne w.2.toNat:=by
 unfold pkBody;rw[if_neg (by omega),if_neg (by omega),if_neg (by omega),if_pos e]
theorem pkBody9 {p:Pk}(e:p.k=9):pkBody p=pkTwo p.id++p.codes.flatMap fun c=>pkOne c.toNat:=by
 unfold pkBody;rw[if_neg (by omega),if_neg (by omega),if_neg (by omega),if_neg (by omega),if_pos e]
theorem pkBody10 {p:Pk}(e:p.k=10):pkBody p=pkTwo p.id++p.fs.flatMap pkTx:=by
 unfold pkBody;rw[if_neg (by omega),if_neg (by omega),if_neg (by omega),if_neg (by omega),if_neg (by omega),if_pos e]
theorem pkBody12 {p:Pk}(e:p.k=12∨p.k=13∨p.k=14):pkBody p= []:=by
 unfold pkBody;rw[if_neg (by omega),if_neg (by omega),if_neg (by omega),if_neg (by omega),if_neg (by omega),if_neg (by omega),if_pos e]
theorem pkBody4 {p:Pk}(e:p.k=4∨p.k=5∨p.k=6∨p.k=7∨p.k=11):pkBody p=pkTwo p.id:=by
 unfold pkBody;rw[if_neg (by omega),if_neg (by omega),if_neg (by omega),if_neg (by omega),if_neg (by omega),if_neg (by omega),if_neg (by omega)]
theorem rdPk_list {k:Int}(h:4≤k∧k≤11)(f:Nat)(l:List UInt8):rdPk k f l=rdList k l:=by
 unfold rdPk;rw[if_neg (by omega),if_neg (by omega),if_neg (by omega),if_neg (by omega)]
theorem rdPk_none {k:Int}(h:k=12∨k=13∨k=14)(f:Nat)(l:List UInt8):rdPk k f l=some ({pkZ with k:=k},l):=by
 unfold rdPk;rw[if_neg (by omega),if_neg (by omega),if_neg (by omega),if_pos h]
/-- What a packet that may be says is read again. -/
theorem pk_read {p:Pk}(h:pkOk p=true):rdPk p.k (pkF p) (pkBody p)=some (p, []):=by
 obtain⟨h1,h2,h3⟩:=pkOk_parts h
 rcases pk_kinds h1 with e | e | e | e | e | e | e | e
 ·have f:=pk_fit1 e h2
  rw[pkBody1 e,e];rw[show∀f l,rdPk 1 f l=rdCon l from fun f l=>by unfold rdPk;rw[if_pos rfl]];unfold rdCon pkOne;rw[rdPkTx_app (s:= [77,81,84,84]) (by simp),Option.bind_some];simp only;rw[if_pos (show([77,81,84,84]:List UInt8)=pkMq from rfl),rdN_app (by decide),Option.bind_some];simp only;rw[if_pos trivial];unfold rdCon2;rw[rdN_app (by have:=pkConn_lt f.will.2.2.2;omega),Option.bind_some,pkTwo];simp only;rw[rdN_app (by have:=f.keep;omega),Option.bind_some];unfold rdCon3;rw[rdPkTx_app (by have:=f.c;omega),Option.bind_some];have ew:pkIf p.hw (pkTx p.wt++pkTx p.wb)=pkIf p.hw (pkTx p.wt)++pkIf p.hw (pkTx p.wb):=by cases p.hw <;> rfl
  have c0:=pkCf_of f.will.2.2;have c1:pkBit (pkConn p) 4=p.hw:=congrArg Pk.hw c0;have c2:pkBit (pkConn p) 128=p.hu:=congrArg Pk.hu c0;have c3:pkBit (pkConn p) 64=p.hp:=congrArg Pk.hp c0;simp only;rw[c1,c2,c3,ew,List.append_assoc,rdIf_app (by have:=f.will;omega) (fun e=>(f.nw e).1),Option.bind_some];simp only;rw[rdIf_app (by have:=f.will;omega) (fun e=>(f.nw e).2.1),Option.bind_some];simp only;rw[rdIf_app (by have:=f.u;omega) (fun e=>(f.u.2 e).1),Option.bind_some];simp only;have hl:=rdIf_app (b:=p.hp) (s:=p.pw) (by have:=f.pw;omega) f.pw.2 [];rw[List.append_nil]at hl;rw[hl,Option.bind_some];simp only;unfold pkCm;have hcc:pkConn {pkZ with k:=1,hu:=p.hu,hp:=p.hp,wr:=p.wr,hw:=p.hw,cl:=p.cl,wq:=p.wq} =pkConn p:=by unfold pkConn;rfl
  rw[c0,hcc,if_pos rfl,show((p.keep.toNat:Nat):Int)=p.keep from Int.toNat_of_nonneg f.keep.1]
  congr 2
  unfold pkAlone at h3;rw[if_pos e]at h3;rw[e]at h3;exact h3
 ·have f:=pk_fit2 e h2
  unfold pkAlone at h3;rw[if_neg (by omega),if_pos e]at h3;rw[pkBody2 e,e];rw[show∀f l,rdPk 2 f l=rdAck l from fun f l=>by unfold rdPk;rw[if_neg (by omega),if_pos rfl]];unfold rdAck pkOne;rw[rdN_app (by have:=pkB_le p.pr 1;omega),Option.bind_some,if_pos (pkB_le p.pr 1)];have:=rdN_app (k:=1) (n:=p.code.toNat) (by simp;omega) [];rw[List.append_nil]at this;rw[this,Option.bind_some,show((p.code.toNat:Nat):Int)=p.code from Int.toNat_of_nonneg f.1,show decide (pkB p.pr 1=1)=p.pr by cases p.pr <;> rfl]
  congr 2
  rw[e]at h3;exact h3
 ·have f:=pk_fit3 e h2
  unfold pkAlone at h3;rw[if_neg (by omega),if_neg (by omega),if_pos e]at h3;rw[pkBody3 e,e,show pkF p=pkPub p by unfold pkF;rw[if_pos e]];rw[show∀f l,rdPk 3 f l=rdPub f l from fun f l=>by unfold rdPk;rw[if_neg (by omega),if_neg (by omega),if_pos rfl]];have ef:pkPub p=8*pkB p.dup 1+pkB p.ret 1+2*p.q.toNat:=by
   unfold pkPub;rw[pkB_mul p.dup]
  have a1:=pkB_le p.dup 1;have a2:=pkB_le p.ret 1;unfold rdPub;rw[rdPkTx_app (by omega),Option.bind_some,pkBit_B p.dup _ 8 (by omega),pkBit_B p.ret _ 1 (by omega),show pkPub p / 2 % 4=p.q.toNat by omega,show((p.q.toNat:Nat):Int)=p.q from Int.toNat_of_nonneg f.2.2.1.1]
  by_cases hq:0 < p.q
  ·rw[decide_eq_true hq,if_pos (by omega)]
   unfold pkIf pkTwo;rw[if_pos rfl,rdN_app (by simp;omega),Option.bind_some,show((p.id.toNat:Nat):Int)=p.id from Int.toNat_of_nonneg f.2.2.2.1.1]
   congr 2
   rw[e]at h3;exact h3
  ·rw[decide_eq_false hq,if_neg (by omega)]
   congr 2
   have h4:=f.2.2.2.2 (by omega);rw[e,h4.1]at h3;exact h3
 ·have f:=pk_fit8 e h2
  unfold pkAlone at h3;rw[if_neg (by omega),if_neg (by omega),if_neg (by omega),if_pos e]at h3;rw[pkBody8 e,rdPk_list (by omega)];unfold rdList pkTwo;rw[rdN_app (by have:=f.1;simp;omega),Option.bind_some,if_pos e,rdAll_app _ _ (fun w hw=>⟨fun r=>rdWant_app (f.2.2.2 w hw).1 (f.2.2.2 w hw).2 r,fun hn=>by
   have:=congrArg List.length hn;rw[List.length_append,pkTx_length]at this;simp at this⟩) (Nat.le_refl _),Option.bind_some,show((p.id.toNat:Nat):Int)=p.id from Int.toNat_of_nonneg (by have:=f.1;omega)]
  congr 2
 ·have f:=pk_fit9 e h2
  unfold pkAlone at h3;rw[if_neg (by omega),if_neg (by omega),if_neg (by omega),if_neg (by omega),if_pos e]at h3;rw[pkBody9 e,rdPk_list (by omega)];unfold rdList pkTwo;rw[rdN_app (by have:=f.1;simp;omega),Option.bind_some,if_neg (by omega),if_pos e,rdAll_app _ _ (fun w hw=>⟨fun r=>rdCode_app (f.2.2.2 w hw) r,fun hn=>by
   have:=congrArg List.length hn;rw[pkOne,toBE_length]at this;simp at this⟩) (Nat.le_refl _),Option.bind_some,show((p.id.toNat:Nat):Int)=p.id from Int.toNat_of_nonneg (by have:=f.1;omega)]
  congr 2
 ·have f:=pk_fit10 e h2
  unfold pkAlone at h3;rw[if_neg (by omega),if_neg (by omega),if_neg (by omega),if_neg (by omega),if_neg (by omega),if_pos e]at h3;rw[pkBody10 e,rdPk_list (by omega)];unfold rdList pkTwo;rw[rdN_app (by have:=f.1;simp;omega),Option.bind_some,if_neg (by omega),if_neg (by omega),if_pos e,rdAll_app _ _ (fun w hw=>⟨fun r=>rdPkTx_app (by have:=f.2.2.2 w hw;omega) r,fun hn=>by
   have:=congrArg List.length hn;rw[pkTx_length]at this;simp at this⟩) (Nat.le_refl _),Option.bind_some,show((p.id.toNat:Nat):Int)=p.id from Int.toNat_of_nonneg (by have:=f.1;omega)]
  congr 2
 ·unfold pkAlone at h3
  rw[if_neg (by omega),if_neg (by omega),if_neg (by omega),if_neg (by omega),if_neg (by omega),if_neg (by omega),if_pos e]at h3;rw[pkBody12 e,rdPk_none e]
  congr 2
 ·have f:=pk_fit4 e h2
  unfold pkAlone at h3;rw[if_neg (by omega),if_neg (by omega),if_neg (by omega),if_neg (by omega),if_neg (by omega),if_neg (by omega),if_neg (by omega)]at h3;rw[pkBody4 e,rdPk_list (by omega)];unfold rdList pkTwo;have:=rdN_app (k:=2) (n:=p.id.toNat) (by simp;omega) [];rw[List.append_nil]at this;rw[this,Option.bind_some,if_neg (by omega),if_neg (by omega),if_neg (by omega),show((p.id.toNat:Nat):Int)=p.id from Int.toNat_of_nonneg (by omega)]
  congr 2
/-- What is read of bytes, those bytes tell. -/
theorem pk_sound {k:Int}{f:Nat}{l t:List UInt8}{p:Pk}(hk:pkIn k 1 14=true)(h:rdPk k f l=some (p,t)):p.k=k∧l=pkBody p++t:=by
 unfold rdPk at h
 rcases pk_kinds hk with e | e | e | e | e | e | e | e
 ·rw[if_pos e]at h
  unfold rdCon at h;rw[Option.bind_eq_some_iff]at h;obtain⟨⟨m,l1⟩,h1,h⟩:=h;simp only at h
  split at h
  ·rename_i hm
   rw[Option.bind_eq_some_iff]at h;obtain⟨⟨v,l2⟩,h2,h⟩:=h;simp only at h
   split at h
   ·rename_i hv
    unfold rdCon2 at h;rw[Option.bind_eq_some_iff]at h;obtain⟨⟨c,l3⟩,h3,h⟩:=h;rw[Option.bind_eq_some_iff]at h;obtain⟨⟨kp,l4⟩,h4,h⟩:=h;unfold rdCon3 at h;rw[Option.bind_eq_some_iff]at h;obtain⟨⟨cl,l5⟩,h5,h⟩:=h;rw[Option.bind_eq_some_iff]at h;obtain⟨⟨wt,l6⟩,h6,h⟩:=h;rw[Option.bind_eq_some_iff]at h;obtain⟨⟨wb,l7⟩,h7,h⟩:=h;rw[Option.bind_eq_some_iff]at h;obtain⟨⟨u,l8⟩,h8,h⟩:=h;rw[Option.bind_eq_some_iff]at h;obtain⟨⟨pw,l9⟩,h9,h⟩:=h;simp only at h h3 h4 h5 h6 h7 h8 h9 hm hv
    split at h
    ·rename_i hc
     injection h with h
     injection h with g1 g2
     subst g1 g2;refine⟨e.symm, ?_⟩;rw[rdPkTx_sound h1,hm,(rdN_sound h2).1,hv,(rdN_sound h3).1,(rdN_sound h4).1,rdPkTx_sound h5,(rdIf_sound h6).1,(rdIf_sound h7).1,(rdIf_sound h8).1,(rdIf_sound h9).1];rw[pkBody1 rfl];have hc2:pkConn (pkCm c kp cl wt wb u pw)=c:=hc;rw[hc2];have ew:pkIf (pkBit c 4) (pkTx wt++pkTx wb)=pkIf (pkBit c 4) (pkTx wt)++pkIf (pkBit c 4) (pkTx wb):=by cases pkBit c 4 <;> rfl
     show _=(pkTx [77,81,84,84]++(pkOne 4++(pkOne c++(pkTwo kp++(pkTx cl++(pkIf (pkBit c 4) (pkTx wt++pkTx wb)++(pkIf (pkBit c 128) (pkTx u)++pkIf (pkBit c 64) (pkTx pw))))))))++l9;rw[ew];simp only[List.append_assoc,pkOne,pkTwo,Int.toNat_natCast,pkMq]
    ·cases h
   ·cases h
  ·cases h
 ·rw[if_neg (by omega),if_pos e]at h
  unfold rdAck at h;rw[Option.bind_eq_some_iff]at h;obtain⟨⟨i,l1⟩,h1,h⟩:=h;simp only at h
  split at h
  ·rename_i hi
   rw[Option.bind_eq_some_iff]at h;obtain⟨⟨c,l2⟩,h2,h⟩:=h;injection h with h
   injection h with g1 g2
   subst g1 g2;refine⟨e.symm, ?_⟩;unfold pkBody;rw[if_neg (by simp),if_pos rfl,(rdN_sound h1).1,show l1=toBE 1 c++l2 from(rdN_sound h2).1];have:pkB (decide (i=1)) 1=i:=by
    have:i=0∨i=1:=by omega
    rcases this with rfl | rfl <;> rfl
   simp only[this,pkOne,Int.toNat_natCast,List.append_assoc]
  ·cases h
 ·rw[if_neg (by omega),if_neg (by omega),if_pos e]at h
  unfold rdPub at h;rw[Option.bind_eq_some_iff]at h;obtain⟨⟨s,l1⟩,h1,h⟩:=h;simp only at h
  split at h
  ·rename_i hq
   rw[Option.bind_eq_some_iff]at h;obtain⟨⟨i,l2⟩,h2,h⟩:=h;injection h with h
   injection h with g1 g2
   subst g1 g2;refine⟨e.symm, ?_⟩;unfold pkBody;rw[if_neg (by simp),if_neg (by simp),if_pos rfl,rdPkTx_sound h1,show l1=toBE 2 i++l2 from(rdN_sound h2).1];simp only[pkIf,pkTwo,Int.toNat_natCast,List.append_nil];rw[decide_eq_true (by omega),if_pos rfl]
  ·rename_i hq
   injection h with h
   injection h with g1 g2
   subst g1 g2;refine⟨e.symm, ?_⟩;unfold pkBody;rw[if_neg (by simp),if_neg (by simp),if_pos rfl,rdPkTx_sound h1];simp only[pkIf,List.append_nil];rw[decide_eq_false (by omega)];rfl
 ·rw[if_neg (by omega),if_neg (by omega),if_neg (by omega),if_neg (by omega)]at h
  unfold rdList at h;rw[Option.bind_eq_some_iff]at h;obtain⟨⟨i,l1⟩,h1,h⟩:=h;rw[if_pos e,Option.bind_eq_some_iff]at h;obtain⟨az,h2,h⟩:=h;injection h with h
  injection h with g1 g2
  subst g1 g2 e;refine⟨rfl, ?_⟩;unfold pkBody;rw[if_neg (by simp),if_neg (by simp),if_neg (by simp),if_pos rfl,(rdN_sound h1).1,show l1=_ from rdAll_sound (fun l a r h=>rdWant_sound h) _ _ _ h2];simp only[pkTwo,Int.toNat_natCast,List.append_nil]
 ·rw[if_neg (by omega),if_neg (by omega),if_neg (by omega),if_neg (by omega)]at h
  unfold rdList at h;rw[Option.bind_eq_some_iff]at h;obtain⟨⟨i,l1⟩,h1,h⟩:=h;rw[if_neg (by omega),if_pos e,Option.bind_eq_some_iff]at h;obtain⟨az,h2,h⟩:=h;injection h with h
  injection h with g1 g2
  subst g1 g2 e;refine⟨rfl, ?_⟩;unfold pkBody;rw[if_neg (by simp),if_neg (by simp),if_neg (by simp),if_neg (by simp),if_pos rfl,(rdN_sound h1).1,show l1=_ from rdAll_sound (fun l a r h=>rdCode_sound h) _ _ _ h2];simp only[pkTwo,Int.toNat_natCast,List.append_nil]
 ·rw[if_neg (by omega),if_neg (by omega),if_neg (by omega),if_neg (by omega)]at h
  unfold rdList at h;rw[Option.bind_eq_some_iff]at h;obtain⟨⟨i,l1⟩,h1,h⟩:=h;rw[if_neg (by omega),if_neg (by omega),if_pos e,Option.bind_eq_some_iff]at h;obtain⟨az,h2,h⟩:=h;injection h with h
  injection h with g1 g2
  subst g1 g2 e;refine⟨rfl, ?_⟩;unfold pkBody;rw[if_neg (by simp),if_neg (by simp),if_neg (by simp),if_neg (by simp),if_neg (by simp),if_pos rfl,(rdN_sound h1).1,show l1=_ from rdAll_sound (fun l a r h=>rdPkTx_sound h) _ _ _ h2];simp only[pkTwo,Int.toNat_natCast,List.append_nil]
 ·rw[if_neg (by omega),if_neg (by omega),if_neg (by omega),if_pos e]at h
  injection h with h
  injection h with g1 g2
  subst g1 g2;refine⟨rfl, ?_⟩;unfold pkBody;simp only;rw[if_neg (by omega),if_neg (by omega),if_neg (by omega),if_neg (by omega),if_neg (by omega),if_neg (by omega),if_pos e];rfl
 ·rw[if_neg (by omega),if_neg (by omega),if_neg (by omega),if_neg (by omega)]at h
  unfold rdList at h;rw[Option.bind_eq_some_iff]at h;obtain⟨⟨i,l1⟩,h1,h⟩:=h;rw[if_neg (by omega),if_neg (by omega),if_neg (by omega)]at h;injection h with h
  injection h with g1 g2
  subst g1 g2;refine⟨rfl, ?_⟩;unfold pkBody;simp only;rw[if_neg (by omega),if_neg (by omega),if_neg (by omega),if_neg (by omega),if_neg (by omega),if_neg (by omega),if_neg (by omega),(rdN_sound h1).1];simp only[pkTwo,Int.toNat_natCast]

/-- A packet of no more than is done here. -/
structure PkSm (p:Pk):Prop where
 t:p.t.length≤50000
 b:p.b.length≤50000
 c:p.c.length≤50000
 u:p.u.length≤50000
 pw:p.pw.length≤50000
 wt:p.wt.length≤50000
 wb:p.wb.length≤50000
 wants:p.wants.length≤50000∧∀x∈p.wants,x.1.length≤50000
 codes:p.codes.length≤50000
 fs:p.fs.length≤50000∧∀x∈p.fs,x.length≤50000
theorem flat_many {α:Type}{f:α→List UInt8}:∀{l:List α},(∀x∈l,1≤(f x).length)→l.length≤(l.flatMap f).length
 | [],_=>by simp
 | a::l,h=>by
  have h1:=h a (by simp);have h2:=flat_many (l:=l) (fun x hx=>h x (by simp[hx]));rw[List.flatMap_cons,List.length_append,List.length_cons];omega
theorem flat_mem {α:Type}{f:α→List UInt8}{x:α}:∀{l:List α},x∈l→(f x).length≤(l.flatMap f).length
 | a::l,h=>by
  rw[List.flatMap_cons,List.length_append]
  rcases List.mem_cons.1 h with rfl | h
  ·omega
  ·have:=flat_mem (f:=f) h
   omega
theorem rdIf_len {b:Bool}{l r s:List UInt8}(h:rdIf b l=some (s,r)):s.length+r.length≤l.length:=by
 cases b with
 | true=>
  have:=(rdTx_sound h).2.2;omega
 | false=>
  injection h with h
  injection h with h1 h2
  subst h1 h2;simp
theorem pkZ_small (k id:Int):PkSm {pkZ with k:=k,id:=id}:=⟨by simp[pkZ],by simp[pkZ],by simp[pkZ],by simp[pkZ],by simp[pkZ],by simp[pkZ],by simp[pkZ],by simp[pkZ],by simp[pkZ],by simp[pkZ]⟩
theorem pk_small {k:Int}{f:Nat}{l t:List UInt8}{p:Pk}(hk:pkIn k 1 14=true)(hl:l.length≤50000)(h:rdPk k f l=some (p,t)):PkSm p:=by
 rcases pk_kinds hk with e | e | e | e | e | e | e | e
 ·unfold rdPk at h
  rw[if_pos e]at h;unfold rdCon at h;rw[Option.bind_eq_some_iff]at h;obtain⟨⟨m,l1⟩,h1,h⟩:=h;simp only at h
  split at h
  ·rw[Option.bind_eq_some_iff]at h
   obtain⟨⟨v,l2⟩,h2,h⟩:=h;simp only at h
   split at h
   ·unfold rdCon2 at h
    rw[Option.bind_eq_some_iff]at h;obtain⟨⟨c,l3⟩,h3,h⟩:=h;rw[Option.bind_eq_some_iff]at h;obtain⟨⟨kp,l4⟩,h4,h⟩:=h;unfold rdCon3 at h;rw[Option.bind_eq_some_iff]at h;obtain⟨⟨cl,l5⟩,h5,h⟩:=h;rw[Option.bind_eq_some_iff]at h;obtain⟨⟨wt,l6⟩,h6,h⟩:=h;rw[Option.bind_eq_some_iff]at h;obtain⟨⟨wb,l7⟩,h7,h⟩:=h;rw[Option.bind_eq_some_iff]at h;obtain⟨⟨u,l8⟩,h8,h⟩:=h;rw[Option.bind_eq_some_iff]at h;obtain⟨⟨pw,l9⟩,h9,h⟩:=h;simp only at h h2 h3 h4 h5 h6 h7 h8 h9
    split at h
    ·injection h with h
     injection h with g1 g2
     subst g1 g2;have a1:=(rdTx_sound h1).2.2;have a2:=(rdN_sound h2).2.2;have a3:=(rdN_sound h3).2.2;have a4:=(rdN_sound h4).2.2;have a5:=(rdTx_sound h5).2.2;have a6:=rdIf_len h6;have a7:=rdIf_len h7;have a8:=rdIf_len h8;have a9:=rdIf_len h9;exact⟨by simp[pkCm,pkCf,pkZ],by simp[pkCm,pkCf,pkZ],show cl.length≤50000 by omega,show u.length≤50000 by omega,show pw.length≤50000 by omega,show wt.length≤50000 by omega,show wb.length≤50000 by omega,by simp[pkCm,pkCf,pkZ],by simp[pkCm,pkCf,pkZ],by simp[pkCm,pkCf,pkZ]⟩
    ·cases h
   ·cases h
  ·cases h
 ·unfold rdPk at h
  rw[if_neg (by omega),if_pos e]at h;unfold rdAck at h;rw[Option.bind_eq_some_iff]at h;obtain⟨⟨i,l1⟩,h1,h⟩:=h;simp only at h
  split at h
  ·rw[Option.bind_eq_some_iff]at h
   obtain⟨⟨c,l2⟩,h2,h⟩:=h;injection h with h
   injection h with g1 g2
   subst g1 g2;exact⟨by simp[pkZ],by simp[pkZ],by simp[pkZ],by simp[pkZ],by simp[pkZ],by simp[pkZ],by simp[pkZ],by simp[pkZ],by simp[pkZ],by simp[pkZ]⟩
  ·cases h
 ·unfold rdPk at h
  rw[if_neg (by omega),if_neg (by omega),if_pos e]at h;unfold rdPub at h;rw[Option.bind_eq_some_iff]at h;obtain⟨⟨s,l1⟩,h1,h⟩:=h;have a1:=(rdTx_sound h1).2.2;simp only at h
  split at h
  ·rw[Option.bind_eq_some_iff]at h
   obtain⟨⟨i,l2⟩,h2,h⟩:=h;have a2:=(rdN_sound (show rdN 2 l1=some (i,l2)from h2)).2.2;injection h with h
   injection h with g1 g2
   subst g1 g2;exact⟨show s.length≤50000 by omega,show l2.length≤50000 by omega,by simp[pkZ],by simp[pkZ],by simp[pkZ],by simp[pkZ],by simp[pkZ],by simp[pkZ],by simp[pkZ],by simp[pkZ]⟩
  ·injection h with h
   injection h with g1 g2
   subst g1 g2;exact⟨show s.length≤50000 by omega,show l1.length≤50000 by omega,by simp[pkZ],by simp[pkZ],by simp[pkZ],by simp[pkZ],by simp[pkZ],by simp[pkZ],by simp[pkZ],by simp[pkZ]⟩
 ·rw[rdPk_list (by omega)]at h
  unfold rdList at h;rw[Option.bind_eq_some_iff]at h;obtain⟨⟨i,l1⟩,h1,h⟩:=h;have a1:=(rdN_sound h1).2.2;rw[if_pos e,Option.bind_eq_some_iff]at h;obtain⟨az,h2,h⟩:=h;injection h with h
  injection h with g1 g2
  subst g1 g2;have hl1:l1=az.flatMap fun w=>pkTx w.1++pkOne w.2.toNat:=rdAll_sound (fun l a r h=>rdWant_sound h) _ _ _ h2
  have b1:=flat_many (f:=fun w:List UInt8×Int=>pkTx w.1++pkOne w.2.toNat) (l:=az) (fun w _=>by rw[List.length_append,pkTx_length];omega);rw[←hl1]at b1;refine⟨by simp[pkZ],by simp[pkZ],by simp[pkZ],by simp[pkZ],by simp[pkZ],by simp[pkZ],by simp[pkZ],⟨show az.length≤50000 by omega,fun x hx=> ?_⟩,by simp[pkZ],by simp[pkZ]⟩;have b2:=flat_mem (f:=fun w:List UInt8×Int=>pkTx w.1++pkOne w.2.toNat) (show x∈az from hx);rw[←hl1,List.length_append,pkTx_length]at b2;omega
 ·rw[rdPk_list (by omega)]at h
  unfold rdList at h;rw[Option.bind_eq_some_iff]at h;obtain⟨⟨i,l1⟩,h1,h⟩:=h;have a1:=(rdN_sound h1).2.2;rw[if_neg (by omega),if_pos e,Option.bind_eq_some_iff]at h;obtain⟨az,h2,h⟩:=h;injection h with h
  injection h with g1 g2
  subst g1 g2;have hl1:l1=az.flatMap fun c=>pkOne c.toNat:=rdAll_sound (fun l a r h=>rdCode_sound h) _ _ _ h2
  have b1:=flat_many (f:=fun c:Int=>pkOne c.toNat) (l:=az) (fun w _=>by rw[pkOne,toBE_length];omega);rw[←hl1]at b1;exact⟨by simp[pkZ],by simp[pkZ],by simp[pkZ],by simp[pkZ],by simp[pkZ],by simp[pkZ],by simp[pkZ],by simp[pkZ],show az.length≤50000 by omega,by simp[pkZ]⟩
 ·rw[rdPk_list (by omega)]at h
  unfold rdList at h;rw[Option.bind_eq_some_iff]at h;obtain⟨⟨i,l1⟩,h1,h⟩:=h;have a1:=(rdN_sound h1).2.2;rw[if_neg (by omega),if_neg (by omega),if_pos e,Option.bind_eq_some_iff]at h;obtain⟨az,h2,h⟩:=h;injection h with h
  injection h with g1 g2
  subst g1 g2;have hl1:l1=az.flatMap pkTx:=rdAll_sound (fun l a r h=>rdPkTx_sound h) _ _ _ h2;have b1:=flat_many (f:=pkTx) (l:=az) (fun w _=>by rw[pkTx_length];omega);rw[←hl1]at b1;refine⟨by simp[pkZ],by simp[pkZ],by simp[pkZ],by simp[pkZ],by simp[pkZ],by simp[pkZ],by simp[pkZ],by simp[pkZ],by simp[pkZ],⟨show az.length≤50000 by omega,fun x hx=> ?_⟩⟩;have b2:=flat_mem (f:=pkTx) (show x∈az from hx);rw[←hl1,pkTx_length]at b2;omega
 ·rw[rdPk_none e]at h
  injection h with h
  injection h with g1 g2
  subst g1;exact pkZ_small k 0
 ·rw[rdPk_list (by omega)]at h
  unfold rdList at h;rw[Option.bind_eq_some_iff]at h;obtain⟨⟨i,l1⟩,h1,h⟩:=h;rw[if_neg (by omega),if_neg (by omega),if_neg (by omega)]at h;injection h with h
  injection h with g1 g2
  subst g1;exact pkZ_small k _
/-- What a packet has without its kind. -/
def pkHas (p:Pk):Pk:={pkAlone p with k:=0}
theorem pkHas_back (p:Pk):{pkHas p with k:=p.k} =pkAlone p:=by
 unfold pkHas pkAlone;simp only
 split
 ·rfl
 ·split
  ·rfl
  ·split
   ·rfl
   ·split
    ·rfl
    ·split
     ·rfl
     ·split
      ·rfl
      ·split <;> rfl
/-- Bytes that these are the packet of. -/
def PkIs (b:List UInt8)(p:Pk):Prop:=pkOk p=true∧pkRaw p=b
/-- The bytes' head, and what is behind. -/
theorem pk_parse {x:UInt8}{l:List UInt8}{n s:Nat}(hl:lnRd l=some (some (n,s)))(hn:l.length - s=n){p:Pk}{t:List UInt8}(hk:pkIn (x.toNat / 16:Nat) 1 14=true)(hr:rdPk (x.toNat / 16:Nat) (x.toNat % 16) (l.drop s)=some (p,t))(ht:t= [])(hf:pkF p=x.toNat % 16)(ho:pkOk p=true):PkIs (x::l) p:=by
 obtain⟨e1,e2⟩:=pk_sound hk hr;refine⟨ho, ?_⟩;obtain⟨g1,g2,g3,g4⟩:=lnRd_sound hl;subst ht;rw[List.append_nil]at e2;unfold pkRaw;rw[←e2,hf,e1,show(l.drop s).length=n by rw[List.length_drop];exact hn]
 congr 1
 ·apply UInt8.toNat_inj.1
  rw[lnB_val (by have:=x.toNat_lt;omega)];omega
 ·rw[←g4,List.take_append_drop]
/-- Bytes that no packet has. -/
theorem pk_parse_no {x:UInt8}{l:List UInt8}{p:Pk}(h:PkIs (x::l) p):∃s,lnRd l=some (some (l.length - s,s))∧s≤l.length∧1≤s∧s≤4∧p.k=(x.toNat / 16:Nat)∧pkF p=x.toNat % 16∧rdPk (x.toNat / 16:Nat) (x.toNat % 16) (l.drop s)=some (p, []):=by
 obtain⟨y,m,s,a1,a2,a3,a4,a5,a6,a7⟩:=pk_head h.1 [];rw[List.append_nil,h.2]at a1;injection a1 with a1 a0
 subst a1 a0;rw[List.append_nil]at a5;have hk:=pkIn_iff.1 (pkOk_parts h.1).1;have e:p.k=((x.toNat / 16:Nat):Int):=by omega
 obtain⟨_,g2,g3,_⟩:=lnRd_sound a4;have g5:=(lnSize_le (pkBody p).length).1;simp only[List.length_nil,Nat.add_zero]at a6;refine⟨s,by rw[a4,show l.length - s=(pkBody p).length by omega],g3,by omega,a7,e,a3.symm, ?_⟩;rw[a5,←e,a3];exact pk_read h.1
end Go.Proofs.YtahbikfbjenfpaaGreatDoor
