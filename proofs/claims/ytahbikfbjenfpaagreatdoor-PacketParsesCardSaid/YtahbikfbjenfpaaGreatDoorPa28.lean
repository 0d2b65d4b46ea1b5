/- Plain: the place of the first thing of which something is so. Package length: the first of some of which something is so; bounds, Size. Package length: bounds, Size. -/
import Derived.Test.YtahbikfbjenfpaaGreatDoorPa3
import Derived.Test.YtahbikfbjenfpaaGreatDoorPa1
import Derived.Test.YtahbikfbjenfpaaGreatDoorPa2
set_option maxHeartbeats 2000000
set_option maxRecDepth 100000
namespace Go.Proofs.YtahbikfbjenfpaaGreatDoor
open Tryz Go.RowKit

def jx {α:Type}(p:α->Bool)(l:List α):Int:=match l.findIdx? p with
 | some i=>(i:Int)
 | none=> -1
theorem jK {α:Type}{p:α->Bool}{l:List α}{j:Nat}(hj:j < l.length)(h:(l.take j).all (λx=> !p x)=true)(hp:p l[j]=true):jx p l=j:=by
 unfold jx;have e:l.findIdx? p=some j:=by
  rw[List.findIdx?_eq_some_iff_getElem];refine⟨hj,hp,λi hi=> ?_⟩;have hm:l[i]'(by omega)∈l.take j:=by
   rw[List.mem_take_iff_getElem];exact⟨i,by omega,rfl⟩
  have:=List.all_eq_true.1 h _ hm
  simpa using this
 rw[e]
theorem kT {α:Type}{p:α->Bool}{l:List α}(h:l.all (λx=> !p x)=true):jx p l= -1:=by
 unfold jx;have e:l.findIdx? p=none:=by
  rw[List.findIdx?_eq_none_iff];intro x hx;have:=List.all_eq_true.1 h x hx
  simpa using this
 rw[e]
theorem kR {α:Type}{p:α->Bool}{l:List α}{j:Nat}(hj:j < l.length)(h:(l.take j).all (λx=> !p x)=true)(hp:p l[j]=false):(l.take (j+1)).all (λx=> !p x)=true:=by
 rw[hO hj,List.all_append,h];simp[hp]
/-- None is so, or some is. -/
theorem sJ {α:Type}(p:α->Bool)(l:List α):decide (jx p l>=0)=l.any p:=by
 unfold jx
 cases hf:l.findIdx? p with
 | none=>
  rw[List.findIdx?_eq_none_iff]at hf;have:l.any p=false:=by
   rw[List.any_eq_false];intro x hx;have:=hf x hx;simp[this]
  rw[this];simp
 | some i=>
  rw[List.findIdx?_eq_some_iff_getElem]at hf;obtain⟨h1,h2,_⟩:=hf;have:l.any p=true:=List.any_eq_true.2 ⟨_,fS _,h2⟩;rw[this];simp

theorem Bn (w:au)(bx:Nat)(A:Option Addr)(c:Nat)(l:List Int)(p:Int->Bool)(hL:cG w w.heap.size A (l.map λx=> .int .i64 x))(hl:l.length<=1000000)
  (HC:∀W,ae w W []->∀x∈l,Calls prog 150 #[.int .i64 x,.pointer (some ⟨bx,0,none⟩)] W (aJ W (p x))):
  Calls prog 149 #[.slice A l.length c,.func (.func 150) #[] #[.pointer (some ⟨bx,0,none⟩)]] w λe w' =>e= .returned (.int .i64 (jx p l))/\ae w w' []:=by
 have HC:=zh HC;have PB:=zh (show bx=bx from rfl)
 go_enter func149,ntmps149
 go_wp2_with fail
 go_loopw [8] (λi wr=>∃j:Nat,j<=l.length/\i= .int .i64 j/\Hid ((l.take j).all (λx=> !p x)=true/\ae w wr [])) (λi _=>l.length - (intOf i).toNat)
 case atStart=>exact⟨0,by omega,rfl,zh ⟨rfl,ae.refl _ _⟩⟩
 case round=>
  obtain⟨j,hj,rfl,HJ⟩:=hrel
  by_cases hjl:j < l.length
  ·obtain⟨b,o,rfl,hb,hc⟩:=(hL.keeps HJ.o.2).at_ (k:=j) (by simpa using hjl)
   simp only[List.getElem_map]at hc;have HF:=zh (λh=>kR (p:=p) (j:=j) hjl HJ.o.1 h);have sU:=zh (HC.o wr HJ.o.2 l[j] (fS _));have HP:=zh (λh=>jK (p:=p) (j:=j) hjl HJ.o.1 h);have HL:=zh hL;clear hL;obtain⟨q,hq⟩:∃q,p l[j]=q:=⟨_,rfl⟩;rw[hq]at sU HP HF
   generalize l[j]=x at hc sU hq
   clear hq
   go_wp2_with fail
   refine sU.o.mono ?_;rintro e w3 ⟨rfl,hk3⟩;have HK:=zh (HJ.o.2.ah hk3);clear hk3 hc sU
   cases q with
   | true=>
    go_wp2_with fail
    go_ret;exact⟨by rw[HP.o (by first | rfl | trivial)];rfl,HK.o⟩
   | false=>
    go_wp2_with fail
    exact⟨⟨j+1,by omega,by go_num,zh ⟨HF.o (by first | rfl | trivial),HK.o⟩⟩,by simp[intOf];omega⟩
  ·obtain rfl:j=l.length:=by omega
   clear hL;have HN:=zh (kT (p:=p) (l:=l) (by have:=HJ.o.1;rwa [eQ]at this))
   go_wp2_with fail
   go_ret;exact⟨by rw[HN.o];rfl,HJ.o.2⟩
theorem Dj (w:au)(bx:Nat)(A:Option Addr)(c:Nat)(l:List Int)(p:Int->Bool)(hL:cG w w.heap.size A (l.map λx=> .int .i64 x))(hl:l.length<=1000000)
  (HC:∀W,ae w W []->∀x∈l,Calls prog 144 #[.int .i64 x] W (aJ W (p x))):
  Calls prog 149 #[.slice A l.length c,.func (.func 144) #[] #[]] w λe w' =>e= .returned (.int .i64 (jx p l))/\ae w w' []:=by
 have HC:=zh HC;have PB:=zh (show bx=bx from rfl)
 go_enter func149,ntmps149
 go_wp2_with fail
 go_loopw [8] (λi wr=>∃j:Nat,j<=l.length/\i= .int .i64 j/\Hid ((l.take j).all (λx=> !p x)=true/\ae w wr [])) (λi _=>l.length - (intOf i).toNat)
 case atStart=>exact⟨0,by omega,rfl,zh ⟨rfl,ae.refl _ _⟩⟩
 case round=>
  obtain⟨j,hj,rfl,HJ⟩:=hrel
  by_cases hjl:j < l.length
  ·obtain⟨b,o,rfl,hb,hc⟩:=(hL.keeps HJ.o.2).at_ (k:=j) (by simpa using hjl)
   simp only[List.getElem_map]at hc;have HF:=zh (λh=>kR (p:=p) (j:=j) hjl HJ.o.1 h);have sU:=zh (HC.o wr HJ.o.2 l[j] (fS _));have HP:=zh (λh=>jK (p:=p) (j:=j) hjl HJ.o.1 h);have HL:=zh hL;clear hL;obtain⟨q,hq⟩:∃q,p l[j]=q:=⟨_,rfl⟩;rw[hq]at sU HP HF
   generalize l[j]=x at hc sU hq
   clear hq
   go_wp2_with fail
   refine sU.o.mono ?_;rintro e w3 ⟨rfl,hk3⟩;have HK:=zh (HJ.o.2.ah hk3);clear hk3 hc sU
   cases q with
   | true=>
    go_wp2_with fail
    go_ret;exact⟨by rw[HP.o (by first | rfl | trivial)];rfl,HK.o⟩
   | false=>
    go_wp2_with fail
    exact⟨⟨j+1,by omega,by go_num,zh ⟨HF.o (by first | rfl | trivial),HK.o⟩⟩,by simp[intOf];omega⟩
  ·obtain rfl:j=l.length:=by omega
   clear hL;have HN:=zh (kT (p:=p) (l:=l) (by have:=HJ.o.1;rwa [eQ]at this))
   go_wp2_with fail
   go_ret;exact⟨by rw[HN.o];rfl,HJ.o.2⟩
theorem Bo (w:au)(bx:Nat)(A:Option Addr)(c:Nat)(l:aG)(p:UInt8->Bool)(hL:cG w w.heap.size A (l.map λx=>bq x))(hl:l.length<=1000000)
  (HC:∀W,ae w W []->∀x∈l,Calls prog 97 #[bq x] W (aJ W (p x))):
  Calls prog 96 #[.slice A l.length c,.func (.func 97) #[] #[]] w λe w' =>e= .returned (.int .i64 (jx p l))/\ae w w' []:=by
 have HC:=zh HC;have PB:=zh (show bx=bx from rfl)
 go_enter func96,ntmps96
 go_wp2_with fail
 go_loopw [8] (λi wr=>∃j:Nat,j<=l.length/\i= .int .i64 j/\Hid ((l.take j).all (λx=> !p x)=true/\ae w wr [])) (λi _=>l.length - (intOf i).toNat)
 case atStart=>exact⟨0,by omega,rfl,zh ⟨rfl,ae.refl _ _⟩⟩
 case round=>
  obtain⟨j,hj,rfl,HJ⟩:=hrel
  by_cases hjl:j < l.length
  ·obtain⟨b,o,rfl,hb,hc⟩:=(hL.keeps HJ.o.2).at_ (k:=j) (by simpa using hjl)
   simp only[List.getElem_map]at hc;have HF:=zh (λh=>kR (p:=p) (j:=j) hjl HJ.o.1 h);have sU:=zh (HC.o wr HJ.o.2 l[j] (fS _));have HP:=zh (λh=>jK (p:=p) (j:=j) hjl HJ.o.1 h);have HL:=zh hL;clear hL;obtain⟨q,hq⟩:∃q,p l[j]=q:=⟨_,rfl⟩;rw[hq]at sU HP HF
   generalize l[j]=x at hc sU hq
   clear hq
   go_wp2_with fail
   refine sU.o.mono ?_;rintro e w3 ⟨rfl,hk3⟩;have HK:=zh (HJ.o.2.ah hk3);clear hk3 hc sU
   cases q with
   | true=>
    go_wp2_with fail
    go_ret;exact⟨by rw[HP.o (by first | rfl | trivial)];rfl,HK.o⟩
   | false=>
    go_wp2_with fail
    exact⟨⟨j+1,by omega,by go_num,zh ⟨HF.o (by first | rfl | trivial),HK.o⟩⟩,by simp[intOf];omega⟩
  ·obtain rfl:j=l.length:=by omega
   clear hL;have HN:=zh (kT (p:=p) (l:=l) (by have:=HJ.o.1;rwa [eQ]at this))
   go_wp2_with fail
   go_ret;exact⟨by rw[HN.o];rfl,HJ.o.2⟩
theorem xY (w:au)(n:Int):Calls prog 145 #[.int .i64 n] w λe w' =>e= .returned (.bool (decide (0<=n) && decide (n<=268435455)))/\w=w' :=by
 by_cases h1:0<=n
 ·have d1:decide (n>=0)=true:=bz h1
  have d2:decide (0<=n)=true:=bz h1;obtain⟨q,hq⟩:∃q,decide (n<=268435455)=q:=⟨_,rfl⟩;have HQ:=zh (show(decide (0<=n) && decide (n<=268435455))=q by rw[d2,hq];rfl);clear d2
  go_enter func145,ntmps145
  go_wp2_with fail
  go_ret;exact⟨by first | rfl | (rw[HQ.o];rfl),rfl⟩
 ·have d1:decide (n>=0)=false:=aZ h1
  have HQ:=zh (show(decide (0<=n) && decide (n<=268435455))=false by rw[show decide (0<=n)=false from aZ h1];rfl)
  go_enter func145,ntmps145
  go_wp2_with fail
  go_ret;exact⟨by first | rfl | (rw[HQ.o];rfl),rfl⟩

theorem rQ {t:TypeId}{W:au}{b:Nat}{cs:Array Value}(h:Row W b t cs)(i:Nat)(v:Value){W' :au}(hW:W.setCell ⟨b,i,none⟩ v=W'){ds:Array Value}(hd:cs.setIfInBounds i v=ds):Row W' b t ds/\ae W W' [b]:=by
 subst hW hd;exact⟨h.store i v,ae.setCell _ _ _⟩
theorem JM {t:TypeId}{w W:au}{z:Nat}{v0 v1 v2 v3 v4 u0 u1 u2 u3 u4:Value}{F:au->Prop}(h:Row W z t #[u0,u1,u2,u3,u4])(hk:ae w W [])(hz:w.heap.size<=z)
  (hF:∀W9,Row W9 z t #[v0,v1,v2,v3,v4]->ae w W9 []->F W9):F (((((W.setCell ⟨z,0,none⟩ v0).setCell ⟨z,1,none⟩ v1).setCell ⟨z,2,none⟩ v2).setCell ⟨z,3,none⟩ v3).setCell ⟨z,4,none⟩ v4):=by
 obtain⟨W0,e0⟩:∃W',W.setCell ⟨z,0,none⟩ v0=W' :=⟨_,rfl⟩;obtain⟨h0,k0⟩:=rQ h 0 v0 e0 (ds:= #[v0,u1,u2,u3,u4]) rfl;rw[e0];obtain⟨W1,e1⟩:∃W',W0.setCell ⟨z,1,none⟩ v1=W' :=⟨_,rfl⟩;obtain⟨h1,k1⟩:=rQ h0 1 v1 e1 (ds:= #[v0,v1,u2,u3,u4]) rfl;rw[e1];obtain⟨W2,e2⟩:∃W',W1.setCell ⟨z,2,none⟩ v2=W' :=⟨_,rfl⟩;obtain⟨h2,k2⟩:=rQ h1 2 v2 e2 (ds:= #[v0,v1,v2,u3,u4]) rfl;rw[e2];obtain⟨W3,e3⟩:∃W',W2.setCell ⟨z,3,none⟩ v3=W' :=⟨_,rfl⟩;obtain⟨h3,k3⟩:=rQ h2 3 v3 e3 (ds:= #[v0,v1,v2,v3,u4]) rfl;rw[e3];obtain⟨W4,e4⟩:∃W',W3.setCell ⟨z,4,none⟩ v4=W' :=⟨_,rfl⟩;obtain⟨h4,k4⟩:=rQ h3 4 v4 e4 (ds:= #[v0,v1,v2,v3,v4]) rfl;rw[e4];have kk:∀{x y z' :au},ae x y [z]->ae y z' [z]->ae x z' [z]:=λh k=>h.trans k (λ_ hx _=>hx)
 exact hF _ h4 (hk.trans (kk k0 (kk k1 (kk k2 (kk k3 k4)))) λx hx hlt=>by
  rw[rD]at hx;omega)
def NP (j:Nat):Array Value:= #[.int .i64 0,.int .i64 (if 1<=j then 128 else 0),.int .i64 (if 2<=j then 16384 else 0),.int .i64 (if 3<=j then 2097152 else 0),.int .i64 (if 4<=j then 268435456 else 0)]
theorem zb (w:au):Calls prog 148 #[] w λe w' =>e= .returned (.agg #[.int .i64 0,.int .i64 128,.int .i64 16384,.int .i64 2097152,.int .i64 268435456])/\ae w w' []:=by
 go_enter func148,ntmps148
 go_wp2_with fail
 go_loopw [3] (λi wr=>∃j:Nat,j<=4/\i= .int .i64 j/\Hid (Row wr (w.heap.size+1) 157 (NP j)/\Row wr w.heap.size 157 #[.int .i64 0,.int .i64 0,.int .i64 0,.int .i64 0,.int .i64 0]/\ae w wr [])) (λi _=>4 - (intOf i).toNat)
 case atStart=>
  refine⟨0,by omega,rfl,zh ⟨?_,(Row.new w _ _).alloc _,(ae.alloc _ _).bX _⟩⟩;have:=Row.new (w.alloc (.cells #[.int .i64 0,.int .i64 0,.int .i64 0,.int .i64 0,.int .i64 0] 157)) 157 #[.int .i64 0,.int .i64 0,.int .i64 0,.int .i64 0,.int .i64 0]
  rwa [qC]at this
 case round=>
  obtain⟨j,hj,rfl,HJ⟩:=hrel;have f0:=HJ.o.1.frozen 0;have f1:=HJ.o.1.frozen 1;have f2:=HJ.o.1.frozen 2;have f3:=HJ.o.1.frozen 3;have f4:=HJ.o.1.frozen 4;have c0:=HJ.o.1.cell 0;have c1:=HJ.o.1.cell 1;have c2:=HJ.o.1.cell 2;have c3:=HJ.o.1.cell 3;have c4:=HJ.o.1.cell 4;unfold NP at c0 c1 c2 c3 c4;simp only[cg,bU,fe]at c0 c1 c2 c3 c4;have e:j=0\/j=1\/j=2\/j=3\/j=4:=by omega
  rcases e with rfl | rfl | rfl | rfl | rfl
  ·go_wp2_with fail
   exact⟨⟨1,by omega,rfl,zh ⟨HJ.o.1.store 1 (.int .i64 128),HJ.o.2.1.far (by simp) _,HJ.o.2.2.rI _ _ (by simp)⟩⟩,by simp[intOf]⟩
  ·go_wp2_with fail
   exact⟨⟨2,by omega,rfl,zh ⟨HJ.o.1.store 2 (.int .i64 16384),HJ.o.2.1.far (by simp) _,HJ.o.2.2.rI _ _ (by simp)⟩⟩,by simp[intOf]⟩
  ·go_wp2_with fail
   exact⟨⟨3,by omega,rfl,zh ⟨HJ.o.1.store 3 (.int .i64 2097152),HJ.o.2.1.far (by simp) _,HJ.o.2.2.rI _ _ (by simp)⟩⟩,by simp[intOf]⟩
  ·go_wp2_with fail
   exact⟨⟨4,by omega,rfl,zh ⟨HJ.o.1.store 4 (.int .i64 268435456),HJ.o.2.1.far (by simp) _,HJ.o.2.2.rI _ _ (by simp)⟩⟩,by simp[intOf]⟩
  ·have g0:=HJ.o.2.1.frozen 0
   have g1:=HJ.o.2.1.frozen 1;have g2:=HJ.o.2.1.frozen 2;have g3:=HJ.o.2.1.frozen 3;have g4:=HJ.o.2.1.frozen 4;have d0:=HJ.o.2.1.cell 0;have d1:=HJ.o.2.1.cell 1;have d2:=HJ.o.2.1.cell 2;have d3:=HJ.o.2.1.cell 3;have d4:=HJ.o.2.1.cell 4;simp only[cg,bU,fe]at d0 d1 d2 d3 d4;clear f0 f1 f2 f3 f4
   go_wp2_with fail
   exact JM HJ.o.2.1 HJ.o.2.2 (bE _) (λW9 q9 hk=>by
    have e0:=q9.cell 0;have e1:=q9.cell 1;have e2:=q9.cell 2;have e3:=q9.cell 3;have e4:=q9.cell 4;simp only[cg,bU,fe]at e0 e1 e2 e3 e4;exact bD (v:= .agg #[.int .i64 0,.int .i64 128,.int .i64 16384,.int .i64 2097152,.int .i64 268435456]) (by simp[results,results148,go_sem,e0,e1,e2,e3,e4]) rfl ⟨rfl,hk⟩)
theorem GS {n:Int}(h:0<=n/\n<=268435455):jx (λx=>decide (n < x)) [0,128,16384,2097152,268435456]=(dD n.toNat:Nat):=by
 unfold jx dD;have h0:¬n < 0:=by omega
 by_cases h1:n < 128
 ·simp[List.findIdx?_cons,h0,h1,show n.toNat < 128 by omega]
 ·by_cases h2:n < 16384
  ·simp[List.findIdx?_cons,h0,h1,h2,show¬n.toNat < 128 by omega,show n.toNat < 16384 by omega]
  ·by_cases h3:n < 2097152
   ·simp[List.findIdx?_cons,h0,h1,h2,h3,show¬n.toNat < 128 by omega,show¬n.toNat < 16384 by omega,show n.toNat < 2097152 by omega]
   ·simp[List.findIdx?_cons,h0,h1,h2,h3,show¬n.toNat < 128 by omega,show¬n.toNat < 16384 by omega,show¬n.toNat < 2097152 by omega,show n < 268435456 by omega]
theorem Bh (w:au)(bx:Nat)(n x:Int)(hb:Row w bx 2 #[.int .i64 n]):Calls prog 150 #[.int .i64 x,.pointer (some ⟨bx,0,none⟩)] w (aJ w (decide (n < x))):=by
 have c:=hb.cell 0;simp only[cg,bU]at c;obtain⟨q,hq⟩:∃q,decide (n < x)=q:=⟨_,rfl⟩;rw[hq];clear hb
 go_enter func150,ntmps150
 go_wp2_with fail
 go_ret;exact⟨rfl,ae.refl _ _⟩
theorem qX (w:au)(n:Int)(h:0<=n/\n<=268435455):Calls prog 99 #[.int .i64 n] w λe w' =>e= .returned (.int .i64 (dD n.toNat:Nat))/\ae w w' []:=by
 have PT:∀(fn:Fn) (first cap:Array Value) (w:au),(Instr.makeFunc fn first cap).run prog w= .ok (.func fn first cap) w:=λ_ _ _ _=>rfl
 have HM:=zh (show(decide (0<=n) && decide (n<=268435455))=true by simp[h.1,h.2]);have HS:=zh (GS h);obtain⟨W0,aV⟩:∃W0,w.alloc (.cells #[.int .i64 n] 2)=W0:=⟨_,rfl⟩;have k0:ae w W0 []:=by rw[<-aV];exact ae.alloc _ _
 have r0:Row W0 w.heap.size 2 #[.int .i64 n]:=by rw[<-aV];exact Row.new _ _ _
 have c0:=r0.cell 0;simp only[cg,bU]at c0;have HR:=zh (And.intro k0 r0);clear k0 r0 h
 go_enter func99,ntmps99
 go_wp2_with fail
 refine(xY _ n).mono ?_;rintro e w1 ⟨rfl,rfl⟩;rw[HM.o]
 go_wp2_with fail
 refine(zb _).mono ?_;rintro e w1 ⟨rfl,hk⟩;obtain⟨W2,kq⟩:∃W2,w1.alloc (.cells #[.int .i64 0,.int .i64 128,.int .i64 16384,.int .i64 2097152,.int .i64 268435456] 157)=W2:=⟨_,rfl⟩;have k2:ae w1 W2 []:=by rw[<-kq];exact ae.alloc _ _
 have r2:Row W2 w1.heap.size 157 #[.int .i64 0,.int .i64 128,.int .i64 16384,.int .i64 2097152,.int .i64 268435456]:=by rw[<-kq];exact Row.new _ _ _
 have H2:=zh (And.intro (hk.ah k2) r2);clear hk k2 r2 aV c0
 go_wp2_with fail
 try rw[kq]
 clear kq;have hb:=HR.o.2.keeps H2.o.1;refine(Bn W2 w.heap.size (some ⟨w1.heap.size,0,none⟩) 5 [0,128,16384,2097152,268435456] (λx=>decide (n < x)) (λ_=>⟨w1.heap.size,0,rfl,H2.o.2.lt,λj u hu=> ?_⟩) (by simp) (λW hk x _=>Bh W _ n x (hb.keeps hk))).mono ?_
 ·rw[iP,H2.o.2.cell j,<-hu]
  simp only[cg,eu,fU]
 rintro e w5 ⟨rfl,iH⟩;have HK:=zh ((HR.o.1.ah H2.o.1).ah iH);rw[HS.o];clear iH hb
 go_wp2_with fail
 go_ret;exact⟨rfl,HK.o⟩
end Go.Proofs.YtahbikfbjenfpaaGreatDoor
