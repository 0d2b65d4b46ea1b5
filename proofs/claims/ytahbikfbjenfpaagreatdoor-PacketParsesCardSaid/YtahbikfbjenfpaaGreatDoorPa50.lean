/- A region that draws its order, of which some operations may write: what stays between two operations is told by intervals; each operation met once. Bytes that are appended in a region that draws its order. -/
import Derived.Test.YtahbikfbjenfpaaGreatDoorPa2
import Derived.Test.YtahbikfbjenfpaaGreatDoorPa3

namespace Go.Proofs.YtahbikfbjenfpaaGreatDoor
open Tryz Go.RowKit

/-- An interval: ahead, behind: the operations that need not keep A i; whatever stands in fr comes behind those ahead, whatever stands in to comes ahead of those behind. -/
structure Iv where
 i:Nat
 ahead:List Nat
 behind:List Nat
 fr:List Nat
 to:List Nat
def Lr (ops:Array Oper)(Ws:List Iv):Bool:=Ws.all λx=>x.ahead.all (λa=>let d:=js ops a;x.fr.all λf=>a==f || d.contains f) && x.to.all (λt=>let d:=js ops t;x.behind.all λb=>b==t || d.contains b)
section
variable (Ws:List Iv) (C:au->au->Prop) (A:Nat->au->au->Prop)
/-- What an operation does. -/
structure qx (k:Nat)(w w' :au):Prop where
 c:C w w'
 a:∀x∈Ws,k∉x.ahead->k∉x.behind->A x.i w w'
/-- What may have come ahead of an operation. -/
structure zD (k:Nat)(w w' :au):Prop where
 c:C w w'
 a:∀x∈Ws,x.ahead= []->k∈x.to->A x.i w w'
/-- What may have come when an operation is through. -/
structure zM (j:Nat)(w w' :au):Prop where
 c:C w w'
 a:∀x∈Ws,x.ahead= []->j∈x.to->j∉x.behind->A x.i w w'
/-- What may have come between two operations. -/
structure Ku (j k:Nat)(w w' :au):Prop where
 c:C w w'
 a:∀x∈Ws,j∈x.fr->k∈x.to->A x.i w w'
/-- What may come behind an operation. -/
structure yp (j:Nat)(w w' :au):Prop where
 c:C w w'
 a:∀x∈Ws,j∈x.fr->x.behind= []->A x.i w w'
end
section
variable (P:Program) (Ws:List Iv) (C:au->au->Prop) (A:Nat->au->au->Prop) (w0:au) (ops:Array Oper) (vals:Tmp->Value)
def cy (k:Nat)(rs:List Tmp)(W:au):List fQ->Prop
 | []=>True
 | ⟨_,some _,_,_⟩::l=>cy k rs W l
 | ⟨none,none,_,_⟩::l=>cy k rs W l
 | ⟨some t,none,rd,φ⟩::l=>(t∈rs->∃W0,zM Ws C A l.length w0 W0/\Ku Ws C A l.length k W0 W/\φ (rd.map vals) (vals t) W0)/\cy k rs W l

def fE (W:au):List fQ->Prop
 | []=>True
 | ⟨_,some _,_,_⟩::l=>fE W l
 | ⟨none,none,rd,φ⟩::l=>(∃u W0,zM Ws C A l.length w0 W0/\yp Ws C A l.length W0 W/\φ (rd.map vals) u W0)/\fE W l
 | ⟨some t,none,rd,φ⟩::l=>(∃W0,zM Ws C A l.length w0 W0/\yp Ws C A l.length W0 W/\φ (rd.map vals) (vals t) W0)/\fE W l

def gI (a0:Act)(Q:List fQ->Prop):List Oper->List fQ->Prop
 | [],env=>Q env
 | o::rest,env=>∃c rd φ,(∀t∈rd,dG ops o t=true)/\(∀W vals,zD Ws C A env.length w0 W->cy Ws C A w0 vals env.length (o.looksAt ops++rd) W env->fH P (qx Ws C A env.length) ops (fill vals env a0) o (cB c (φ (rd.map vals))) W)/\gI a0 Q rest (af o.dst c rd φ env)
end

section
variable {P:Program} {Ws:List Iv} {C:au->au->Prop} {A:Nat->au->au->Prop} {w0:au} {ops:Array Oper} {vals:Tmp->Value}
/-- The lexical walk's findings, told by number. -/
theorem oL {a0:Act}{Q:List fQ->Prop}:∀(l:List Oper) (env:List fQ),gI P Ws C A w0 ops a0 Q l env->
  ∃(E:Nat->List fQ) (c:Nat->Option Value) (rd:Nat->List Tmp) (φ:Nat->List Value->Value->au->Prop),E 0=env/\
   (∀k o,l[k]? =some o->E (k+1)=af o.dst (c k) (rd k) (φ k) (E k)/\(∀t∈rd k,dG ops o t=true)/\∀W vals,zD Ws C A (env.length+k) w0 W->cy Ws C A w0 vals (env.length+k) (o.looksAt ops++rd k) W (E k)->fH P (qx Ws C A (env.length+k)) ops (fill vals (E k) a0) o (cB (c k) (φ k ((rd k).map vals))) W)/\Q (E l.length)
 | [],env,h=>⟨λ_=>env,λ_=>none,λ_=> [],λ_ _ _ _=>True,rfl,λk o ho=>by simp at ho,h⟩
 | o::rest,env,h=>by
  obtain⟨c,rd,φ,h0,h1,h2⟩:=h;obtain⟨E,c',Lf,φ',e0,hs,hq⟩:=oL rest _ h2;refine⟨λ| 0=>env | k+1=>E k,λ| 0=>c | k+1=>c' k,λ| 0=>rd | k+1=>Lf k,λ| 0=>φ | k+1=>φ' k,rfl, ?_,hq⟩;intro k o' ho'
  cases k with
  | zero=>
   simp only[bU,kY]at ho';subst ho';exact⟨e0,h0,h1⟩
  | succ k=>
   have h3:=hs k o' (by simpa using ho');have e:(af o.dst c rd φ env).length+k=env.length+(k+1):=by simp[af];omega
   rw[e]at h3;exact h3

theorem sE {E:Nat->List fQ}{c:Nat->Option Value}{rd:Nat->List Tmp}{φ:Nat->List Value->Value->au->Prop}(e0:E 0= []){W:au}{i:Nat}(hl:∀k,k<=ops.size->(E k).length=k)
  (hs:∀k o,ops[k]? =some o->E (k+1)=af o.dst (c k) (rd k) (φ k) (E k)) (rs:List Tmp):∀k,k<=ops.size->(∀j o t,j < k->ops[j]? =some o->o.dst=some t->t∈rs->c j=none->∃W0,zM Ws C A j w0 W0/\Ku Ws C A j i W0 W/\φ j ((rd j).map vals) (vals t) W0)->cy Ws C A w0 vals i rs W (E k)
 | 0,_,_=>by rw[e0];trivial
 | k+1,hk,h=>by
  have ih:=sE e0 hl hs rs k (by omega) (λj o t hj=>h j o t (by omega));have hok:ops[k]? =some ops[k]:=lS (by omega);rw[hs k _ hok];unfold af
  cases Cb:ops[k].dst with
  | none=>cases hc:c k <;> exact ih
  | some d' =>
   cases hc:c k with
   | some v=>exact ih
   | none=>exact⟨λhm=>by rw[hl k (by omega)];exact h k _ d' (by omega) hok Cb hm hc,ih⟩
theorem oz {E:Nat->List fQ}{c:Nat->Option Value}{rd:Nat->List Tmp}{φ:Nat->List Value->Value->au->Prop}(e0:E 0= []){W:au}(hl:∀k,k<=ops.size->(E k).length=k)
  (hs:∀k o,ops[k]? =some o->E (k+1)=af o.dst (c k) (rd k) (φ k) (E k)):∀k,k<=ops.size->(∀j o t,j < k->ops[j]? =some o->o.dst=some t->c j=none->∃W0,zM Ws C A j w0 W0/\yp Ws C A j W0 W/\φ j ((rd j).map vals) (vals t) W0)->
  (∀j o,j < k->ops[j]? =some o->o.dst=none->c j=none->∃u W0,zM Ws C A j w0 W0/\yp Ws C A j W0 W/\φ j ((rd j).map vals) u W0)->fE Ws C A w0 vals W (E k)
 | 0,_,_,_=>by rw[e0];trivial
 | k+1,hk,h,hn=>by
  have ih:=oz e0 hl hs k (by omega) (λj o t hj=>h j o t (by omega)) (λj o hj=>hn j o (by omega));have hok:ops[k]? =some ops[k]:=lS (by omega);rw[hs k _ hok];unfold af
  cases Cb:ops[k].dst with
  | none=>
   cases hc:c k with
   | some v=>exact ih
   | none=>exact⟨by rw[hl k (by omega)];exact hn k _ (by omega) hok Cb hc,ih⟩
  | some d' =>
   cases hc:c k with
   | some v=>exact ih
   | none=>exact⟨by rw[hl k (by omega)];exact h k _ d' (by omega) hok Cb hc,ih⟩

/-- What stands while the region runs. -/
structure qh (Ws:List Iv)(C:au->au->Prop)(A:Nat->au->au->Prop)(w0:au)(ops:Array Oper)(a0:Act)(c:Nat->Option Value)(rd:Nat->List Tmp)(φ:Nat->List Value->Value->au->Prop)(listed:Array Bool)(a:Act)(W:au):Prop where
 world:C w0 W
 nD:∀x∈Ws,x.ahead= []->(∀b∈x.behind,listed.getD b false=false)->A x.i w0 W
 defers:a.defers=a0.defers
 size:a.tmps.size=a0.tmps.size
 gy:listed.size=ops.size
 off:∀t,(∀k o,ops[k]? =some o->o.dst=some t->listed.getD k false=false)->a.tmps[t]? =a0.tmps[t]?
 on:∀k o d,ops[k]? =some o->o.dst=some d->listed.getD k false=true->∃v,a.tmps[d]? =some v/\∃W0,zM Ws C A k w0 W0/\C W0 W/\(∀x∈Ws,k∈x.fr->(∀b∈x.behind,listed.getD b false=false)->A x.i W0 W)/\cB (c k) (φ k ((rd k).map λt=>a.tmps.getD t undef)) v W0
 IX:∀k o,ops[k]? =some o->o.dst=none->listed.getD k false=true->∃u W0,zM Ws C A k w0 W0/\C W0 W/\(∀x∈Ws,k∈x.fr->(∀b∈x.behind,listed.getD b false=false)->A x.i W0 W)/\cB (c k) (φ k ((rd k).map λt=>a.tmps.getD t undef)) u W0
 dep:∀k o,ops[k]? =some o->listed.getD k false=true->∀e∈o.after,Region.binds .any e=true->listed.getD e.on false=true

theorem Lp (h:Lr ops Ws=true){x:Iv}(hx:x∈Ws){a f:Nat}(ha:a∈x.ahead)(hf:f∈x.fr):a=f\/f∈js ops a:=by
 have:=List.all_eq_true.1 h x hx;simp only[cR]at this;have:=List.all_eq_true.1 (List.all_eq_true.1 this.1 a ha) f hf
 simpa using this
theorem Lm (h:Lr ops Ws=true){x:Iv}(hx:x∈Ws){b t:Nat}(hb:b∈x.behind)(ht:t∈x.to):b=t\/b∈js ops t:=by
 have:=List.all_eq_true.1 h x hx;simp only[cR]at this;have:=List.all_eq_true.1 (List.all_eq_true.1 this.2 t ht) b hb
 simpa using this
/-- Ahead of an operation that is not yet listed none behind it is. -/
theorem vW {listed:Array Bool}(LO:∀k o,ops[k]? =some o->listed.getD k false=true->∀e∈o.after,Region.binds .any e=true->listed.getD e.on false=true)(h:Lr ops Ws=true){x:Iv}(hx:x∈Ws){t:Nat}(ht:t∈x.to)(hl:listed.getD t false=false):
  ∀b∈x.behind,listed.getD b false=false:=λb hb=>by
 rcases Lm h hx hb ht with rfl | hd
 ·exact hl
 ·cases hb' :listed.getD b false with
  | false=>rfl
  | true=>
   have:=iX LO t b hd hb';rw[hl]at this
   cases this

theorem vU {n:Nat}{a0:Act}{c:Nat->Option Value}{rd:Nat->List Tmp}{φ:Nat->List Value->Value->au->Prop}{listed:Array Bool}{a:Act}{W W' :au}(hF:zI C A)(rA:Lr ops Ws=true)
  (hB:f_ n ops=true) (cS:∀k o,ops[k]? =some o->∀t∈rd k,dG ops o t=true) (hn:a0.tmps.size=n) (hI:qh Ws C A w0 ops a0 c rd φ listed a W) {i:Nat} {o:Oper} (ho:ops[i]? =some o) (hl:listed.getD i true=false) (hall:∀e∈o.after,Region.binds .any e=true->listed.getD e.on false=true) (v:Value) (Dz:qx Ws C A i W W') (hv:cB (c i) (φ i ((rd i).map λt=>a.tmps.getD t undef)) v W'):
  qh Ws C A w0 ops a0 c rd φ (listed.setIfInBounds i true) (a.put o.dst v) W' :=by
 obtain⟨_,b1,b2,b3,b4⟩:=gB hB;have hil:listed.getD i false=false:=by
  have hi:=(bu hl).2
  simpa [hi]using hl
 have Hb:i < listed.size:=(bu hl).2;have hset:(listed.setIfInBounds i true).getD i false=true:=by simp[Hb]
 have Bu:∀m,(listed.setIfInBounds i true).getD m false=false->m≠i/\listed.getD m false=false:=by
  intro m hm
  by_cases zk:i=m
  ·subst zk;rw[hset]at hm;cases hm
  ·rw[getD_set_ne _ zk]at hm;exact⟨λe=>zk e.symm,hm⟩
 -- what an operation that is listed reads stays
 have keep:∀k o',ops[k]? =some o' ->(k=i\/listed.getD k false=true)->((rd k).map λt=>(a.put o.dst v).tmps.getD t undef)=(rd k).map λt=>a.tmps.getD t undef:=by
  intro k o' ho' hk;refine zX λt ht=> ?_
  replace ht:=cS k o' ho' t ht
  cases hd:o.dst with
  | none=>rfl
  | some d=>
   have hne:d≠t:=by
    rintro rfl;obtain⟨e,he,hb,hon⟩:=h_ ht ho hd
    rcases hk with rfl | hk
    ·rw[ho]at ho'
     injection ho' with ho'
     subst ho';have:=hall e he hb;rw[hon,hil]at this
     cases this
    ·have:=hI.dep k o' ho' hk e he hb
     rw[hon,hil]at this
     cases this
   have:=fq (a:=a) (v:=v) hne;simp only[ou,this]
 have Ao:∀(k:Nat) (W0:au),listed.getD k false=true->(∀x∈Ws,k∈x.fr->(∀b∈x.behind,listed.getD b false=false)->A x.i W0 W)->∀x∈Ws,k∈x.fr->(∀b∈x.behind,(listed.setIfInBounds i true).getD b false=false)->A x.i W0 W' :=by
  intro k W0 hk h x hx hf hc;refine hF.at_ _ _ _ _ (h x hx hf λb hb=>(Bu _ (hc b hb)).2) (Dz.a x hx (λha=> ?_) (λhb=> ?_))
  ·rcases Lp rA hx ha hf with rfl | hd
   ·rw[hil]at hk;cases hk
   ·have:=iX hI.dep i k hd hk
    rw[hil]at this
    cases this
  ·have:=hc i hb
   rw[hset]at this
   cases this
 have Ih:zM Ws C A i w0 W' :=⟨hF.ct _ _ _ hI.world Dz.c,λx hx h0 ht hb=>hF.at_ _ _ _ _ (hI.nD x hx h0 (vW hI.dep rA hx ht hil)) (Dz.a x hx (by rw[h0];simp) hb)⟩;refine⟨hF.ct _ _ _ hI.world Dz.c,λx hx h0 hu=> ?_,by rw[o5,hI.defers],by rw[oZ,hI.size],by simp[hI.gy], ?_, ?_, ?_, ?_⟩
 ·refine hF.at_ _ _ _ _ (hI.nD x hx h0 λb hb=>(Bu _ (hu b hb)).2) (Dz.a x hx (by rw[h0];simp) λhb=> ?_)
  have:=hu i hb;rw[hset]at this
  cases this
 ·intro t h
  have hne:o.dst≠some t:=λhd=>by
   have:=h i o ho hd;have hi:=(bu hl).2;simp[hi]at this
  have e:(a.put o.dst v).tmps[t]? =a.tmps[t]? :=by
   cases hd:o.dst with
   | none=>rfl
   | some d=>exact fq (λe=>hne (by rw[hd,e]))
  rw[e];refine hI.off t (λk o' ho' hd' => ?_);have:=h k o' ho' hd';have hki:i≠k:=λe=>by subst e;rw[ho]at ho';injection ho' with ho';subst ho';exact hne hd'
  rwa [getD_set_ne _ hki]at this
 ·intro k o' d ho' hd' hk
  by_cases hki:i=k
  ·subst hki
   rw[ho]at ho';injection ho' with ho'
   subst ho';rw[keep i o ho (.inl rfl)];rw[hd'];exact⟨v,nN (by rw[hI.size,hn];exact b1 i o d ho hd'),W',Ih,hF.cr _,λ_ _ _ _=>hF.ar _ _,hv⟩
  ·rw[getD_set_ne _ hki]at hk
   have wZ:=hk;obtain⟨u,hu,W0,h1,h2,h4,h3⟩:=hI.on k o' d ho' hd' hk;rw[keep k o' ho' (.inr hk)];refine⟨u, ?_,W0,h1,hF.ct _ _ _ h2 Dz.c,Ao k W0 wZ h4,h3⟩
   cases hd:o.dst with
   | none=>exact hu
   | some d2=>
    rw[fq (λe=>hki (b2 i k o o' d ho ho' (by rw[hd,e]) hd'))];exact hu
 ·intro k o' ho' hd' hk
  by_cases hki:i=k
  ·subst hki
   rw[ho]at ho';injection ho' with ho'
   subst ho';rw[keep i o ho (.inl rfl)];exact⟨v,W',Ih,hF.cr _,λ_ _ _ _=>hF.ar _ _,hv⟩
  ·rw[getD_set_ne _ hki]at hk
   obtain⟨u,W0,h1,h2,h4,h3⟩:=hI.IX k o' ho' hd' hk;rw[keep k o' ho' (.inr hk)];exact⟨u,W0,h1,hF.ct _ _ _ h2 Dz.c,Ao k W0 hk h4,h3⟩
 ·intro k o' ho' hk e he hb
  have hmono:∀m,listed.getD m false=true->(listed.setIfInBounds i true).getD m false=true:=by
   intro m hm
   by_cases zk:i=m
   ·subst zk
    rw[hil]at hm
    cases hm
   ·rw[getD_set_ne _ zk];exact hm
  by_cases hki:i=k
  ·subst hki
   rw[ho]at ho';injection ho' with ho'
   subst ho';exact hmono _ (hall e he hb)
  ·rw[getD_set_ne _ hki]at hk
   exact hmono _ (hI.dep k o' ho' hk e he hb)

theorem sA {n n0:Nat}{lt:List Oper}{a0:Act}{c:Nat->Option Value}{rd:Nat->List Tmp}{φ:Nat->List Value->Value->au->Prop}{E:Nat->List fQ}{Q:Exit->Act->au->Prop}(hF:zI C A)(rA:Lr ops Ws=true)
  (hB:f_ n ops=true) (hsc:n0 < ops.size->Region.sinkB .any ops n0=true/\Region.chainB .any ops n0=true) (hn0:n0<=ops.size) (hlt:∀j,lt[j]? =ops[n0+j]?)
  (Oa:Region.seqB .any ops lt.length n0 ((Array.range ops.size).map λk=>decide (k < n0))=true) (KF:cN ((Array.range ops.size).map λk=>decide (k < n0))=lt.length) (hn:a0.tmps.size=n) (e0:E 0= [])
  (hlen:∀k,k<=ops.size->(E k).length=k)
  (hs:∀k o,ops[k]? =some o->E (k+1)=af o.dst (c k) (rd k) (φ k) (E k)/\(∀t∈rd k,dG ops o t=true)/\(k < n0->∀W vals,zD Ws C A k w0 W->cy Ws C A w0 vals k (o.looksAt ops++rd k) W (E k)->fH P (qx Ws C A k) ops (fill vals (E k) a0) o (cB (c k) (φ k ((rd k).map vals))) W))
  (hq:∀W vals,C w0 W->fE Ws C A w0 vals W (E n0)->wpList P ops Q lt (fill vals (E n0) a0) W):
  ∀(fuel:Nat) (listed:Array Bool) (a:Act) (W:au),cN listed=fuel->(∀t,n0<=t->t < ops.size->listed.getD t true=false)->qh Ws C A w0 ops a0 c rd φ listed a W->wpAny P .any ops Q fuel listed a W:=by
 obtain⟨b0,b1,b2,b3,b4⟩:=gB hB;have hs1:=λk o ho=>(hs k o ho).1
 have cS:=λk o ho=>(hs k o ho).2.1
 have fin:∀(listed:Array Bool) (a:Act) (W:au),qh Ws C A w0 ops a0 c rd φ listed a W->(∀t,n0<=t->t < ops.size->listed.getD t true=false)->(∀k,k < n0->listed.getD k false=true)->wpAny P .any ops Q (cN listed) listed a W:=by
  intro listed a W hI htl hall;have hle:listed=(Array.range ops.size).map λk=>decide (k < n0):=by
   refine Array.ext (by simp[hI.gy]) λk h1 h2=> ?_
   have hk:k < ops.size:=by rw[<-hI.gy];exact h1
   simp only[Array.getElem_map,Array.getElem_range]
   by_cases ag:k < n0
   ·have:=hall k ag
    simp[h1]at this;rw[this];simp[ag]
   ·have:=htl k (by omega) hk
    simp[h1]at this;rw[this];simp[ag]
  have hq:=hq W (λt=>a.tmps.getD t undef) hI.world (oz e0 hlen hs1 n0 (by omega) (λj o t hj ho hd hc=>by
   obtain⟨v,hv,W0,h1,h2,h4,h3⟩:=hI.on j o t ho hd (hall j hj);refine⟨W0,h1,⟨h2,λx hx hf hb=>h4 x hx hf (by rw[hb];simp)⟩, ?_⟩;have:a.tmps.getD t undef=v:=by simp[hv]
   show φ j _ (a.tmps.getD t undef) W0;rw[this]
   simpa [cB,hc]using h3) (λj o hj ho hd hc=>by
   obtain⟨u,W0,h1,h2,h4,h3⟩:=hI.IX j o ho hd (hall j hj);exact⟨u,W0,h1,⟨h2,λx hx hf hb=>h4 x hx hf (by rw[hb];simp)⟩,by simpa [cB,hc]using h3⟩))
  have LM:fill (λt=>a.tmps.getD t undef) (E n0) a0=a:=by
   obtain⟨s1,s2⟩:=jb (vals:=λt=>a.tmps.getD t undef) (E n0) a0;have ht:(fill (λt=>a.tmps.getD t undef) (E n0) a0).tmps=a.tmps:=by
    refine xA λt=> ?_
    by_cases hd:∃(k:Nat) (o:Oper),k < n0/\ops[k]? =some o/\o.dst=some t
    ·obtain⟨k,o,hk,ho,hd⟩:=hd
     rw[gQ a0 hs1 b2 t (by rw[hn];exact b1 k o t ho hd) k o ho hd n0 (by omega) hk];obtain⟨v,hv,W0,_,_,_,h3⟩:=hI.on k o t ho hd (hall k hk);rw[hv]
     cases hc:c k with
     | none=>simp[hv]
     | some u=>simp[cB,hc]at h3;simp[h3]
    ·rw[fu a0 e0 hs1 t n0 (by omega) (λj o hj ho jw=>hd ⟨j,o,hj,ho,jw⟩)]
     refine(hI.off t (λk o ho jw=> ?_)).symm;have hk:n0<=k:=by
      rcases eS k n0 with h | h
      ·exact absurd ⟨k,o,h,ho,jw⟩ hd
      ·exact h
     exact getD_both (htl k hk (Array.getElem?_eq_some_iff.1 ho).1)
   have hd' :(fill (λt=>a.tmps.getD t undef) (E n0) a0).defers=a.defers:=by rw[s2,hI.defers]
   generalize fill (λt=>a.tmps.getD t undef) (E n0) a0=b at*
   obtain⟨bt,bd⟩:=b;obtain⟨at_,ad⟩:=a;simp only at ht hd';rw[ht,hd']
  rw[LM]at hq;rw[hle,KF];exact wpAny_of_seq lt n0 _ a W hlt Oa hq
 intro fuel
 induction fuel with
 | zero=>
  intro listed a W hu htl hI;rw[<-hu];refine fin listed a W hI htl λk hk=> ?_
  cases hl:listed.getD k false with
  | true=>rfl
  | false=>
   have hl' :listed.getD k true=false:=by
    have:k < listed.size:=by rw[hI.gy];omega
    simpa [this]using hl
   have:=(bu hl').1;omega
 | succ fuel ih=>
  intro listed a W hu htl hI
  by_cases hpre:∀k,k < n0->listed.getD k false=true
  ·rw[<-hu]
   exact fin listed a W hI htl hpre
  have hex:∃k,k < n0/\listed.getD k false=false:=by
   simp only[Classical.not_forall]at hpre;obtain⟨k,hk,h⟩:=hpre;exact⟨k,hk,by simpa using h⟩
  have inv:HeadInv .any ops n0 listed:=⟨hI.gy,hI.dep,htl⟩;refine⟨λhr=> ?_,λi hi=> ?_⟩
  ·exfalso
   have hall:∀m k,k < m->k < n0->listed.getD k false=true:=by
    intro m
    induction m with
    | zero=>intro k h;omega
    | succ m ih=>
     intro k hk hks
     cases hl:listed.getD k false with
     | true=>rfl
     | false=>
      exfalso
      have ho:ops[k]? =some (ops[k]'(by omega)):=lS (by omega);have hl' :listed.getD k true=false:=by
       have:k < listed.size:=by rw[hI.gy];omega
       simpa [this]using hl
      have:k∈Region.ready .any ops listed:=mem_ready.2 ⟨hl',_,ho,λe he hb=>by
       have hlt:=b3 k _ ho e he hb;exact ih e.on (by omega) (by omega)⟩
      rw[hr]at this
      cases this
   obtain⟨k,hk,h⟩:=hex;rw[hall (k+1) k (by omega) hk]at h
   cases h
  obtain⟨hl,o,ho,hall⟩:=mem_ready.1 hi;have hin:i < n0:=by
   rcases eS i n0 with h | h
   ·exact h
   ·exfalso
    obtain⟨k,hk,hkl⟩:=hex;have hlt:=zZ h (Array.getElem?_eq_some_iff.1 ho).1;exact tail_waits (hsc hlt).1 (hsc hlt).2 hlt inv (n0 - k) k rfl hk (getD_in (by rw[hI.gy];omega) hkl) i h hi
  have PN:=(bu hl).1;have hi' :i < ops.size:=(Array.getElem?_eq_some_iff.1 ho).1;have hil:listed.getD i false=false:=by
   have hi:=(bu hl).2
   simpa [hi]using hl
  have hop:=(hs i o ho).2.2 hin W (λt=>a.tmps.getD t undef) ⟨hI.world,λx hx h0 ht=>hI.nD x hx h0 (vW hI.dep rA hx ht hil)⟩ (sE e0 hlen hs1 (o.looksAt ops++rd i) i (by omega) (λj o' t hj ho' hd ht hc=>by
   obtain⟨e,he,hb,hon⟩:∃e∈o.after,Region.binds .any e=true/\e.on=j:=by
    rcases List.mem_append.1 ht with ht | ht
    ·obtain⟨_,e,he,hb,hon⟩:=(b4 i o t j o' ho ht ho' hd).resolve_right (λh=>absurd h.1 (by omega))
     exact⟨e,he,hb,hon⟩
    ·exact h_ (cS i o ho t ht) ho' hd
   obtain⟨v,hv,W0,h1,h2,h4,h3⟩:=hI.on j o' t ho' hd (hon▸hall e he hb);refine⟨W0,h1,⟨h2,λx hx hf ht=>h4 x hx hf (vW hI.dep rA hx ht hil)⟩, ?_⟩;have:a.tmps.getD t undef=v:=by simp[hv]
   show φ j _ (a.tmps.getD t undef) W0;rw[this]
   simpa [cB,hc]using h3))
  have hop:=lu (a' :=a) (Region.noSelect_spec b0 i o · · ho) (λt ht=>by
   by_cases hd:∃(k:Nat) (o' :Oper),ops[k]? =some o' /\o'.dst=some t
   ·obtain⟨k,o',ho',hd⟩:=hd
    rcases b4 i o t k o' ho ht ho' hd with⟨hk,e,he,hb,hon⟩ | ⟨hk,e,he,hb,hon⟩
    case inr=>
     rw[fu a0 e0 hs1 t i (by omega) (λj o2 hj p6 jw=>by have:=b2 j k o2 o' t p6 ho' jw hd;omega)];refine(hI.off t (λk2 o2 p6 jw=> ?_)).symm;obtain rfl:=b2 k2 k o2 o' t p6 ho' jw hd
     cases hlk:listed.getD k2 false with
     | false=>rfl
     | true=>
      have:=hI.dep k2 o' ho' hlk e he hb;rw[hon]at this;have hil:listed.getD i false=false:=by
       have hi:=(bu hl).2
       simpa [hi]using hl
      rw[hil]at this
      cases this
    rw[gQ a0 hs1 b2 t (by rw[hn];exact b1 k o' t ho' hd) k o' ho' hd i (by omega) hk];obtain⟨v,hv,W0,_,_,_,h3⟩:=hI.on k o' t ho' hd (hon▸hall e he hb);rw[hv]
    cases hc:c k with
    | none=>simp[hv]
    | some u=>simp[cB,hc]at h3;simp[h3]
   ·rw[fu a0 e0 hs1 t i (by omega) (λj o' _ ho' jw=>hd ⟨j,o',ho',jw⟩)]
    exact(hI.off t (λk o' ho' jw=>absurd ⟨k,o',ho',jw⟩ hd)).symm) hop
  have next:∀v W',qx Ws C A i W W' ->cB (c i) (φ i ((rd i).map λt=>a.tmps.getD t undef)) v W' ->wpAny P .any ops Q fuel (listed.setIfInBounds i true) (a.put o.dst v) W' :=λv W' hR hv=>
   ih _ _ _ (by omega) (λt ht ht' =>by rw[getD_set_ne true (by omega)];exact htl t ht ht') (vU hF rA hB cS hn hI ho hl hall v hR hv)
  have tr:∀x y z,qx Ws C A i x y->qx Ws C A i y z->qx Ws C A i x z:=λx y z h k=>⟨hF.ct _ _ _ h.c k.c,λu hu h1 h2=>hF.at_ _ _ _ _ (h.a u hu h1 h2) (k.a u hu h1 h2)⟩
  unfold wpOp;simp only[ho];replace hop:=hop.out
  split
  ·rename_i hw
   simp only[hw,jF]at hop
   left
   unfold Oper.wp
   generalize (execOp a.eval o).run P W=r at*
   cases r with
   | ok x w' =>
    cases x <;> simp only[dE]at hop <;> simp only[Oper.upon]
    ·exact next _ _ hop.1 hop.2
    ·exact next _ _ hop.1 hop.2
    ·exact hop.2.mono λe w'' ⟨v,he,hR,hv⟩=>by subst he;exact next _ _ (tr _ _ _ hop.1 hR) hv
    ·exact hop.2.mono λv w'' ⟨hR,hv⟩=>next _ _ (tr _ _ _ hop.1 hR) hv
   | halt x w' =>simp only[dE]at hop
  ·rename_i hw
   simp only[hw]at hop;exact next _ _ ⟨hF.cr _,λ_ _ _ _=>hF.ar _ _⟩ hop

/-- A table for the operations ahead, carried on behind them. -/
theorem ql {a0:Act}{Q:List fQ->Prop}(n0:Nat)(l:List Oper)(hn0:n0<=l.length)(h:gI P Ws C A w0 ops a0 Q (l.take n0) []):
  ∃(E:Nat->List fQ) (c:Nat->Option Value) (rd:Nat->List Tmp) (φ:Nat->List Value->Value->au->Prop),E 0= []/\(∀k,k<=l.length->(E k).length=k)/\
   (∀k o,l[k]? =some o->E (k+1)=af o.dst (c k) (rd k) (φ k) (E k)/\(∀t∈rd k,dG ops o t=true)/\(k < n0->∀W vals,zD Ws C A k w0 W->cy Ws C A w0 vals k (o.looksAt ops++rd k) W (E k)->fH P (qx Ws C A k) ops (fill vals (E k) a0) o (cB (c k) (φ k ((rd k).map vals))) W))/\Q (E n0):=by
 obtain⟨E,c,rd,φ,e0,hs,hq⟩:=oL _ _ h;have hlen:(l.take n0).length=n0:=by rw[dq];omega
 rw[hlen]at hq
 let more:Nat->List fQ:=λk=>Nat.rec (motive:=λ_=>List fQ) (E n0) (λj e=>af ((l[n0+j]?).bind (·.dst)) none [] (λ_ _ _=>True) e) k
 refine⟨λk=>if k<=n0 then E k else more (k - n0),λk=>if k < n0 then c k else none,λk=>if k < n0 then rd k else [],λk=>if k < n0 then φ k else λ_ _ _=>True,by simp[e0], ?len, ?_,by simp[hq]⟩
 case len=>
  have h1:∀k,k<=n0->(E k).length=k:=by
   intro k
   induction k with
   | zero=>intro _;rw[e0];rfl
   | succ k ih=>
    intro hk;have ho:(l.take n0)[k]? =some ((l.take n0)[k]'(by omega)):=rE (by omega);rw[(hs k _ ho).1];simp[af,ih (by omega)]
  have h2:∀k,(more k).length=n0+k:=by
   intro k
   induction k with
   | zero=>exact h1 n0 (bE _)
   | succ k ih=>
    show(af _ _ _ _ (more k)).length=_;simp[af,ih];omega
  intro k hk
  by_cases ag:k<=n0
  ·simp only[ag,jF];exact h1 k ag
  ·simp only[ag,jC];rw[h2];omega
 intro k o ho
 by_cases hk:k < n0
 ·have ho' :(l.take n0)[k]? =some o:=by rw[List.getElem?_take_of_lt hk];exact ho
  obtain⟨h1,h2,h3⟩:=hs k o ho';simp only[dR,iP]at h3;simp only[hk,jF,show k+1<=n0 from hk,show k<=n0 from kV hk];exact⟨h1,h2,λ_=>h3⟩
 ·simp only[hk,jC,show¬k+1<=n0 by omega]
  refine⟨?_,(λ_ h=>nomatch h),λh=>h.elim⟩;have hm:more (k+1 - n0)=af o.dst none [] (λ_ _ _=>True) (more (k - n0)):=by
   rw[show k+1 - n0=(k - n0)+1 by omega];show af ((l[n0+(k - n0)]?).bind (·.dst)) none [] (λ_ _ _=>True) (more (k - n0))=_;rw[show n0+(k - n0)=k by omega,ho];rfl
  rw[hm]
  by_cases hk2:k<=n0
  ·have:k=n0:=by omega
   subst this;simp only[bE,jF,Nat.sub_self];rfl
  ·simp only[hk2,jC]

theorem uU {id:Nat}{Q:Exit->Act->au->Prop}{a:Act}{w:au}{l:List Oper}(Ws:List Iv)(C:au->au->Prop)(A:Nat->au->au->Prop)(n n0:Nat)(hF:zI C A)(hm:P.follows .mixedOrders=true)(hn:a.tmps.size=n)
  (hB:(f_ n l.toArray && Lr l.toArray Ws && (decide (n0=l.length) || Region.sinkB .any l.toArray n0 && Region.chainB .any l.toArray n0) && decide (n0<=l.length) && Region.seqB .any l.toArray (l.drop n0).length n0 ((Array.range l.toArray.size).map λk=>decide (k < n0)) && decide (cN ((Array.range l.toArray.size).map λk=>decide (k < n0))=(l.drop n0).length))=true)
  (RE:C w w.drew) (RF:∀i,A i w w.drew)
  (h:gI P Ws C A w l.toArray a (λenv=>∀W vals,C w W->fE Ws C A w vals W env->wpList P l.toArray Q (l.drop n0) (fill vals env a) W) (l.take n0) []):(Code.region id l.toArray true).wp P Q a w:=by
 simp only[cR,kW,fA]at hB;obtain⟨⟨⟨⟨⟨h1,rA⟩,h2⟩,h4⟩,h5⟩,h6⟩:=hB;obtain⟨E,c,rd,φ,e0,hlen,hs,hq⟩:=ql n0 l (by omega) h;refine wp_region_any hm (sA (w0:=w) (n0:=n0) (lt:=l.drop n0) hF rA h1 (λhlt=>h2.resolve_left (λe=>by rw[oq]at hlt;omega)) (by simpa using h4) (λj=>by simp) h5 h6 hn e0 (λk hk=>hlen k (by simpa using hk)) (λk o ho=>hs k o (by simpa using ho)) hq _ _ _ _ ?_ (λt ht ht' => ?_) ⟨RE,λx _ _ _=>RF _,rfl,rfl,by simp,λ_ _=>rfl,λk o d ho _ hk=> ?_,λk o ho _ hk=> ?_,λk o ho hk=> ?_⟩)
 ·unfold cN
  simp
 ·simp only[oq]at ht'
  simp[ht']
 all_goals
  exfalso
  by_cases h' :k < l.length <;> simp[h']at hk
end
section
variable {P:Program} {Ws:List Iv} {C:au->au->Prop} {A:Nat->au->au->Prop} {w0:au} {ops:Array Oper} {a0:Act} {Q:List fQ->Prop} {o:Oper} {rest:List Oper} {env:List fQ}
theorem lz (h:Q env):gI P Ws C A w0 ops a0 Q [] env:=h
theorem aY (k:Nat)(v:Value)(he:env.length=k)(h:∀W vals,zD Ws C A k w0 W->cy Ws C A w0 vals k (o.looksAt ops) W env->fH P (qx Ws C A k) ops (fill vals env a0) o (λu _=>u=v) W)
  (hk:gI P Ws C A w0 ops a0 Q rest (af o.dst (some v) [] (λ_ _ _=>True) env)):gI P Ws C A w0 ops a0 Q (o::rest) env:=by
 subst he;exact⟨some v, [],_,(λ_ h=>nomatch h),λW vals hW ag=>h W vals hW (by rwa [dJ]at ag),hk⟩
theorem vT (k:Nat)(rd:List Tmp)(φ:List Value->Value->au->Prop)(he:env.length=k)(cS:rd.all (dG ops o)=true)(h:∀W vals,zD Ws C A k w0 W->cy Ws C A w0 vals k (o.looksAt ops++rd) W env->∀φ' :Value->au->Prop,Hid (∀u w,φ (rd.map vals) u w->φ' u w)->fH P (qx Ws C A k) ops (fill vals env a0) o φ' W)
  (hk:gI P Ws C A w0 ops a0 Q rest (af o.dst none rd φ env)):gI P Ws C A w0 ops a0 Q (o::rest) env:=by
 subst he;exact⟨none,rd,φ,λt ht=>List.all_eq_true.1 cS t ht,λW vals hW ag=>h W vals hW ag _ (zh λ_ _ h=>h),hk⟩
theorem db (k:Nat)(φ:Value->au->Prop)(he:env.length=k)(h:∀W vals,zD Ws C A k w0 W->cy Ws C A w0 vals k (o.looksAt ops) W env->∀φ' :Value->au->Prop,Hid (∀u w,φ u w->φ' u w)->fH P (qx Ws C A k) ops (fill vals env a0) o φ' W)
  (hk:gI P Ws C A w0 ops a0 Q rest (af o.dst none [] (λ_=>φ) env)):gI P Ws C A w0 ops a0 Q (o::rest) env:=by
 subst he;exact⟨none, [],λ_=>φ,(λ_ h=>nomatch h),λW vals hW ag=>h W vals hW (by rwa [dJ]at ag) φ (zh λ_ _ h=>h),hk⟩
/-- What allocations do to all of it. -/
structure jL (Ws:List Iv)(C:au->au->Prop)(A:Nat->au->au->Prop):Prop where
 fit:zI C A
 c:∀{w w'},ae w w' []->C w w'
 a:∀{i w w'},ae w w' []->A i w w'
theorem jL.bp (h:jL Ws C A){k:Nat}{w w' :au}(hk:ae w w' []):qx Ws C A k w w' :=⟨h.c hk,λ_ _ _ _=>h.a hk⟩
theorem fZ (hL:jL Ws C A){k:Nat}{W:au}{φ φ' :Value->au->Prop}(hφ:Hid (∀u w,φ u w->φ' u w)){f:FuncId}{args:Array Value}(h:Calls P f args W (λe w'' =>∃v,e= .returned v/\ae W w'' []/\φ v w'')):
  dE P (qx Ws C A k) W φ' (.ok (.enter f args) W):=⟨hL.bp (ae.refl _ _),h.mono λ_ _ ⟨v,he,hk,hv⟩=>⟨v,he,hL.bp hk,hφ.o _ _ hv⟩⟩
theorem iQ {id:Nat}{Q:Exit->Act->au->Prop}{a:Act}{w:au}{l:List Oper}(Ws:List Iv)(C:au->au->Prop)(A:Nat->au->au->Prop)(n n0:Nat)(hF:jL Ws C A)(hm:P.follows .mixedOrders=true)(hn:a.tmps.size=n)
  (hB:(f_ n l.toArray && Lr l.toArray Ws && (decide (n0=l.length) || Region.sinkB .any l.toArray n0 && Region.chainB .any l.toArray n0) && decide (n0<=l.length) && Region.seqB .any l.toArray (l.drop n0).length n0 ((Array.range l.toArray.size).map λk=>decide (k < n0)) && decide (cN ((Array.range l.toArray.size).map λk=>decide (k < n0))=(l.drop n0).length))=true)
  (h:gI P Ws C A w l.toArray a (λenv=>∀W vals,C w W->fE Ws C A w vals W env->wpList P l.toArray Q (l.drop n0) (fill vals env a) W) (l.take n0) []):(Code.region id l.toArray true).wp P Q a w:=
 uU Ws C A n n0 hF.fit hm hn hB (hF.c (ae.drew _)) (λ_=>hF.a (ae.drew _)) h
end
section
variable {C R:au->au->Prop} {Ws:List Iv} {i k m:Nat} {w w' :au}
/-- One relation for all intervals. -/
theorem jL.all (hC:kE C)(hR:kE R):jL Ws C (λ_=>R):=⟨⟨λ_=>hC.keeps (ae.refl _ _),λ_ _ _ h k=>hC.trans h k,λ_ _=>hR.keeps (ae.refl _ _),λ_ _ _ _ h k=>hR.trans h k⟩,λh=>hC.keeps h,λh=>hR.keeps h⟩
/-- An operation that each interval leaves out. -/
theorem qx.off {A:Nat->au->au->Prop}(hc:C w w')(h:(Ws.all λx=>x.ahead.contains k || x.behind.contains k)=true:=by decide):qx Ws C A k w w' :=⟨hc,λx hx h1 h2=>by
 have:=List.all_eq_true.1 h x hx;simp only[kW,List.contains_iff_mem]at this;exact absurd this (by rintro(h | h);exact h1 h;exact h2 h)⟩
/-- From the beginning on up to an operation. -/
theorem zD.at_ (h:zD Ws C (λ_=>R) k w w')(x:Iv)(hx:x∈Ws:=by simp)(h0:x.ahead= []:=by rfl)(ht:k∈x.to:=by simp):R w w' :=h.a x hx h0 ht
theorem Ku.at_ (h:Ku Ws C (λ_=>R) m k w w')(x:Iv)(hx:x∈Ws:=by simp)(hf:m∈x.fr:=by simp)(ht:k∈x.to:=by simp):R w w' :=h.a x hx hf ht
theorem yp.at_ (h:yp Ws C (λ_=>R) m w w')(x:Iv)(hx:x∈Ws:=by simp)(hf:m∈x.fr:=by simp)(hb:x.behind= []:=by rfl):R w w' :=h.a x hx hf hb
end

theorem eC {R:au->au->Prop}{ops:Array Oper}{o:Oper}{a:Act}{w:au}{φ' :Value->au->Prop}(hgd:o.guard=none)(s x:Operand)
  (ho:o.op= .call {callee:= .builtin .append,args:= #[s,x],argTypes:= #[32,32]})
  (base:Nat) (v u:Value) (l1 l2:aG) (hs:a.eval s=v) (hx:a.eval x=u) (hown:aS w base v l1) (hb:Bytes w w.heap.size u l2) (hlen:l1.length+l2.length<=140737488355328) (hbase:base<=w.heap.size)
  (h:∀A c w' l,l=l1++l2->aS w' base (.slice A l.length c) l->ae w w' v.ownBlock.toList->R w w' /\φ' (.slice A l.length c) w'):fH prog R ops a o φ' w:=by
 refine⟨?_⟩;have hw:Region.wanted o (yielded ops a.tmps)=true:=by simp[Region.wanted,hgd]
 rw[aE hw];obtain⟨A,c,w',hrun,h2,h3,h4⟩:=mU w base v u l1 l2 o.type hown hb hlen hbase;unfold execOp;simp only[ho,resolve,invoke,builtin,fo,gq,fk,xH,eu,fU,hs,hx,hrun];exact h A c w' _ rfl h2 h3
theorem dU.app {w0 w w' :au}{v:Value}{l:aG}(ho:aS w w0.heap.size v l)(hk:ae w w' v.ownBlock.toList):dU w0 w w' :=
 λh=>h.trans hk (λy hy hlt=>by have:=(ho.lt y (by simpa using hy)).1;omega)
/-- What was there at w0 stays, and so does each block of one cell. -/
structure Im (w0 w w' :au):Prop where
 old:ae w0 w []->ae w0 w' []
 one:∀b t v,Row w b t #[v]->Row w' b t #[v]
theorem Im.ok (w0:au):kE (Im w0):=⟨λh=>⟨λk=>k.ah h,λ_ _ _ k=>k.keeps h⟩,λh k=>⟨λx=>k.old (h.old x),λb t v x=>k.one b t v (h.one b t v x)⟩⟩
/-- An append onto two bytes or more. -/
theorem Im.app {w0 w w' :au}{v:Value}{l:aG}(ho:aS w w0.heap.size v l)(hl:2<=l.length)(hk:ae w w' v.ownBlock.toList):Im w0 w w' :=
 ⟨λh=>h.trans hk (λy hy hlt=>by have:=(ho.lt y (by simpa using hy)).1;omega),λb t u hr=>by
  refine hr.keep hk λhm=> ?_
  rcases ho.2 with⟨_,h0⟩ | ⟨g,cap,cur,hv,_,hg,hnc,_,hsz,_⟩
  ·omega
  ·rw[hv]at hm
   simp only[Value.ownBlock,Option.toList,rD]at hm;subst hm;unfold Row at hr;rw[hg]at hr;injection hr with hr
   injection hr with hr
   subst hr;simp at hsz;omega⟩
end Go.Proofs.YtahbikfbjenfpaaGreatDoor
