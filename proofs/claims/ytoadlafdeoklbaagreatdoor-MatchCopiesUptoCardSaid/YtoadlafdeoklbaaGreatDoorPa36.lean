/- A region that draws its order, of which some operations may write: what stays between two operations is told by intervals; each operation met once. -/
import Derived.Test.YtoadlafdeoklbaaGreatDoorPa6

namespace Go.Proofs.YtoadlafdeoklbaaGreatDoor
open Go.RowKit

/-- An interval: ahead, behind: the operations that need not keep A i; whatever stands in fr comes behind those ahead, whatever stands in to comes ahead of those behind. -/
structure Iv where
 i:Nat
 ahead:List Nat
 behind:List Nat
 fr:List Nat
 to:List Nat
def ivB (ops:Array Oper)(Ws:List Iv):Bool:=Ws.all fun x=>x.ahead.all (fun a=>let d:=descB ops a;x.fr.all fun f=>a==f || d.contains f) && x.to.all (fun t=>let d:=descB ops t;x.behind.all fun b=>b==t || d.contains b)
section
variable (Ws:List Iv) (C:World→World→Prop) (A:Nat→World→World→Prop)
/-- What an operation does. -/
structure StpV (k:Nat)(w w' :World):Prop where
 c:C w w'
 a:∀x∈Ws,k∉x.ahead→k∉x.behind→A x.i w w'
/-- What may have come ahead of an operation. -/
structure PreV (k:Nat)(w w' :World):Prop where
 c:C w w'
 a:∀x∈Ws,x.ahead= []→k∈x.to→A x.i w w'
/-- What may have come when an operation is through. -/
structure AftV (j:Nat)(w w' :World):Prop where
 c:C w w'
 a:∀x∈Ws,x.ahead= []→j∈x.to→j∉x.behind→A x.i w w'
/-- What may have come between two operations. -/
structure BtwV (j k:Nat)(w w' :World):Prop where
 c:C w w'
 a:∀x∈Ws,j∈x.fr→k∈x.to→A x.i w w'
/-- What may come behind an operation. -/
structure PostV (j:Nat)(w w' :World):Prop where
 c:C w w'
 a:∀x∈Ws,j∈x.fr→x.behind= []→A x.i w w'
end
section
variable (P:Program) (Ws:List Iv) (C:World→World→Prop) (A:Nat→World→World→Prop) (w0:World) (ops:Array Oper) (vals:Tmp→Value)
def knowsV (k:Nat)(rs:List Tmp)(W:World):List Ent→Prop
 | []=>True
 | ⟨_,some _,_,_⟩::l=>knowsV k rs W l
 | ⟨none,none,_,_⟩::l=>knowsV k rs W l
 | ⟨some t,none,rd,φ⟩::l=>(t∈rs→∃W0,AftV Ws C A l.length w0 W0∧BtwV Ws C A l.length k W0 W∧φ (rd.map vals) (vals t) W0)∧knowsV k rs W l

def knowsAllV (W:World):List Ent→Prop
 | []=>True
 | ⟨_,some _,_,_⟩::l=>knowsAllV W l
 | ⟨none,none,rd,φ⟩::l=>(∃u W0,AftV Ws C A l.length w0 W0∧PostV Ws C A l.length W0 W∧φ (rd.map vals) u W0)∧knowsAllV W l
 | ⟨some t,none,rd,φ⟩::l=>(∃W0,AftV Ws C A l.length w0 W0∧PostV Ws C A l.length W0 W∧φ (rd.map vals) (vals t) W0)∧knowsAllV W l

def wpLooseV (a0:Act)(Q:List Ent→Prop):List Oper→List Ent→Prop
 | [],env=>Q env
 | o::rest,env=>∃c rd φ,(∀t∈rd,waitsB ops o t=true)∧(∀W vals,PreV Ws C A env.length w0 W→knowsV Ws C A w0 vals env.length (o.looksAt ops++rd) W env→opOk P (StpV Ws C A env.length) ops (fill vals env a0) o (entOf c (φ (rd.map vals))) W)∧wpLooseV a0 Q rest (addEnt o.dst c rd φ env)
end

section
variable {P:Program} {Ws:List Iv} {C:World→World→Prop} {A:Nat→World→World→Prop} {w0:World} {ops:Array Oper} {vals:Tmp→Value}
/-- The lexical walk's findings, told by number. -/
theorem wpLooseV_table {a0:Act}{Q:List Ent→Prop}:∀(l:List Oper) (env:List Ent),wpLooseV P Ws C A w0 ops a0 Q l env→
  ∃(E:Nat→List Ent) (c:Nat→Option Value) (rd:Nat→List Tmp) (φ:Nat→List Value→Value→World→Prop),E 0=env∧
   (∀k o,l[k]? =some o→E (k+1)=addEnt o.dst (c k) (rd k) (φ k) (E k)∧(∀t∈rd k,waitsB ops o t=true)∧∀W vals,PreV Ws C A (env.length+k) w0 W→knowsV Ws C A w0 vals (env.length+k) (o.looksAt ops++rd k) W (E k)→opOk P (StpV Ws C A (env.length+k)) ops (fill vals (E k) a0) o (entOf (c k) (φ k ((rd k).map vals))) W)∧Q (E l.length)
 | [],env,h=>⟨fun _=>env,fun _=>none,fun _=> [],fun _ _ _ _=>True,rfl,fun k o ho=>by simp at ho,h⟩
 | o::rest,env,h=>by
  obtain⟨c,rd,φ,h0,h1,h2⟩:=h;obtain⟨E,c',rd',φ',e0,hs,hq⟩:=wpLooseV_table rest _ h2;refine⟨fun | 0=>env | k+1=>E k,fun | 0=>c | k+1=>c' k,fun | 0=>rd | k+1=>rd' k,fun | 0=>φ | k+1=>φ' k,rfl, ?_,hq⟩;intro k o' ho'
  cases k with
  | zero=>
   simp only[zgz,Option.some.injEq]at ho';subst ho';exact⟨e0,h0,h1⟩
  | succ k=>
   have h3:=hs k o' (by simpa using ho');have e:(addEnt o.dst c rd φ env).length+k=env.length+(k+1):=by simp[addEnt];omega
   rw[e]at h3;exact h3

theorem knowsV_table {E:Nat→List Ent}{c:Nat→Option Value}{rd:Nat→List Tmp}{φ:Nat→List Value→Value→World→Prop}(e0:E 0= []){W:World}{i:Nat}(hl:∀k,k≤ops.size→(E k).length=k)
  (hs:∀k o,ops[k]? =some o→E (k+1)=addEnt o.dst (c k) (rd k) (φ k) (E k)) (rs:List Tmp):∀k,k≤ops.size→(∀j o t,j < k→ops[j]? =some o→o.dst=some t→t∈rs→c j=none→∃W0,AftV Ws C A j w0 W0∧BtwV Ws C A j i W0 W∧φ j ((rd j).map vals) (vals t) W0)→knowsV Ws C A w0 vals i rs W (E k)
 | 0,_,_=>by rw[e0];trivial
 | k+1,hk,h=>by
  have ih:=knowsV_table e0 hl hs rs k (by omega) (fun j o t hj=>h j o t (by omega));have hok:ops[k]? =some ops[k]:=Array.getElem?_eq_getElem (by omega);rw[hs k _ hok];unfold addEnt
  cases hdk:ops[k].dst with
  | none=>cases hc:c k <;> exact ih
  | some d' =>
   cases hc:c k with
   | some v=>exact ih
   | none=>exact⟨fun hm=>by rw[hl k (by omega)];exact h k _ d' (by omega) hok hdk hm hc,ih⟩
theorem knowsAllV_table {E:Nat→List Ent}{c:Nat→Option Value}{rd:Nat→List Tmp}{φ:Nat→List Value→Value→World→Prop}(e0:E 0= []){W:World}(hl:∀k,k≤ops.size→(E k).length=k)
  (hs:∀k o,ops[k]? =some o→E (k+1)=addEnt o.dst (c k) (rd k) (φ k) (E k)):∀k,k≤ops.size→(∀j o t,j < k→ops[j]? =some o→o.dst=some t→c j=none→∃W0,AftV Ws C A j w0 W0∧PostV Ws C A j W0 W∧φ j ((rd j).map vals) (vals t) W0)→
  (∀j o,j < k→ops[j]? =some o→o.dst=none→c j=none→∃u W0,AftV Ws C A j w0 W0∧PostV Ws C A j W0 W∧φ j ((rd j).map vals) u W0)→knowsAllV Ws C A w0 vals W (E k)
 | 0,_,_,_=>by rw[e0];trivial
 | k+1,hk,h,hn=>by
  have ih:=knowsAllV_table e0 hl hs k (by omega) (fun j o t hj=>h j o t (by omega)) (fun j o hj=>hn j o (by omega));have hok:ops[k]? =some ops[k]:=Array.getElem?_eq_getElem (by omega);rw[hs k _ hok];unfold addEnt
  cases hdk:ops[k].dst with
  | none=>
   cases hc:c k with
   | some v=>exact ih
   | none=>exact⟨by rw[hl k (by omega)];exact hn k _ (by omega) hok hdk hc,ih⟩
  | some d' =>
   cases hc:c k with
   | some v=>exact ih
   | none=>exact⟨by rw[hl k (by omega)];exact h k _ d' (by omega) hok hdk hc,ih⟩

/-- What stands while the region runs. -/
structure LooseInvV (Ws:List Iv)(C:World→World→Prop)(A:Nat→World→World→Prop)(w0:World)(ops:Array Oper)(a0:Act)(c:Nat→Option Value)(rd:Nat→List Tmp)(φ:Nat→List Value→Value→World→Prop)(listed:Array Bool)(a:Act)(W:World):Prop where
 world:C w0 W
 worldA:∀x∈Ws,x.ahead= []→(∀b∈x.behind,listed.getD b false=false)→A x.i w0 W
 defers:a.defers=a0.defers
 size:a.tmps.size=a0.tmps.size
 lsize:listed.size=ops.size
 off:∀t,(∀k o,ops[k]? =some o→o.dst=some t→listed.getD k false=false)→a.tmps[t]? =a0.tmps[t]?
 on:∀k o d,ops[k]? =some o→o.dst=some d→listed.getD k false=true→∃v,a.tmps[d]? =some v∧∃W0,AftV Ws C A k w0 W0∧C W0 W∧(∀x∈Ws,k∈x.fr→(∀b∈x.behind,listed.getD b false=false)→A x.i W0 W)∧entOf (c k) (φ k ((rd k).map fun t=>a.tmps.getD t undef)) v W0
 onn:∀k o,ops[k]? =some o→o.dst=none→listed.getD k false=true→∃u W0,AftV Ws C A k w0 W0∧C W0 W∧(∀x∈Ws,k∈x.fr→(∀b∈x.behind,listed.getD b false=false)→A x.i W0 W)∧entOf (c k) (φ k ((rd k).map fun t=>a.tmps.getD t undef)) u W0
 dep:∀k o,ops[k]? =some o→listed.getD k false=true→∀e∈o.after,Region.binds .any e=true→listed.getD e.on false=true

theorem ivB_fr (h:ivB ops Ws=true){x:Iv}(hx:x∈Ws){a f:Nat}(ha:a∈x.ahead)(hf:f∈x.fr):a=f∨f∈descB ops a:=by
 have:=List.all_eq_true.1 h x hx;simp only[Bool.and_eq_true]at this;have:=List.all_eq_true.1 (List.all_eq_true.1 this.1 a ha) f hf
 simpa using this
theorem ivB_to (h:ivB ops Ws=true){x:Iv}(hx:x∈Ws){b t:Nat}(hb:b∈x.behind)(ht:t∈x.to):b=t∨b∈descB ops t:=by
 have:=List.all_eq_true.1 h x hx;simp only[Bool.and_eq_true]at this;have:=List.all_eq_true.1 (List.all_eq_true.1 this.2 t ht) b hb
 simpa using this
/-- Ahead of an operation that is not yet listed none behind it is. -/
theorem ivB_open {listed:Array Bool}(hdep:∀k o,ops[k]? =some o→listed.getD k false=true→∀e∈o.after,Region.binds .any e=true→listed.getD e.on false=true)(h:ivB ops Ws=true){x:Iv}(hx:x∈Ws){t:Nat}(ht:t∈x.to)(hl:listed.getD t false=false):
  ∀b∈x.behind,listed.getD b false=false:=fun b hb=>by
 rcases ivB_to h hx hb ht with rfl | hd
 ·exact hl
 ·cases hb' :listed.getD b false with
  | false=>rfl
  | true=>
   have:=descB_spec hdep t b hd hb';rw[hl]at this
   cases this

theorem looseInvV_next {n:Nat}{a0:Act}{c:Nat→Option Value}{rd:Nat→List Tmp}{φ:Nat→List Value→Value→World→Prop}{listed:Array Bool}{a:Act}{W W' :World}(hF:FitK C A)(hwr:ivB ops Ws=true)
  (hB:looseB n ops=true) (hrd:∀k o,ops[k]? =some o→∀t∈rd k,waitsB ops o t=true) (hn:a0.tmps.size=n) (hI:LooseInvV Ws C A w0 ops a0 c rd φ listed a W) {i:Nat} {o:Oper} (ho:ops[i]? =some o) (hl:listed.getD i true=false) (hall:∀e∈o.after,Region.binds .any e=true→listed.getD e.on false=true) (v:Value) (hRS:StpV Ws C A i W W') (hv:entOf (c i) (φ i ((rd i).map fun t=>a.tmps.getD t undef)) v W'):
  LooseInvV Ws C A w0 ops a0 c rd φ (listed.setIfInBounds i true) (a.put o.dst v) W' :=by
 obtain⟨_,b1,b2,b3,b4⟩:=looseB_spec hB;have hil:listed.getD i false=false:=by
  have hi:=(unlisted_set hl).2
  simpa [hi]using hl
 have hisz:i < listed.size:=(unlisted_set hl).2;have hset:(listed.setIfInBounds i true).getD i false=true:=by simp[hisz]
 have hless:∀m,(listed.setIfInBounds i true).getD m false=false→m≠i∧listed.getD m false=false:=by
  intro m hm
  by_cases hmi:i=m
  ·subst hmi;rw[hset]at hm;cases hm
  ·rw[getD_set_ne _ hmi]at hm;exact⟨fun e=>hmi e.symm,hm⟩
 -- what an operation that is listed reads stays
 have keep:∀k o',ops[k]? =some o' →(k=i∨listed.getD k false=true)→((rd k).map fun t=>(a.put o.dst v).tmps.getD t undef)=(rd k).map fun t=>a.tmps.getD t undef:=by
  intro k o' ho' hk;refine List.map_congr_left fun t ht=> ?_
  replace ht:=hrd k o' ho' t ht
  cases hd:o.dst with
  | none=>rfl
  | some d=>
   have hne:d≠t:=by
    rintro rfl;obtain⟨e,he,hb,hon⟩:=waitsB_spec ht ho hd
    rcases hk with rfl | hk
    ·rw[ho]at ho'
     injection ho' with ho'
     subst ho';have:=hall e he hb;rw[hon,hil]at this
     cases this
    ·have:=hI.dep k o' ho' hk e he hb
     rw[hon,hil]at this
     cases this
   have:=put_get_ne (a:=a) (v:=v) hne;simp only[Array.getD_eq_getD_getElem?,this]
 have stepA:∀(k:Nat) (W0:World),listed.getD k false=true→(∀x∈Ws,k∈x.fr→(∀b∈x.behind,listed.getD b false=false)→A x.i W0 W)→∀x∈Ws,k∈x.fr→(∀b∈x.behind,(listed.setIfInBounds i true).getD b false=false)→A x.i W0 W' :=by
  intro k W0 hk h x hx hf hc;refine hF.at_ _ _ _ _ (h x hx hf fun b hb=>(hless _ (hc b hb)).2) (hRS.a x hx (fun ha=> ?_) (fun hb=> ?_))
  ·rcases ivB_fr hwr hx ha hf with rfl | hd
   ·rw[hil]at hk;cases hk
   ·have:=descB_spec hI.dep i k hd hk
    rw[hil]at this
    cases this
  ·have:=hc i hb
   rw[hset]at this
   cases this
 have aftI:AftV Ws C A i w0 W' :=⟨hF.ct _ _ _ hI.world hRS.c,fun x hx h0 ht hb=>hF.at_ _ _ _ _ (hI.worldA x hx h0 (ivB_open hI.dep hwr hx ht hil)) (hRS.a x hx (by rw[h0];simp) hb)⟩;refine⟨hF.ct _ _ _ hI.world hRS.c,fun x hx h0 hu=> ?_,by rw[put_defs,hI.defers],by rw[put_size,hI.size],by simp[hI.lsize], ?_, ?_, ?_, ?_⟩
 ·refine hF.at_ _ _ _ _ (hI.worldA x hx h0 fun b hb=>(hless _ (hu b hb)).2) (hRS.a x hx (by rw[h0];simp) fun hb=> ?_)
  have:=hu i hb;rw[hset]at this
  cases this
 ·intro t h
  have hne:o.dst≠some t:=fun hd=>by
   have:=h i o ho hd;have hi:=(unlisted_set hl).2;simp[hi]at this
  have e:(a.put o.dst v).tmps[t]? =a.tmps[t]? :=by
   cases hd:o.dst with
   | none=>rfl
   | some d=>exact put_get_ne (fun e=>hne (by rw[hd,e]))
  rw[e];refine hI.off t (fun k o' ho' hd' => ?_);have:=h k o' ho' hd';have hki:i≠k:=fun e=>by subst e;rw[ho]at ho';injection ho' with ho';subst ho';exact hne hd'
  rwa [getD_set_ne _ hki]at this
 ·intro k o' d ho' hd' hk
  by_cases hki:i=k
  ·subst hki
   rw[ho]at ho';injection ho' with ho'
   subst ho';rw[keep i o ho (.inl rfl)];rw[hd'];exact⟨v,put_get_eq (by rw[hI.size,hn];exact b1 i o d ho hd'),W',aftI,hF.cr _,fun _ _ _ _=>hF.ar _ _,hv⟩
  ·rw[getD_set_ne _ hki]at hk
   have hk0:=hk;obtain⟨u,hu,W0,h1,h2,h4,h3⟩:=hI.on k o' d ho' hd' hk;rw[keep k o' ho' (.inr hk)];refine⟨u, ?_,W0,h1,hF.ct _ _ _ h2 hRS.c,stepA k W0 hk0 h4,h3⟩
   cases hd:o.dst with
   | none=>exact hu
   | some d2=>
    rw[put_get_ne (fun e=>hki (b2 i k o o' d ho ho' (by rw[hd,e]) hd'))];exact hu
 ·intro k o' ho' hd' hk
  by_cases hki:i=k
  ·subst hki
   rw[ho]at ho';injection ho' with ho'
   subst ho';rw[keep i o ho (.inl rfl)];exact⟨v,W',aftI,hF.cr _,fun _ _ _ _=>hF.ar _ _,hv⟩
  ·rw[getD_set_ne _ hki]at hk
   obtain⟨u,W0,h1,h2,h4,h3⟩:=hI.onn k o' ho' hd' hk;rw[keep k o' ho' (.inr hk)];exact⟨u,W0,h1,hF.ct _ _ _ h2 hRS.c,stepA k W0 hk h4,h3⟩
 ·intro k o' ho' hk e he hb
  have hmono:∀m,listed.getD m false=true→(listed.setIfInBounds i true).getD m false=true:=by
   intro m hm
   by_cases hmi:i=m
   ·subst hmi
    rw[hil]at hm
    cases hm
   ·rw[getD_set_ne _ hmi];exact hm
  by_cases hki:i=k
  ·subst hki
   rw[ho]at ho';injection ho' with ho'
   subst ho';exact hmono _ (hall e he hb)
  ·rw[getD_set_ne _ hki]at hk
   exact hmono _ (hI.dep k o' ho' hk e he hb)

theorem loose_tail_soundV {n n0:Nat}{lt:List Oper}{a0:Act}{c:Nat→Option Value}{rd:Nat→List Tmp}{φ:Nat→List Value→Value→World→Prop}{E:Nat→List Ent}{Q:Exit→Act→World→Prop}(hF:FitK C A)(hwr:ivB ops Ws=true)
  (hB:looseB n ops=true) (hsc:n0 < ops.size→Region.sinkB .any ops n0=true∧Region.chainB .any ops n0=true) (hn0:n0≤ops.size) (hlt:∀j,lt[j]? =ops[n0+j]?)
  (hsq:Region.seqB .any ops lt.length n0 ((Array.range ops.size).map fun k=>decide (k < n0))=true) (hul:unlisted ((Array.range ops.size).map fun k=>decide (k < n0))=lt.length) (hn:a0.tmps.size=n) (e0:E 0= [])
  (hlen:∀k,k≤ops.size→(E k).length=k)
  (hs:∀k o,ops[k]? =some o→E (k+1)=addEnt o.dst (c k) (rd k) (φ k) (E k)∧(∀t∈rd k,waitsB ops o t=true)∧(k < n0→∀W vals,PreV Ws C A k w0 W→knowsV Ws C A w0 vals k (o.looksAt ops++rd k) W (E k)→opOk P (StpV Ws C A k) ops (fill vals (E k) a0) o (entOf (c k) (φ k ((rd k).map vals))) W))
  (hq:∀W vals,C w0 W→knowsAllV Ws C A w0 vals W (E n0)→wpList P ops Q lt (fill vals (E n0) a0) W):
  ∀(fuel:Nat) (listed:Array Bool) (a:Act) (W:World),unlisted listed=fuel→(∀t,n0≤t→t < ops.size→listed.getD t true=false)→LooseInvV Ws C A w0 ops a0 c rd φ listed a W→wpAny P .any ops Q fuel listed a W:=by
 obtain⟨b0,b1,b2,b3,b4⟩:=looseB_spec hB;have hs1:=fun k o ho=>(hs k o ho).1
 have hrd:=fun k o ho=>(hs k o ho).2.1
 have fin:∀(listed:Array Bool) (a:Act) (W:World),LooseInvV Ws C A w0 ops a0 c rd φ listed a W→(∀t,n0≤t→t < ops.size→listed.getD t true=false)→(∀k,k < n0→listed.getD k false=true)→wpAny P .any ops Q (unlisted listed) listed a W:=by
  intro listed a W hI htl hall;have hle:listed=(Array.range ops.size).map fun k=>decide (k < n0):=by
   refine Array.ext (by simp[hI.lsize]) fun k h1 h2=> ?_
   have hk:k < ops.size:=by rw[←hI.lsize];exact h1
   simp only[Array.getElem_map,Array.getElem_range]
   by_cases hkn:k < n0
   ·have:=hall k hkn
    simp[h1]at this;rw[this];simp[hkn]
   ·have:=htl k (by omega) hk
    simp[h1]at this;rw[this];simp[hkn]
  have hq:=hq W (fun t=>a.tmps.getD t undef) hI.world (knowsAllV_table e0 hlen hs1 n0 (by omega) (fun j o t hj ho hd hc=>by
   obtain⟨v,hv,W0,h1,h2,h4,h3⟩:=hI.on j o t ho hd (hall j hj);refine⟨W0,h1,⟨h2,fun x hx hf hb=>h4 x hx hf (by rw[hb];simp)⟩, ?_⟩;have:a.tmps.getD t undef=v:=by simp[hv]
   show φ j _ (a.tmps.getD t undef) W0;rw[this]
   simpa [entOf,hc]using h3) (fun j o hj ho hd hc=>by
   obtain⟨u,W0,h1,h2,h4,h3⟩:=hI.onn j o ho hd (hall j hj);exact⟨u,W0,h1,⟨h2,fun x hx hf hb=>h4 x hx hf (by rw[hb];simp)⟩,by simpa [entOf,hc]using h3⟩))
  have hea:fill (fun t=>a.tmps.getD t undef) (E n0) a0=a:=by
   obtain⟨s1,s2⟩:=fill_size (vals:=fun t=>a.tmps.getD t undef) (E n0) a0;have ht:(fill (fun t=>a.tmps.getD t undef) (E n0) a0).tmps=a.tmps:=by
    refine Array.ext_getElem? fun t=> ?_
    by_cases hd:∃(k:Nat) (o:Oper),k < n0∧ops[k]? =some o∧o.dst=some t
    ·obtain⟨k,o,hk,ho,hd⟩:=hd
     rw[fill_near a0 hs1 b2 t (by rw[hn];exact b1 k o t ho hd) k o ho hd n0 (by omega) hk];obtain⟨v,hv,W0,_,_,_,h3⟩:=hI.on k o t ho hd (hall k hk);rw[hv]
     cases hc:c k with
     | none=>simp[hv]
     | some u=>simp[entOf,hc]at h3;simp[h3]
    ·rw[fill_far a0 e0 hs1 t n0 (by omega) (fun j o hj ho hdd=>hd ⟨j,o,hj,ho,hdd⟩)]
     refine(hI.off t (fun k o ho hdd=> ?_)).symm;have hk:n0≤k:=by
      rcases Nat.lt_or_ge k n0 with h | h
      ·exact absurd ⟨k,o,h,ho,hdd⟩ hd
      ·exact h
     exact getD_both (htl k hk (Array.getElem?_eq_some_iff.1 ho).1)
   have hd' :(fill (fun t=>a.tmps.getD t undef) (E n0) a0).defers=a.defers:=by rw[s2,hI.defers]
   generalize fill (fun t=>a.tmps.getD t undef) (E n0) a0=b at*
   obtain⟨bt,bd⟩:=b;obtain⟨at_,ad⟩:=a;simp only at ht hd';rw[ht,hd']
  rw[hea]at hq;rw[hle,hul];exact wpAny_of_seq lt n0 _ a W hlt hsq hq
 intro fuel
 induction fuel with
 | zero=>
  intro listed a W hu htl hI;rw[←hu];refine fin listed a W hI htl fun k hk=> ?_
  cases hl:listed.getD k false with
  | true=>rfl
  | false=>
   have hl' :listed.getD k true=false:=by
    have:k < listed.size:=by rw[hI.lsize];omega
    simpa [this]using hl
   have:=(unlisted_set hl').1;omega
 | succ fuel ih=>
  intro listed a W hu htl hI
  by_cases hpre:∀k,k < n0→listed.getD k false=true
  ·rw[←hu]
   exact fin listed a W hI htl hpre
  have hex:∃k,k < n0∧listed.getD k false=false:=by
   simp only[Classical.not_forall]at hpre;obtain⟨k,hk,h⟩:=hpre;exact⟨k,hk,by simpa using h⟩
  have inv:HeadInv .any ops n0 listed:=⟨hI.lsize,hI.dep,htl⟩;refine⟨fun hr=> ?_,fun i hi=> ?_⟩
  ·exfalso
   have hall:∀m k,k < m→k < n0→listed.getD k false=true:=by
    intro m
    induction m with
    | zero=>intro k h;omega
    | succ m ih=>
     intro k hk hks
     cases hl:listed.getD k false with
     | true=>rfl
     | false=>
      exfalso
      have ho:ops[k]? =some (ops[k]'(by omega)):=Array.getElem?_eq_getElem (by omega);have hl' :listed.getD k true=false:=by
       have:k < listed.size:=by rw[hI.lsize];omega
       simpa [this]using hl
      have:k∈Region.ready .any ops listed:=mem_ready.2 ⟨hl',_,ho,fun e he hb=>by
       have hlt:=b3 k _ ho e he hb;exact ih e.on (by omega) (by omega)⟩
      rw[hr]at this
      cases this
   obtain⟨k,hk,h⟩:=hex;rw[hall (k+1) k (by omega) hk]at h
   cases h
  obtain⟨hl,o,ho,hall⟩:=mem_ready.1 hi;have hin:i < n0:=by
   rcases Nat.lt_or_ge i n0 with h | h
   ·exact h
   ·exfalso
    obtain⟨k,hk,hkl⟩:=hex;have hlt:=Nat.lt_of_le_of_lt h (Array.getElem?_eq_some_iff.1 ho).1;exact tail_waits (hsc hlt).1 (hsc hlt).2 hlt inv (n0 - k) k rfl hk (getD_in (by rw[hI.lsize];omega) hkl) i h hi
  have hus:=(unlisted_set hl).1;have hi' :i < ops.size:=(Array.getElem?_eq_some_iff.1 ho).1;have hil:listed.getD i false=false:=by
   have hi:=(unlisted_set hl).2
   simpa [hi]using hl
  have hop:=(hs i o ho).2.2 hin W (fun t=>a.tmps.getD t undef) ⟨hI.world,fun x hx h0 ht=>hI.worldA x hx h0 (ivB_open hI.dep hwr hx ht hil)⟩ (knowsV_table e0 hlen hs1 (o.looksAt ops++rd i) i (by omega) (fun j o' t hj ho' hd ht hc=>by
   obtain⟨e,he,hb,hon⟩:∃e∈o.after,Region.binds .any e=true∧e.on=j:=by
    rcases List.mem_append.1 ht with ht | ht
    ·obtain⟨_,e,he,hb,hon⟩:=(b4 i o t j o' ho ht ho' hd).resolve_right (fun h=>absurd h.1 (by omega))
     exact⟨e,he,hb,hon⟩
    ·exact waitsB_spec (hrd i o ho t ht) ho' hd
   obtain⟨v,hv,W0,h1,h2,h4,h3⟩:=hI.on j o' t ho' hd (hon▸hall e he hb);refine⟨W0,h1,⟨h2,fun x hx hf ht=>h4 x hx hf (ivB_open hI.dep hwr hx ht hil)⟩, ?_⟩;have:a.tmps.getD t undef=v:=by simp[hv]
   show φ j _ (a.tmps.getD t undef) W0;rw[this]
   simpa [entOf,hc]using h3))
  have hop:=opOk_congr (a' :=a) (Region.noSelect_spec b0 i o · · ho) (fun t ht=>by
   by_cases hd:∃(k:Nat) (o' :Oper),ops[k]? =some o' ∧o'.dst=some t
   ·obtain⟨k,o',ho',hd⟩:=hd
    rcases b4 i o t k o' ho ht ho' hd with⟨hk,e,he,hb,hon⟩ | ⟨hk,e,he,hb,hon⟩
    case inr=>
     rw[fill_far a0 e0 hs1 t i (by omega) (fun j o2 hj ho2 hdd=>by have:=b2 j k o2 o' t ho2 ho' hdd hd;omega)];refine(hI.off t (fun k2 o2 ho2 hdd=> ?_)).symm;obtain rfl:=b2 k2 k o2 o' t ho2 ho' hdd hd
     cases hlk:listed.getD k2 false with
     | false=>rfl
     | true=>
      have:=hI.dep k2 o' ho' hlk e he hb;rw[hon]at this;have hil:listed.getD i false=false:=by
       have hi:=(unlisted_set hl).2
       simpa [hi]using hl
      rw[hil]at this
      cases this
    rw[fill_near a0 hs1 b2 t (by rw[hn];exact b1 k o' t ho' hd) k o' ho' hd i (by omega) hk];obtain⟨v,hv,W0,_,_,_,h3⟩:=hI.on k o' t ho' hd (hon▸hall e he hb);rw[hv]
    cases hc:c k with
    | none=>simp[hv]
    | some u=>simp[entOf,hc]at h3;simp[h3]
   ·rw[fill_far a0 e0 hs1 t i (by omega) (fun j o' _ ho' hdd=>hd ⟨j,o',ho',hdd⟩)]
    exact(hI.off t (fun k o' ho' hdd=>absurd ⟨k,o',ho',hdd⟩ hd)).symm) hop
  have next:∀v W',StpV Ws C A i W W' →entOf (c i) (φ i ((rd i).map fun t=>a.tmps.getD t undef)) v W' →wpAny P .any ops Q fuel (listed.setIfInBounds i true) (a.put o.dst v) W' :=fun v W' hR hv=>
   ih _ _ _ (by omega) (fun t ht ht' =>by rw[getD_set_ne true (by omega)];exact htl t ht ht') (looseInvV_next hF hwr hB hrd hn hI ho hl hall v hR hv)
  have tr:∀x y z,StpV Ws C A i x y→StpV Ws C A i y z→StpV Ws C A i x z:=fun x y z h k=>⟨hF.ct _ _ _ h.c k.c,fun u hu h1 h2=>hF.at_ _ _ _ _ (h.a u hu h1 h2) (k.a u hu h1 h2)⟩
  unfold wpOp;simp only[ho];replace hop:=hop.out
  split
  ·rename_i hw
   simp only[hw,if_true]at hop
   left
   unfold Oper.wp
   generalize (execOp a.eval o).run P W=r at*
   cases r with
   | ok x w' =>
    cases x <;> simp only[looseUpon]at hop <;> simp only[Oper.upon]
    ·exact next _ _ hop.1 hop.2
    ·exact next _ _ hop.1 hop.2
    ·exact hop.2.mono fun e w'' ⟨v,he,hR,hv⟩=>by subst he;exact next _ _ (tr _ _ _ hop.1 hR) hv
    ·exact hop.2.mono fun v w'' ⟨hR,hv⟩=>next _ _ (tr _ _ _ hop.1 hR) hv
   | halt x w' =>simp only[looseUpon]at hop
  ·rename_i hw
   simp only[hw]at hop;exact next _ _ ⟨hF.cr _,fun _ _ _ _=>hF.ar _ _⟩ hop

/-- A table for the operations ahead, carried on behind them. -/
theorem wpLooseV_table_more {a0:Act}{Q:List Ent→Prop}(n0:Nat)(l:List Oper)(hn0:n0≤l.length)(h:wpLooseV P Ws C A w0 ops a0 Q (l.take n0) []):
  ∃(E:Nat→List Ent) (c:Nat→Option Value) (rd:Nat→List Tmp) (φ:Nat→List Value→Value→World→Prop),E 0= []∧(∀k,k≤l.length→(E k).length=k)∧
   (∀k o,l[k]? =some o→E (k+1)=addEnt o.dst (c k) (rd k) (φ k) (E k)∧(∀t∈rd k,waitsB ops o t=true)∧(k < n0→∀W vals,PreV Ws C A k w0 W→knowsV Ws C A w0 vals k (o.looksAt ops++rd k) W (E k)→opOk P (StpV Ws C A k) ops (fill vals (E k) a0) o (entOf (c k) (φ k ((rd k).map vals))) W))∧Q (E n0):=by
 obtain⟨E,c,rd,φ,e0,hs,hq⟩:=wpLooseV_table _ _ h;have hlen:(l.take n0).length=n0:=by rw[List.length_take];omega
 rw[hlen]at hq
 let more:Nat→List Ent:=fun k=>Nat.rec (motive:=fun _=>List Ent) (E n0) (fun j e=>addEnt ((l[n0+j]?).bind (·.dst)) none [] (fun _ _ _=>True) e) k
 refine⟨fun k=>if k≤n0 then E k else more (k - n0),fun k=>if k < n0 then c k else none,fun k=>if k < n0 then rd k else [],fun k=>if k < n0 then φ k else fun _ _ _=>True,by simp[e0], ?len, ?_,by simp[hq]⟩
 case len=>
  have h1:∀k,k≤n0→(E k).length=k:=by
   intro k
   induction k with
   | zero=>intro _;rw[e0];rfl
   | succ k ih=>
    intro hk;have ho:(l.take n0)[k]? =some ((l.take n0)[k]'(by omega)):=List.getElem?_eq_getElem (by omega);rw[(hs k _ ho).1];simp[addEnt,ih (by omega)]
  have h2:∀k,(more k).length=n0+k:=by
   intro k
   induction k with
   | zero=>exact h1 n0 (Nat.le_refl _)
   | succ k ih=>
    show(addEnt _ _ _ _ (more k)).length=_;simp[addEnt,ih];omega
  intro k hk
  by_cases hkn:k≤n0
  ·simp only[hkn,if_true];exact h1 k hkn
  ·simp only[hkn,if_false];rw[h2];omega
 intro k o ho
 by_cases hk:k < n0
 ·have ho' :(l.take n0)[k]? =some o:=by rw[List.getElem?_take_of_lt hk];exact ho
  obtain⟨h1,h2,h3⟩:=hs k o ho';simp only[List.length_nil,Nat.zero_add]at h3;simp only[hk,if_true,show k+1≤n0 from hk,show k≤n0 from Nat.le_of_lt hk];exact⟨h1,h2,fun _=>h3⟩
 ·simp only[hk,if_false,show¬k+1≤n0 by omega]
  refine⟨?_,(fun _ h=>nomatch h),fun h=>h.elim⟩;have hm:more (k+1 - n0)=addEnt o.dst none [] (fun _ _ _=>True) (more (k - n0)):=by
   rw[show k+1 - n0=(k - n0)+1 by omega];show addEnt ((l[n0+(k - n0)]?).bind (·.dst)) none [] (fun _ _ _=>True) (more (k - n0))=_;rw[show n0+(k - n0)=k by omega,ho];rfl
  rw[hm]
  by_cases hk2:k≤n0
  ·have:k=n0:=by omega
   subst this;simp only[Nat.le_refl,if_true,Nat.sub_self];rfl
  ·simp only[hk2,if_false]

theorem wp_region_ivs0 {id:Nat}{Q:Exit→Act→World→Prop}{a:Act}{w:World}{l:List Oper}(Ws:List Iv)(C:World→World→Prop)(A:Nat→World→World→Prop)(n n0:Nat)(hF:FitK C A)(hm:P.follows .mixedOrders=true)(hn:a.tmps.size=n)
  (hB:(looseB n l.toArray && ivB l.toArray Ws && (decide (n0=l.length) || Region.sinkB .any l.toArray n0 && Region.chainB .any l.toArray n0) && decide (n0≤l.length) && Region.seqB .any l.toArray (l.drop n0).length n0 ((Array.range l.toArray.size).map fun k=>decide (k < n0)) && decide (unlisted ((Array.range l.toArray.size).map fun k=>decide (k < n0))=(l.drop n0).length))=true)
  (h0c:C w w.drew) (h0a:∀i,A i w w.drew)
  (h:wpLooseV P Ws C A w l.toArray a (fun env=>∀W vals,C w W→knowsAllV Ws C A w vals W env→wpList P l.toArray Q (l.drop n0) (fill vals env a) W) (l.take n0) []):(Code.region id l.toArray true).wp P Q a w:=by
 simp only[Bool.and_eq_true,Bool.or_eq_true,decide_eq_true_eq]at hB;obtain⟨⟨⟨⟨⟨h1,hwr⟩,h2⟩,h4⟩,h5⟩,h6⟩:=hB;obtain⟨E,c,rd,φ,e0,hlen,hs,hq⟩:=wpLooseV_table_more n0 l (by omega) h;refine wp_region_any hm (loose_tail_soundV (w0:=w) (n0:=n0) (lt:=l.drop n0) hF hwr h1 (fun hlt=>h2.resolve_left (fun e=>by rw[List.size_toArray]at hlt;omega)) (by simpa using h4) (fun j=>by simp) h5 h6 hn e0 (fun k hk=>hlen k (by simpa using hk)) (fun k o ho=>hs k o (by simpa using ho)) hq _ _ _ _ ?_ (fun t ht ht' => ?_) ⟨h0c,fun x _ _ _=>h0a _,rfl,rfl,by simp,fun _ _=>rfl,fun k o d ho _ hk=> ?_,fun k o ho _ hk=> ?_,fun k o ho hk=> ?_⟩)
 ·unfold unlisted
  simp
 ·simp only[List.size_toArray]at ht'
  simp[ht']
 all_goals
  exfalso
  by_cases h' :k < l.length <;> simp[h']at hk
end
section
variable {P:Program} {Ws:List Iv} {C:World→World→Prop} {A:Nat→World→World→Prop} {w0:World} {ops:Array Oper} {a0:Act} {Q:List Ent→Prop} {o:Oper} {rest:List Oper} {env:List Ent}
theorem loosev_nil (h:Q env):wpLooseV P Ws C A w0 ops a0 Q [] env:=h
theorem loosev_is (k:Nat)(v:Value)(he:env.length=k)(h:∀W vals,PreV Ws C A k w0 W→knowsV Ws C A w0 vals k (o.looksAt ops) W env→opOk P (StpV Ws C A k) ops (fill vals env a0) o (fun u _=>u=v) W)
  (hk:wpLooseV P Ws C A w0 ops a0 Q rest (addEnt o.dst (some v) [] (fun _ _ _=>True) env)):wpLooseV P Ws C A w0 ops a0 Q (o::rest) env:=by
 subst he;exact⟨some v, [],_,(fun _ h=>nomatch h),fun W vals hW hkn=>h W vals hW (by rwa [List.append_nil]at hkn),hk⟩
theorem loosev_has (k:Nat)(φ:Value→World→Prop)(he:env.length=k)(h:∀W vals,PreV Ws C A k w0 W→knowsV Ws C A w0 vals k (o.looksAt ops) W env→∀φ' :Value→World→Prop,Hid (∀u w,φ u w→φ' u w)→opOk P (StpV Ws C A k) ops (fill vals env a0) o φ' W)
  (hk:wpLooseV P Ws C A w0 ops a0 Q rest (addEnt o.dst none [] (fun _=>φ) env)):wpLooseV P Ws C A w0 ops a0 Q (o::rest) env:=by
 subst he;exact⟨none, [],fun _=>φ,(fun _ h=>nomatch h),fun W vals hW hkn=>h W vals hW (by rwa [List.append_nil]at hkn) φ (zh fun _ _ h=>h),hk⟩
theorem loosev_off (k:Nat)(_he:env.length=k)(_hF:FitK C A)(hw:∀vals:Tmp→Value,Region.wanted o (yielded ops (fill vals env a0).tmps)=false)(hk:wpLooseV P Ws C A w0 ops a0 Q rest (addEnt o.dst (some undef) [] (fun _ _ _=>True) env)):wpLooseV P Ws C A w0 ops a0 Q (o::rest) env:=
 ⟨some undef, [],fun _ _ _=>True,(fun _ h=>nomatch h),fun W vals _ _=>⟨by rw[hw vals];exact rfl⟩,hk⟩
/-- What allocations do to all of it. -/
structure LightV (Ws:List Iv)(C:World→World→Prop)(A:Nat→World→World→Prop):Prop where
 fit:FitK C A
 c:∀{w w'},Keeps w w' []→C w w'
 a:∀{i w w'},Keeps w w' []→A i w w'
theorem LightV.stp (h:LightV Ws C A){k:Nat}{w w' :World}(hk:Keeps w w' []):StpV Ws C A k w w' :=⟨h.c hk,fun _ _ _ _=>h.a hk⟩
theorem wp_region_ivs {id:Nat}{Q:Exit→Act→World→Prop}{a:Act}{w:World}{l:List Oper}(Ws:List Iv)(C:World→World→Prop)(A:Nat→World→World→Prop)(n n0:Nat)(hF:LightV Ws C A)(hm:P.follows .mixedOrders=true)(hn:a.tmps.size=n)
  (hB:(looseB n l.toArray && ivB l.toArray Ws && (decide (n0=l.length) || Region.sinkB .any l.toArray n0 && Region.chainB .any l.toArray n0) && decide (n0≤l.length) && Region.seqB .any l.toArray (l.drop n0).length n0 ((Array.range l.toArray.size).map fun k=>decide (k < n0)) && decide (unlisted ((Array.range l.toArray.size).map fun k=>decide (k < n0))=(l.drop n0).length))=true)
  (h:wpLooseV P Ws C A w l.toArray a (fun env=>∀W vals,C w W→knowsAllV Ws C A w vals W env→wpList P l.toArray Q (l.drop n0) (fill vals env a) W) (l.take n0) []):(Code.region id l.toArray true).wp P Q a w:=
 wp_region_ivs0 Ws C A n n0 hF.fit hm hn hB (hF.c (Keeps.drew _)) (fun _=>hF.a (Keeps.drew _)) h
end
section
variable {C R:World→World→Prop} {Ws:List Iv} {i k m:Nat} {w w' :World}
/-- One relation for all intervals. -/
theorem LightV.all (hC:RelOk C)(hR:RelOk R):LightV Ws C (fun _=>R):=⟨⟨fun _=>hC.keeps (Keeps.refl _ _),fun _ _ _ h k=>hC.trans h k,fun _ _=>hR.keeps (Keeps.refl _ _),fun _ _ _ _ h k=>hR.trans h k⟩,fun h=>hC.keeps h,fun h=>hR.keeps h⟩
/-- An operation that each interval leaves out. -/
theorem StpV.off {A:Nat→World→World→Prop}(hc:C w w')(h:(Ws.all fun x=>x.ahead.contains k || x.behind.contains k)=true:=by decide):StpV Ws C A k w w' :=⟨hc,fun x hx h1 h2=>by
 have:=List.all_eq_true.1 h x hx;simp only[Bool.or_eq_true,List.contains_iff_mem]at this;exact absurd this (by rintro(h | h);exact h1 h;exact h2 h)⟩
theorem BtwV.at_ (h:BtwV Ws C (fun _=>R) m k w w')(x:Iv)(hx:x∈Ws:=by simp)(hf:m∈x.fr:=by simp)(ht:k∈x.to:=by simp):R w w' :=h.a x hx hf ht
theorem PostV.at_ (h:PostV Ws C (fun _=>R) m w w')(x:Iv)(hx:x∈Ws:=by simp)(hf:m∈x.fr:=by simp)(hb:x.behind= []:=by rfl):R w w' :=h.a x hx hf hb
end
end Go.Proofs.YtoadlafdeoklbaaGreatDoor
