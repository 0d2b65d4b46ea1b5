/- A region that draws its order and whose operations may hand back new memory, each operation met once: what it finds is told of the temporaries that it reads alone. Small words: a callee that leaves the world as it was, met inside a region; what is kept over draws. Walks: a copy of bytes. Facts on the types of bytes in this program. A region whose operations each keep what was there, each operation met once. A region that draws its order and fills one block that it makes itself: each operation met once. A region that draws its order and whose last operations stand in a row: those ahead of them are met once each, these are walked. A region that draws its order, of which some operations may write what lay, each its own: each operation met once; the last ones may stand in a row. Regions of which two operations may write: in words for the walk. Lists of elements of whatever number of cells, in blocks of their own type: read, appended to. -/
import Derived.Orders
import Derived.Calls
import Derived.Deep.Draws
import Derived.Test.YtahbikfbjenfpaaGreatDoorPa0
import Derived.StillTailTactics
import Derived.Deep.Quiet
import Derived.Test.YtahbikfbjenfpaaGreatDoorProg
import Derived.Laws.EntriesVeiled
import Derived.StillTail
import Derived.Test.YtahbikfbjenfpaaGreatDoorPa1

namespace Go.Proofs.YtahbikfbjenfpaaGreatDoor
open Tryz

/-- What is known of a temporary of a region: its very value, or something that held in the world in which it came up. -/
structure fQ where
 t:Option Tmp
 c:Option Value
 rd:List Tmp
 φ:List Value->Value->au->Prop

section
variable (P:Program) (R:au->au->Prop) (w0:au) (ops:Array Oper) (vals:Tmp->Value)

def fill:List fQ->Act->Act
 | [],a=>a
 | ⟨some t,some v,_,_⟩::l,a=>(fill l a).put (some t) v
 | ⟨some t,none,_,_⟩::l,a=>(fill l a).put (some t) (vals t)
 | ⟨none,_,_,_⟩::l,a=>fill l a

def knows (rs:List Tmp)(W:au):List fQ->Prop
 | []=>True
 | ⟨_,some _,_,_⟩::l=>knows rs W l
 | ⟨none,none,_,_⟩::l=>knows rs W l
 | ⟨some t,none,rd,φ⟩::l=>(t∈rs->∃W0,R w0 W0/\R W0 W/\φ (rd.map vals) (vals t) W0)/\knows rs W l

def aw (W:au):List fQ->Prop
 | []=>True
 | ⟨_,some _,_,_⟩::l=>aw W l
 | ⟨none,none,rd,φ⟩::l=>(∃u W0,R w0 W0/\R W0 W/\φ (rd.map vals) u W0)/\aw W l
 | ⟨some t,none,rd,φ⟩::l=>(∃W0,R w0 W0/\R W0 W/\φ (rd.map vals) (vals t) W0)/\aw W l

def dE (w:au)(φ:Value->au->Prop):Result Next->Prop
 | .ok (.value u) w' =>R w w' /\φ u w'
 | .ok .skip w' =>R w w' /\φ undef w'
 | .ok (.enter f args) w' =>R w w' /\Calls P f args w' (λe w'' =>∃v,e= .returned v/\R w' w'' /\φ v w'')
 | .ok (.row row args) w' =>R w w' /\Rows P row args w' (λv w'' =>R w' w'' /\φ v w'')
 | _=>False

structure fH (a:Act)(o:Oper)(φ:Value->au->Prop)(W:au):Prop where
 out:if Region.wanted o (yielded ops a.tmps)then dE P R W φ ((execOp a.eval o).run P W)else φ undef W

def cB (c:Option Value)(φ:Value->au->Prop):Value->au->Prop:=match c with
 | some v=>λu _=>u=v
 | none=>φ
def af (d:Option Tmp)(c:Option Value)(rd:List Tmp)(φ:List Value->Value->au->Prop)(env:List fQ):List fQ:=⟨d,c,rd,φ⟩::env

/-- A temporary whose every writer an operation waits for. -/
def dG (ops:Array Oper)(o:Oper)(t:Tmp):Bool:=(List.range ops.size).all λk=>match ops[k]? with
 | some o' =>o'.dst !=some t || o.after.any (λe=>Region.binds .any e && e.on==k)
 | none=>true
theorem h_ {ops:Array Oper}{o:Oper}{t:Tmp}(h:dG ops o t=true){k:Nat}{o' :Oper}(ho:ops[k]? =some o')(hd:o'.dst=some t):∃e∈o.after,Region.binds .any e=true/\e.on=k:=by
 unfold dG at h;have:=List.all_eq_true.1 h k (List.mem_range.2 (Array.getElem?_eq_some_iff.1 ho).1);simp only[ho,hd,bne_self_eq_false,Bool.false_or]at this;obtain⟨e,he,hb⟩:=Array.any_eq_true'.1 this;simp only[cR,kX]at hb;exact⟨e,he,hb.1,hb.2⟩

def ba (a0:Act)(Q:List fQ->Prop):List Oper->List fQ->Prop
 | [],env=>Q env
 | o::rest,env=>∃c rd φ,(∀t∈rd,dG ops o t=true)/\(∀W vals,R w0 W->knows R w0 vals (o.looksAt ops) W env->fH P R ops (fill vals env a0) o (cB c (φ (rd.map vals))) W)/\ba a0 Q rest (af o.dst c rd φ env)

/-- Each operation's temporaries come up ahead of it, by an edge; no two have one place. -/
def f_ (n:Nat)(ops:Array Oper):Bool:=
 Region.noSelect ops &&
 (List.range ops.size).all λi=>match ops[i]? with
  | none=>true
  | some o=>
   (match o.dst with
    | some d=>decide (d < n) && (List.range ops.size).all (λj=>j==i || (match ops[j]? with | some o' =>o'.dst !=some d | none=>true))
    | none=>true) &&
   o.after.all (λe=> !Region.binds .any e || decide (e.on < i)) &&
   (o.looksAt ops).all (λt=>(List.range ops.size).all λk=>match ops[k]? with
    | some o' =>o'.dst !=some t || (decide (k < i) && o.after.any (λe=>Region.binds .any e && e.on==k)) || (decide (i < k) && o'.after.any (λe=>Region.binds .any e && e.on==i))
    | none=>true)
end

section
variable {P:Program} {R:au->au->Prop} {w0:au} {ops:Array Oper} {vals:Tmp->Value}

theorem gB {n:Nat}(h:f_ n ops=true):
  Region.noSelect ops=true/\
  (∀(i:Nat) (o:Oper) (d:Tmp),ops[i]? =some o->o.dst=some d->d < n)/\
  (∀(i j:Nat) (o o' :Oper) (d:Tmp),ops[i]? =some o->ops[j]? =some o' ->o.dst=some d->o'.dst=some d->i=j)/\
  (∀(i:Nat) (o:Oper),ops[i]? =some o->∀e∈o.after,Region.binds .any e=true->e.on < i)/\
  (∀(i:Nat) (o:Oper) (t:Tmp) (k:Nat) (o' :Oper),ops[i]? =some o->t∈o.looksAt ops->ops[k]? =some o' ->o'.dst=some t->(k < i/\∃e∈o.after,Region.binds .any e=true/\e.on=k)\/(i < k/\∃e∈o'.after,Region.binds .any e=true/\e.on=i)):=by
 unfold f_ at h;simp only[cR,List.all_eq_true,List.mem_range]at h;obtain⟨h0,h⟩:=h;have lt:∀{i:Nat} {o:Oper},ops[i]? =some o->i < ops.size:=λho=>(Array.getElem?_eq_some_iff.1 ho).1
 refine⟨h0, ?_, ?_, ?_, ?_⟩
 ·intro i o d ho hd
  have:=h i (lt ho);simp only[ho,hd,cR,fA]at this;exact this.1.1.1
 ·intro i j o o' d ho ho' hd hd'
  have:=h i (lt ho);simp only[ho,hd,cR,List.all_eq_true,List.mem_range]at this;have:=this.1.1.2 j (lt ho');simp only[ho',hd',kW,kX,bne_self_eq_false,zY,or_false]at this;exact this.symm
 ·intro i o ho e he hb
  have:=h i (lt ho);simp only[ho,cR]at this;have:=(Array.all_eq_true_iff_forall_mem.1 this.1.2) e he
  simpa [hb]using this
 ·intro i o t k o' ho ht ho' hd
  have:=h i (lt ho);simp only[ho,cR,List.all_eq_true,List.mem_range]at this;have:=this.2 t ht k (lt ho');simp only[ho',hd,bne_self_eq_false,Bool.false_or,kW,cR,fA]at this
  rcases this with⟨hk,ha⟩ | ⟨hk,ha⟩
  ·obtain⟨e,he,hb⟩:=Array.any_eq_true'.1 ha
   simp only[cR,kX]at hb;exact .inl ⟨hk,e,he,hb.1,hb.2⟩
  ·obtain⟨e,he,hb⟩:=Array.any_eq_true'.1 ha
   simp only[cR,kX]at hb;exact .inr ⟨hk,e,he,hb.1,hb.2⟩

/-- The lexical walk's findings, told by number. -/
theorem mA {a0:Act}{Q:List fQ->Prop}:∀(l:List Oper) (env:List fQ),ba P R w0 ops a0 Q l env->
  ∃(E:Nat->List fQ) (c:Nat->Option Value) (rd:Nat->List Tmp) (φ:Nat->List Value->Value->au->Prop),E 0=env/\
   (∀k o,l[k]? =some o->E (k+1)=af o.dst (c k) (rd k) (φ k) (E k)/\(∀t∈rd k,dG ops o t=true)/\∀W vals,R w0 W->knows R w0 vals (o.looksAt ops) W (E k)->fH P R ops (fill vals (E k) a0) o (cB (c k) (φ k ((rd k).map vals))) W)/\Q (E l.length)
 | [],env,h=>⟨λ_=>env,λ_=>none,λ_=> [],λ_ _ _ _=>True,rfl,λk o ho=>by simp at ho,h⟩
 | o::rest,env,h=>by
  obtain⟨c,rd,φ,h0,h1,h2⟩:=h;obtain⟨E,c',Lf,φ',e0,hs,hq⟩:=mA rest _ h2;refine⟨λ| 0=>env | k+1=>E k,λ| 0=>c | k+1=>c' k,λ| 0=>rd | k+1=>Lf k,λ| 0=>φ | k+1=>φ' k,rfl, ?_,hq⟩;intro k o' ho'
  cases k with
  | zero=>
   simp only[bU,kY]at ho';subst ho';exact⟨e0,h0,h1⟩
  | succ k=>exact hs k o' (by simpa using ho')

theorem fq {a:Act}{d t:Tmp}{v:Value}(h:d≠t):(a.put (some d) v).tmps[t]? =a.tmps[t]? :=by simp[Act.put,Array.getElem?_setIfInBounds_ne h]
theorem nN {a:Act}{d:Tmp}{v:Value}(h:d < a.tmps.size):(a.put (some d) v).tmps[d]? =some v:=by simp[Act.put,h]
theorem oZ (a:Act)(d:Option Tmp)(v:Value):(a.put d v).tmps.size=a.tmps.size:=by cases d <;> simp[Act.put]
theorem o5 (a:Act)(d:Option Tmp)(v:Value):(a.put d v).defers=a.defers:=by cases d <;> simp[Act.put]
theorem jb:∀(l:List fQ) (a:Act),(fill vals l a).tmps.size=a.tmps.size/\(fill vals l a).defers=a.defers
 | [],a=>⟨rfl,rfl⟩
 | ⟨some t,some v,_,φ⟩::l,a=>by simp only[fill,oZ,o5];exact jb l a
 | ⟨some t,none,_,φ⟩::l,a=>by simp only[fill,oZ,o5];exact jb l a
 | ⟨none,_,_,φ⟩::l,a=>by simp only[fill];exact jb l a

theorem fu (a0:Act){E:Nat->List fQ}{c:Nat->Option Value}{rd:Nat->List Tmp}{φ:Nat->List Value->Value->au->Prop}(e0:E 0= [])
  (hs:∀k o,ops[k]? =some o->E (k+1)=af o.dst (c k) (rd k) (φ k) (E k)) (t:Tmp):∀k,k<=ops.size->(∀j o,j < k->ops[j]? =some o->o.dst≠some t)->(fill vals (E k) a0).tmps[t]? =a0.tmps[t]?
 | 0,_,_=>by rw[e0];rfl
 | k+1,hk,h=>by
  have ih:=fu a0 e0 hs t k (by omega) (λj o hj ho=>h j o (by omega) ho);have ho:ops[k]? =some ops[k]:=lS (by omega);rw[hs k _ ho];have hne:=h k _ (by omega) ho;unfold af
  cases hd:ops[k].dst with
  | none=>simp only[fill];exact ih
  | some d=>
   have:d≠t:=λe=>hne (by rw[hd,e])
   cases c k <;> simp only[fill,fq this,ih]

theorem gQ (a0:Act){E:Nat->List fQ}{c:Nat->Option Value}{rd:Nat->List Tmp}{φ:Nat->List Value->Value->au->Prop}
  (hs:∀k o,ops[k]? =some o->E (k+1)=af o.dst (c k) (rd k) (φ k) (E k)) (hd:∀(i j:Nat) (o o' :Oper) (d:Tmp),ops[i]? =some o->ops[j]? =some o' ->o.dst=some d->o'.dst=some d->i=j) (t:Tmp) (ht:t < a0.tmps.size)
  (j:Nat) (o:Oper) (ho:ops[j]? =some o) (LN:o.dst=some t):∀k,k<=ops.size->j < k->(fill vals (E k) a0).tmps[t]? =some (match c j with | some v=>v | none=>vals t)
 | 0,_,h=>by omega
 | k+1,hk,hj=>by
  have hok:ops[k]? =some ops[k]:=lS (by omega);rw[hs k _ hok]
  by_cases hjk:j=k
  ·subst hjk
   obtain rfl:ops[j]=o:=by rw[hok]at ho;exact Option.some.inj ho
   unfold af;simp only[LN]
   cases c j <;> simp only[fill] <;> exact nN (by rw[(jb _ _).1];exact ht)
  ·have ih:=gQ a0 hs hd t ht j o ho LN k (by omega) (by omega)
   unfold af
   cases Cb:ops[k].dst with
   | none=>simp only[fill];exact ih
   | some d=>
    have:d≠t:=λe=>hjk (hd j k o _ t ho hok LN (by rw[Cb,e]))
    cases c k <;> simp only[fill,fq this,ih]

theorem py {E:Nat->List fQ}{c:Nat->Option Value}{rd:Nat->List Tmp}{φ:Nat->List Value->Value->au->Prop}(e0:E 0= []){W:au}
  (hs:∀k o,ops[k]? =some o->E (k+1)=af o.dst (c k) (rd k) (φ k) (E k)) (rs:List Tmp):∀k,k<=ops.size->(∀j o t,j < k->ops[j]? =some o->o.dst=some t->t∈rs->c j=none->∃W0,R w0 W0/\R W0 W/\φ j ((rd j).map vals) (vals t) W0)->knows R w0 vals rs W (E k)
 | 0,_,_=>by rw[e0];trivial
 | k+1,hk,h=>by
  have ih:=py e0 hs rs k (by omega) (λj o t hj=>h j o t (by omega));have hok:ops[k]? =some ops[k]:=lS (by omega);rw[hs k _ hok];unfold af
  cases Cb:ops[k].dst with
  | none=>cases hc:c k <;> exact ih
  | some d=>
   cases hc:c k with
   | some v=>exact ih
   | none=>exact⟨λhm=>h k _ d (by omega) hok Cb hm hc,ih⟩
theorem lA {E:Nat->List fQ}{c:Nat->Option Value}{rd:Nat->List Tmp}{φ:Nat->List Value->Value->au->Prop}(e0:E 0= []){W:au}
  (hs:∀k o,ops[k]? =some o->E (k+1)=af o.dst (c k) (rd k) (φ k) (E k)):∀k,k<=ops.size->(∀j o t,j < k->ops[j]? =some o->o.dst=some t->c j=none->∃W0,R w0 W0/\R W0 W/\φ j ((rd j).map vals) (vals t) W0)->
  (∀j o,j < k->ops[j]? =some o->o.dst=none->c j=none->∃u W0,R w0 W0/\R W0 W/\φ j ((rd j).map vals) u W0)->aw R w0 vals W (E k)
 | 0,_,_,_=>by rw[e0];trivial
 | k+1,hk,h,hn=>by
  have ih:=lA e0 hs k (by omega) (λj o t hj=>h j o t (by omega)) (λj o hj=>hn j o (by omega));have hok:ops[k]? =some ops[k]:=lS (by omega);rw[hs k _ hok];unfold af
  cases Cb:ops[k].dst with
  | none=>
   cases hc:c k with
   | some v=>exact ih
   | none=>exact⟨hn k _ (by omega) hok Cb hc,ih⟩
  | some d=>
   cases hc:c k with
   | some v=>exact ih
   | none=>exact⟨h k _ d (by omega) hok Cb hc,ih⟩

/-- Two frames that agree where an operation looks. -/
theorem lu {a a' :Act}{o:Oper}{φ:Value->au->Prop}{W:au}(hsel:∀cs b,o.op≠ .select cs b)(h:∀t∈o.looksAt ops,a.tmps[t]? =a'.tmps[t]?)(hh:fH P R ops a o φ W):fH P R ops a' o φ W:=by
 have he:execOp a.eval o=execOp a'.eval o:=execOp_congr o hsel λx hx=>by
  cases x with
  | tmp t=>
   have:=h t (F6 _ (List.mem_filterMap.2 ⟨.tmp t,by simpa using hx,rfl⟩));simp[Act.eval,this]
  | _=>rfl
 have hy:Region.wanted o (yielded ops a.tmps)=Region.wanted o (yielded ops a'.tmps):=by
  unfold Region.wanted
  cases hg:o.guard with
  | none=>rfl
  | some gw=>
   obtain⟨g,want⟩:=gw;have:yielded ops a.tmps g=yielded ops a'.tmps g:=by
    unfold yielded
    cases ht:(ops[g]?).bind (·.dst)with
    | none=>rfl
    | some t=>
     have:=h t (Ez _ (by simp[hg,ht]));simp[this]
   simp only[this]
 obtain⟨hh⟩:=hh;rw[he,hy]at hh;exact⟨hh⟩

def cN (listed:Array Bool):Nat:=listed.toList.count false
theorem bu {listed:Array Bool}{i:Nat}(h:listed.getD i true=false):cN (listed.setIfInBounds i true)+1=cN listed/\i < listed.size:=by
 have hi:i < listed.size:=by
  rcases eS i listed.size with h' | h'
  ·exact h'
  ·simp[Array.getElem?_eq_none h']at h
 refine⟨?_,hi⟩;have hv:listed.toList[i]'(by simpa using hi)=false:=by simpa [hi]using h
 unfold cN;have hpos:0 < listed.toList.count false:=List.count_pos_iff.2 (hv▸fS _);rw[Array.toList_setIfInBounds,List.count_set (by simpa using hi),hv];simp;have:0 < Array.count false listed:=by simpa using hpos
 omega

/-- What stands while the region runs. -/
structure nk (R:au->au->Prop)(w0:au)(ops:Array Oper)(a0:Act)(c:Nat->Option Value)(rd:Nat->List Tmp)(φ:Nat->List Value->Value->au->Prop)(listed:Array Bool)(a:Act)(W:au):Prop where
 world:R w0 W
 defers:a.defers=a0.defers
 size:a.tmps.size=a0.tmps.size
 gy:listed.size=ops.size
 off:∀t,(∀k o,ops[k]? =some o->o.dst=some t->listed.getD k false=false)->a.tmps[t]? =a0.tmps[t]?
 on:∀k o d,ops[k]? =some o->o.dst=some d->listed.getD k false=true->∃v,a.tmps[d]? =some v/\∃W0,R w0 W0/\R W0 W/\cB (c k) (φ k ((rd k).map λt=>a.tmps.getD t undef)) v W0
 IX:∀k o,ops[k]? =some o->o.dst=none->listed.getD k false=true->∃u W0,R w0 W0/\R W0 W/\cB (c k) (φ k ((rd k).map λt=>a.tmps.getD t undef)) u W0
 dep:∀k o,ops[k]? =some o->listed.getD k false=true->∀e∈o.after,Region.binds .any e=true->listed.getD e.on false=true

theorem qI {n:Nat}{a0:Act}{c:Nat->Option Value}{rd:Nat->List Tmp}{φ:Nat->List Value->Value->au->Prop}{listed:Array Bool}{a:Act}{W W' :au}(htr:∀x y z,R x y->R y z->R x z)(zj:∀x,R x x)
  (hB:f_ n ops=true) (cS:∀k o,ops[k]? =some o->∀t∈rd k,dG ops o t=true) (hn:a0.tmps.size=n) (hI:nk R w0 ops a0 c rd φ listed a W) {i:Nat} {o:Oper} (ho:ops[i]? =some o) (hl:listed.getD i true=false) (hall:∀e∈o.after,Region.binds .any e=true->listed.getD e.on false=true) (v:Value) (hR:R W W') (hv:cB (c i) (φ i ((rd i).map λt=>a.tmps.getD t undef)) v W'):
  nk R w0 ops a0 c rd φ (listed.setIfInBounds i true) (a.put o.dst v) W' :=by
 obtain⟨_,b1,b2,b3,b4⟩:=gB hB;have hil:listed.getD i false=false:=by
  have hi:=(bu hl).2
  simpa [hi]using hl
 -- what an operation that is listed reads stays
 have keep:∀k o',ops[k]? =some o' ->(k=i\/listed.getD k false=true)->((rd k).map λt=>(a.put o.dst v).tmps.getD t undef)=(rd k).map λt=>a.tmps.getD t undef:=by
  intro k o' ho' hk;refine zX λt ht=> ?_
  replace ht:=cS k o' ho' t ht
  cases hd:o.dst with
  | none=>rfl
  | some d=>
   have hne:d≠t:=by
    rintro rfl;obtain⟨e,he,hb,hon⟩:=h_ ht ho hd
    rcases hk with rfl | hk
    ·rw[ho]at ho'
     injection ho' with ho'
     subst ho';have:=hall e he hb;rw[hon,hil]at this
     cases this
    ·have:=hI.dep k o' ho' hk e he hb
     rw[hon,hil]at this
     cases this
   have:=fq (a:=a) (v:=v) hne;simp only[ou,this]
 refine⟨htr _ _ _ hI.world hR,by rw[o5,hI.defers],by rw[oZ,hI.size],by simp[hI.gy], ?_, ?_, ?_, ?_⟩
 ·intro t h
  have hne:o.dst≠some t:=λhd=>by
   have:=h i o ho hd;have hi:=(bu hl).2;simp[hi]at this
  have e:(a.put o.dst v).tmps[t]? =a.tmps[t]? :=by
   cases hd:o.dst with
   | none=>rfl
   | some d=>exact fq (λe=>hne (by rw[hd,e]))
  rw[e];refine hI.off t (λk o' ho' hd' => ?_);have:=h k o' ho' hd';have hki:i≠k:=λe=>by subst e;rw[ho]at ho';injection ho' with ho';subst ho';exact hne hd'
  rwa [getD_set_ne _ hki]at this
 ·intro k o' d ho' hd' hk
  by_cases hki:i=k
  ·subst hki
   rw[ho]at ho';injection ho' with ho'
   subst ho';rw[keep i o ho (.inl rfl)];rw[hd'];exact⟨v,nN (by rw[hI.size,hn];exact b1 i o d ho hd'),W',htr _ _ _ hI.world hR,zj _,hv⟩
  ·rw[getD_set_ne _ hki]at hk
   obtain⟨u,hu,W0,h1,h2,h3⟩:=hI.on k o' d ho' hd' hk;rw[keep k o' ho' (.inr hk)];refine⟨u, ?_,W0,h1,htr _ _ _ h2 hR,h3⟩
   cases hd:o.dst with
   | none=>exact hu
   | some d2=>
    rw[fq (λe=>hki (b2 i k o o' d ho ho' (by rw[hd,e]) hd'))];exact hu
 ·intro k o' ho' hd' hk
  by_cases hki:i=k
  ·subst hki
   rw[ho]at ho';injection ho' with ho'
   subst ho';rw[keep i o ho (.inl rfl)];exact⟨v,W',htr _ _ _ hI.world hR,zj _,hv⟩
  ·rw[getD_set_ne _ hki]at hk
   obtain⟨u,W0,h1,h2,h3⟩:=hI.IX k o' ho' hd' hk;rw[keep k o' ho' (.inr hk)];exact⟨u,W0,h1,htr _ _ _ h2 hR,h3⟩
 ·intro k o' ho' hk e he hb
  have hmono:∀m,listed.getD m false=true->(listed.setIfInBounds i true).getD m false=true:=by
   intro m hm
   by_cases zk:i=m
   ·subst zk
    rw[hil]at hm
    cases hm
   ·rw[getD_set_ne _ zk];exact hm
  by_cases hki:i=k
  ·subst hki
   rw[ho]at ho';injection ho' with ho'
   subst ho';exact hmono _ (hall e he hb)
  ·rw[getD_set_ne _ hki]at hk
   exact hmono _ (hI.dep k o' ho' hk e he hb)

theorem Be {n:Nat}{a0:Act}{c:Nat->Option Value}{rd:Nat->List Tmp}{φ:Nat->List Value->Value->au->Prop}{E:Nat->List fQ}{Q:Exit->Act->au->Prop}(htr:∀x y z,R x y->R y z->R x z)(zj:∀x,R x x)
  (hB:f_ n ops=true) (hn:a0.tmps.size=n) (e0:E 0= [])
  (hs:∀k o,ops[k]? =some o->E (k+1)=af o.dst (c k) (rd k) (φ k) (E k)/\(∀t∈rd k,dG ops o t=true)/\∀W vals,R w0 W->knows R w0 vals (o.looksAt ops) W (E k)->fH P R ops (fill vals (E k) a0) o (cB (c k) (φ k ((rd k).map vals))) W)
  (hq:∀W vals,R w0 W->aw R w0 vals W (E ops.size)->Q .normal (fill vals (E ops.size) a0) W):
  ∀(fuel:Nat) (listed:Array Bool) (a:Act) (W:au),cN listed<=fuel->nk R w0 ops a0 c rd φ listed a W->wpAny P .any ops Q fuel listed a W:=by
 obtain⟨b0,b1,b2,b3,b4⟩:=gB hB;have hs1:=λk o ho=>(hs k o ho).1
 have cS:=λk o ho=>(hs k o ho).2.1
 have fin:∀(listed:Array Bool) (a:Act) (W:au),nk R w0 ops a0 c rd φ listed a W->Region.ready .any ops listed= []->Q .normal a W:=by
  intro listed a W hI hr;have hall:∀m k,k < m->k < ops.size->listed.getD k false=true:=by
   intro m
   induction m with
   | zero=>intro k h;omega
   | succ m ih=>
    intro k hk hks
    cases hl:listed.getD k false with
    | true=>rfl
    | false=>
     exfalso
     have ho:ops[k]? =some ops[k]:=lS hks;have hl' :listed.getD k true=false:=by
      have:k < listed.size:=by rw[hI.gy];exact hks
      simpa [this]using hl
     have:k∈Region.ready .any ops listed:=mem_ready.2 ⟨hl',_,ho,λe he hb=>by
      have hlt:=b3 k _ ho e he hb;exact ih e.on (by omega) (by omega)⟩
     rw[hr]at this
     cases this
  have hq:=hq W (λt=>a.tmps.getD t undef) hI.world (lA e0 hs1 ops.size (bE _) (λj o t hj ho hd hc=>by
   obtain⟨v,hv,W0,h1,h2,h3⟩:=hI.on j o t ho hd (hall (j+1) j (by omega) hj);refine⟨W0,h1,h2, ?_⟩;have:a.tmps.getD t undef=v:=by simp[hv]
   show φ j _ (a.tmps.getD t undef) W0;rw[this]
   simpa [cB,hc]using h3) (λj o hj ho hd hc=>by
   obtain⟨u,W0,h1,h2,h3⟩:=hI.IX j o ho hd (hall (j+1) j (by omega) hj);exact⟨u,W0,h1,h2,by simpa [cB,hc]using h3⟩))
  have LM:fill (λt=>a.tmps.getD t undef) (E ops.size) a0=a:=by
   obtain⟨s1,s2⟩:=jb (vals:=λt=>a.tmps.getD t undef) (E ops.size) a0;have ht:(fill (λt=>a.tmps.getD t undef) (E ops.size) a0).tmps=a.tmps:=by
    refine xA λt=> ?_
    by_cases hd:∃(k:Nat) (o:Oper),ops[k]? =some o/\o.dst=some t
    ·obtain⟨k,o,ho,hd⟩:=hd
     have hk:=(Array.getElem?_eq_some_iff.1 ho).1;rw[gQ a0 hs1 b2 t (by rw[hn];exact b1 k o t ho hd) k o ho hd ops.size (bE _) hk];obtain⟨v,hv,W0,_,_,h3⟩:=hI.on k o t ho hd (hall (k+1) k (by omega) hk);rw[hv]
     cases hc:c k with
     | none=>simp[hv]
     | some u=>simp[cB,hc]at h3;simp[h3]
    ·rw[fu a0 e0 hs1 t ops.size (bE _) (λj o _ ho jw=>hd ⟨j,o,ho,jw⟩)]
     exact(hI.off t (λk o ho jw=>absurd ⟨k,o,ho,jw⟩ hd)).symm
   have hd' :(fill (λt=>a.tmps.getD t undef) (E ops.size) a0).defers=a.defers:=by rw[s2,hI.defers]
   generalize fill (λt=>a.tmps.getD t undef) (E ops.size) a0=b at*
   obtain⟨bt,bd⟩:=b;obtain⟨at_,ad⟩:=a;simp only at ht hd';rw[ht,hd']
  rwa [LM]at hq
 intro fuel
 induction fuel with
 | zero=>
  intro listed a W hu hI;have hr:Region.ready .any ops listed= []:=by
   cases h:Region.ready .any ops listed with
   | nil=>rfl
   | cons i l=>
    have hm:i∈Region.ready .any ops listed:=by rw[h];exact List.mem_cons_self
    have:=(bu (mem_ready.1 hm).1).1;omega
  exact⟨hr,fin listed a W hI hr⟩
 | succ fuel ih=>
  intro listed a W hu hI;refine⟨fin listed a W hI,λi hi=> ?_⟩;obtain⟨hl,o,ho,hall⟩:=mem_ready.1 hi;have PN:=(bu hl).1;have hi' :i < ops.size:=(Array.getElem?_eq_some_iff.1 ho).1;have hop:=(hs i o ho).2.2 W (λt=>a.tmps.getD t undef) hI.world (py e0 hs1 (o.looksAt ops) i (by omega) (λj o' t hj ho' hd ht hc=>by
   obtain⟨_,e,he,hb,hon⟩:=(b4 i o t j o' ho ht ho' hd).resolve_right (λh=>absurd h.1 (by omega));obtain⟨v,hv,W0,h1,h2,h3⟩:=hI.on j o' t ho' hd (hon▸hall e he hb);refine⟨W0,h1,h2, ?_⟩;have:a.tmps.getD t undef=v:=by simp[hv]
   show φ j _ (a.tmps.getD t undef) W0;rw[this]
   simpa [cB,hc]using h3))
  have hop:=lu (a' :=a) (Region.noSelect_spec b0 i o · · ho) (λt ht=>by
   by_cases hd:∃(k:Nat) (o' :Oper),ops[k]? =some o' /\o'.dst=some t
   ·obtain⟨k,o',ho',hd⟩:=hd
    rcases b4 i o t k o' ho ht ho' hd with⟨hk,e,he,hb,hon⟩ | ⟨hk,e,he,hb,hon⟩
    case inr=>
     rw[fu a0 e0 hs1 t i (by omega) (λj o2 hj p6 jw=>by have:=b2 j k o2 o' t p6 ho' jw hd;omega)];refine(hI.off t (λk2 o2 p6 jw=> ?_)).symm;obtain rfl:=b2 k2 k o2 o' t p6 ho' jw hd
     cases hlk:listed.getD k2 false with
     | false=>rfl
     | true=>
      have:=hI.dep k2 o' ho' hlk e he hb;rw[hon]at this;have hil:listed.getD i false=false:=by
       have hi:=(bu hl).2
       simpa [hi]using hl
      rw[hil]at this
      cases this
    rw[gQ a0 hs1 b2 t (by rw[hn];exact b1 k o' t ho' hd) k o' ho' hd i (by omega) hk];obtain⟨v,hv,W0,_,_,h3⟩:=hI.on k o' t ho' hd (hon▸hall e he hb);rw[hv]
    cases hc:c k with
    | none=>simp[hv]
    | some u=>simp[cB,hc]at h3;simp[h3]
   ·rw[fu a0 e0 hs1 t i (by omega) (λj o' _ ho' jw=>hd ⟨j,o',ho',jw⟩)]
    exact(hI.off t (λk o' ho' jw=>absurd ⟨k,o',ho',jw⟩ hd)).symm) hop
  have next:∀v W',R W W' ->cB (c i) (φ i ((rd i).map λt=>a.tmps.getD t undef)) v W' ->wpAny P .any ops Q fuel (listed.setIfInBounds i true) (a.put o.dst v) W' :=λv W' hR hv=>
   ih _ _ _ (by omega) (qI htr zj hB cS hn hI ho hl hall v hR hv)
  unfold wpOp;simp only[ho];replace hop:=hop.out
  split
  ·rename_i hw
   simp only[hw,jF]at hop
   left
   unfold Oper.wp
   generalize (execOp a.eval o).run P W=r at*
   cases r with
   | ok x w' =>
    cases x <;> simp only[dE]at hop <;> simp only[Oper.upon]
    ·exact next _ _ hop.1 hop.2
    ·exact next _ _ hop.1 hop.2
    ·exact hop.2.mono λe w'' ⟨v,he,hR,hv⟩=>by subst he;exact next _ _ (htr _ _ _ hop.1 hR) hv
    ·exact hop.2.mono λv w'' ⟨hR,hv⟩=>next _ _ (htr _ _ _ hop.1 hR) hv
   | halt x w' =>simp only[dE]at hop
  ·rename_i hw
   simp only[hw]at hop;exact next _ _ (zj _) hop

/-- **Each operation met once serves every order.** -/
theorem ow {id:Nat}{Q:Exit->Act->au->Prop}{a:Act}{w:au}{l:List Oper}(R:au->au->Prop)(w0:au)(n:Nat)(hm:P.follows .mixedOrders=true)(hn:a.tmps.size=n)(hB:f_ n l.toArray=true)
  (zj:∀x,R x x) (htr:∀x y z,R x y->R y z->R x z) (h0:R w0 w.drew)
  (h:ba P R w0 l.toArray a (λenv=>∀W vals,R w0 W->aw R w0 vals W env->Q .normal (fill vals env a) W) l []):(Code.region id l.toArray true).wp P Q a w:=by
 obtain⟨E,c,rd,φ,e0,hs,hq⟩:=mA l [] h;refine wp_region_any hm (Be (w0:=w0) htr zj hB hn e0 (λk o ho=>hs k o (by simpa using ho)) (by simpa using hq) _ _ _ _ (by unfold cN;simp) ⟨h0,rfl,rfl,by simp,λ_ _=>rfl,λk o d ho _ hk=> ?_,λk o ho _ hk=> ?_,λk o ho hk=> ?_⟩) <;>
 ·exfalso
  by_cases h' :k < l.length <;> simp[h']at hk
end
end Go.Proofs.YtahbikfbjenfpaaGreatDoor

namespace Go.Proofs.YtahbikfbjenfpaaGreatDoor
open Tryz Go.RowKit

theorem ae.bX {w w' :au}{S:List Nat}(h:ae w w' S)(o:Obj):ae w (w'.alloc o) S:=h.trans (ae.alloc _ _) (by simp)
theorem ae.rI {w w' :au}{S:List Nat}(h:ae w w' S)(p:Addr)(u:Value)(hp:w.heap.size<=p.block):ae w (w'.setCell p u) S:=
 h.trans (ae.setCell _ _ _) (λx hx hl=>by simp at hx;omega)
theorem ae.ah {w w' w'' :au}{S:List Nat}(h:ae w w' S)(k:ae w' w'' []):ae w w'' S:=h.trans k (by simp)
section
variable {P:Program}
end

theorem lB:(Tryz.prog.info? 5).map (λi=>(i.zero,i.size,i.bytes))=some (some (.int .u8 0),1,1):=by kernel_rfl
theorem fF:Tryz.prog.underlying 32=some (.slice 5):=by kernel_rfl

/-- The slice value v reads as the bytes l. -/
def Bytes (w:au)(B:Nat)(v:Value)(l:aG):Prop:=
 ∃A c,v= .slice A l.length c/\l.length<=c/\(A=none->c=0)/\c<=maxLen/\l.length<=140737488351232/\cG w B A (l.map bq)

/-- v is a row of the call's own (from block base on) that reads as the bytes l. -/
abbrev aS (w:au)(base:Nat)(v:Value)(l:aG):Prop:=w.ownsRow base 5 1 v l.length (l.map bq)

theorem Bytes.below {w w' :au}{B:Nat}{v:Value}{l:aG}(h:Bytes w B v l)(hb:Below B w w'):Bytes w' B v l:=by
 obtain⟨A,c,h1,h2,h3,h4,h5,h6⟩:=h;exact⟨A,c,h1,h2,h3,h4,h5,h6.below hb⟩
theorem Bytes.lies {w:au}{B n c:Nat}{A:Option Addr}{l:aG}(h:Bytes w B (.slice A n c) l):cG w B A (l.map bq):=by
 obtain⟨A',c',h1,h2,h3,h4,h5,h6⟩:=h;injection h1 with e1 e2 e3
 subst e1;exact h6
theorem Bytes.mono {w:au}{B B' :Nat}{v:Value}{l:aG}(h:Bytes w B v l)(hB:B<=B'):Bytes w B' v l:=by
 obtain⟨A,c,h1,h2,h3,h4,h5,h6⟩:=h;exact⟨A,c,h1,h2,h3,h4,h5,h6.mono hB⟩
theorem Bytes.len {w:au}{B:Nat}{v:Value}{l:aG}(h:Bytes w B v l):l.length<=140737488351232:=by
 obtain⟨A,c,h1,h2,h3,h4,h5,h6⟩:=h;exact h5
theorem aS.bytes {w:au}{base:Nat}{v:Value}{l:aG}(h:aS w base v l)(hl:l.length<=140737488351232):Bytes w w.heap.size v l:=by
 obtain⟨A,c,rfl,h1,h2⟩:=ck h;refine⟨A,c,rfl,h1, ?_,h2,hl,cG.tG h⟩;rintro rfl
 rcases h.2 with⟨hv,_⟩ | ⟨g,cap,cur,hv,_⟩
 ·injection hv
 ·cases hv
theorem aS.block {w:au}{base n c:Nat}{ad:Addr}{l:aG}(h:w.ownsRow base 5 1 (.slice (some ad) n c) n (l.map bq)):base<=ad.block/\ad.block < w.heap.size:=h.lt _ rfl
theorem aS.parts {w:au}{base:Nat}{v:Value}{l:aG}(h:aS w base v l):∃A c,v= .slice A l.length c/\l.length<=c/\c<=maxLen/\(A=none->c=0)/\cG w w.heap.size A (l.map bq):=by
 obtain⟨A,c,rfl,h1,h2⟩:=ck h;refine⟨A,c,rfl,h1,h2, ?_,cG.tG h⟩;rintro rfl
 rcases h.2 with⟨hv,_⟩ | ⟨g,cap,cur,hv,_⟩
 ·injection hv
 ·cases hv

theorem wP (w:au)(base:Nat)(hb:base<=w.heap.size):(w.alloc (.cells #[] 5)).ownsRow base 5 1 (.slice (some ⟨w.heap.size,0,none⟩) 0 0) 0 []:=
 ⟨rfl,.inr ⟨w.heap.size,0, #[],rfl,hb,heap_alloc_new w _,bE _,by simp[maxLen],rfl,rfl⟩⟩
end Go.Proofs.YtahbikfbjenfpaaGreatDoor

namespace Go.Proofs.YtahbikfbjenfpaaGreatDoor
open Tryz

/-- All that was there stays. -/
abbrev ax (w w' :au):Prop:=ae w w' []

theorem cG.keeps {w w' :au}{A:Option Addr}{xs:List Value}(h:cG w w.heap.size A xs)(hk:ae w w' []):cG w' w'.heap.size A xs:=(h.below (hk.below (bE _) (by simp))).mono hk.size
theorem Row.keeps {w w' :au}{g:Nat}{t:TypeId}{cs:Array Value}(h:Row w g t cs)(hk:ae w w' []):Row w' g t cs:=h.keep hk (by simp)

section
variable {P:Program} {R:au->au->Prop} {w0:au} {ops:Array Oper} {a0:Act} {Q:List fQ->Prop} {o:Oper} {rest:List Oper} {env:List fQ}

theorem aq (h:Q env):ba P R w0 ops a0 Q [] env:=h
/-- One operation whose value is known. -/
theorem ak (v:Value)(h:∀W vals,R w0 W->knows R w0 vals (o.looksAt ops) W env->fH P R ops (fill vals env a0) o (λu _=>u=v) W)
  (hk:ba P R w0 ops a0 Q rest (af o.dst (some v) [] (λ_ _ _=>True) env)):ba P R w0 ops a0 Q (o::rest) env:=
 ⟨some v, [],_,(λ_ h=>nomatch h),h,hk⟩
/-- One operation of whose value something is known. -/
theorem bH (φ:Value->au->Prop)(h:∀W vals,R w0 W->knows R w0 vals (o.looksAt ops) W env->∀φ' :Value->au->Prop,RowKit.Hid (∀u w,φ u w->φ' u w)->fH P R ops (fill vals env a0) o φ' W)
  (hk:ba P R w0 ops a0 Q rest (af o.dst none [] (λ_=>φ) env)):ba P R w0 ops a0 Q (o::rest) env:=
 ⟨none, [],λ_=>φ,(λ_ h=>nomatch h),λW vals hW ag=>h W vals hW ag φ (zh λ_ _ h=>h),hk⟩
/-- One operation of whose value, and of what it read, something is known. -/
theorem eD (rd:List Tmp)(φ:List Value->Value->au->Prop)(cS:rd.all (dG ops o)=true)(h:∀W vals,R w0 W->knows R w0 vals (o.looksAt ops) W env->∀φ' :Value->au->Prop,RowKit.Hid (∀u w,φ (rd.map vals) u w->φ' u w)->fH P R ops (fill vals env a0) o φ' W)
  (hk:ba P R w0 ops a0 Q rest (af o.dst none rd φ env)):ba P R w0 ops a0 Q (o::rest) env:=
 ⟨none,rd,φ,λt ht=>List.all_eq_true.1 cS t ht,λW vals hW ag=>h W vals hW ag _ (zh λ_ _ h=>h),hk⟩
/-- One operation that is not wanted. -/
theorem Fs (hw:∀vals:Tmp->Value,Region.wanted o (yielded ops (fill vals env a0).tmps)=false)(hk:ba P R w0 ops a0 Q rest (af o.dst (some undef) [] (λ_ _ _=>True) env)):ba P R w0 ops a0 Q (o::rest) env:=
 ⟨some undef, [],λ_ _ _=>True,(λ_ h=>nomatch h),λW vals _ _=>⟨by rw[hw vals];exact rfl⟩,hk⟩
theorem aC {W:au}{φ:Value->au->Prop}{f:FuncId}{args:Array Value}(h:Calls P f args W (λe w'' =>∃v,e= .returned v/\ae W w'' []/\φ v w'')):
  dE P ax W φ (.ok (.enter f args) W):=⟨ae.refl _ _,h⟩
theorem wV {W:au}{φ φ' :Value->au->Prop}{f:FuncId}{args:Array Value}(hφ:RowKit.Hid (∀u w,φ u w->φ' u w))(h:Calls P f args W (λe w'' =>∃v,e= .returned v/\ae W w'' []/\φ v w'')):
  dE P ax W φ' (.ok (.enter f args) W):=⟨ae.refl _ _,h.mono λ_ _ ⟨v,he,hk,hv⟩=>⟨v,he,hk,hφ.o _ _ hv⟩⟩
theorem oy {W W' :au}{φ φ' :Value->au->Prop}{v:Value}(hφ:RowKit.Hid (∀u w,φ u w->φ' u w))(hk:ae W W' [])(h:φ v W'):dE P ax W φ' (.ok (.value v) W'):=⟨hk,hφ.o _ _ h⟩
theorem aB {id:Nat}{Q:Exit->Act->au->Prop}{a:Act}{w:au}{l:List Oper}(n:Nat)(hm:P.follows .mixedOrders=true)(hn:a.tmps.size=n)(hB:f_ n l.toArray=true)
  (h:ba P ax w l.toArray a (λenv=>∀W vals,ae w W []->aw ax w vals W env->Q .normal (fill vals env a) W) l []):(Code.region id l.toArray true).wp P Q a w:=
 ow ax w n hm hn hB (λ_=>ae.refl _ _) (λ_ _ _ h k=>h.trans k (by simp)) (ae.drew _) h
end
section
variable {P:Program} {w0:au} {ops:Array Oper} {a0:Act} {Q:List fQ->Prop} {o:Oper} {rest:List Oper} {env:List fQ}
/-- One whose value the walk finds. -/
theorem ls {v:Value}(hk:ba P ax w0 ops a0 Q rest (af o.dst (some v) [] (λ_ _ _=>True) env))
  (h:∀W vals,ax w0 W->knows ax w0 vals (o.looksAt ops) W env->fH P ax ops (fill vals env a0) o (λu _=>u=v) W:=by
   intro W vals hW ag;clear ag;refine⟨?_⟩;simp only[fill];go_simp
   first | exact⟨ae.refl _ _,rfl⟩ | exact⟨ae.alloc _ _,rfl⟩):ba P ax w0 ops a0 Q (o::rest) env:=ak v h hk
end
section
variable {P:Program} {R:au->au->Prop} {w0:au} {ops:Array Oper} {a0:Act} {Q:List fQ->Prop} {o:Oper} {rest:List Oper} {env:List fQ}
/-- One that its guard passes over. -/
theorem lo (hk:ba P R w0 ops a0 Q rest (af o.dst (some undef) [] (λ_ _ _=>True) env))(hw:∀vals:Tmp->Value,Region.wanted o (yielded ops (fill vals env a0).tmps)=false:=by intro _;kernel_rfl):ba P R w0 ops a0 Q (o::rest) env:=Fs hw hk
end
end Go.Proofs.YtahbikfbjenfpaaGreatDoor

namespace Go.Proofs.YtahbikfbjenfpaaGreatDoor
open Tryz Go.RowKit

/-- All that was there stays, but that a block from B on may turn from O1 to O2. -/
structure RO (B:Nat)(O1 O2:Obj)(w w' :au):Prop where
 os:w'.os=w.os
 tape:w'.tape=w.tape
 output:w'.output=w.output
 size:w.heap.size<=w'.heap.size
 block:∀k,k < w.heap.size->w'.heap[k]? =w.heap[k]?\/(B<=k/\w.heap[k]? =some O1/\w'.heap[k]? =some O2)
section
variable {B:Nat} {O1 O2:Obj} {w w' w'' :au}
end
section
variable {P:Program} {B:Nat} {O1 O2:Obj}
end

section
variable {P:Program} {R:au->au->Prop} {w0:au} {ops:Array Oper} {vals:Tmp->Value}

theorem mY {n n0:Nat}{lt:List Oper}{a0:Act}{c:Nat->Option Value}{rd:Nat->List Tmp}{φ:Nat->List Value->Value->au->Prop}{E:Nat->List fQ}{Q:Exit->Act->au->Prop}(htr:∀x y z,R x y->R y z->R x z)(zj:∀x,R x x)
  (hB:f_ n ops=true) (hsk:Region.sinkB .any ops n0=true) (hch:Region.chainB .any ops n0=true) (hn0:n0 < ops.size) (hlt:∀j,lt[j]? =ops[n0+j]?)
  (Oa:Region.seqB .any ops lt.length n0 ((Array.range ops.size).map λk=>decide (k < n0))=true) (KF:cN ((Array.range ops.size).map λk=>decide (k < n0))=lt.length) (hn:a0.tmps.size=n) (e0:E 0= [])
  (hs:∀k o,ops[k]? =some o->E (k+1)=af o.dst (c k) (rd k) (φ k) (E k)/\(∀t∈rd k,dG ops o t=true)/\(k < n0->∀W vals,R w0 W->knows R w0 vals (o.looksAt ops) W (E k)->fH P R ops (fill vals (E k) a0) o (cB (c k) (φ k ((rd k).map vals))) W))
  (hq:∀W vals,R w0 W->aw R w0 vals W (E n0)->wpList P ops Q lt (fill vals (E n0) a0) W):
  ∀(fuel:Nat) (listed:Array Bool) (a:Act) (W:au),cN listed=fuel->(∀t,n0<=t->t < ops.size->listed.getD t true=false)->nk R w0 ops a0 c rd φ listed a W->wpAny P .any ops Q fuel listed a W:=by
 obtain⟨b0,b1,b2,b3,b4⟩:=gB hB;have hs1:=λk o ho=>(hs k o ho).1
 have cS:=λk o ho=>(hs k o ho).2.1
 have fin:∀(listed:Array Bool) (a:Act) (W:au),nk R w0 ops a0 c rd φ listed a W->(∀t,n0<=t->t < ops.size->listed.getD t true=false)->(∀k,k < n0->listed.getD k false=true)->wpAny P .any ops Q (cN listed) listed a W:=by
  intro listed a W hI htl hall;have hle:listed=(Array.range ops.size).map λk=>decide (k < n0):=by
   refine Array.ext (by simp[hI.gy]) λk h1 h2=> ?_
   have hk:k < ops.size:=by rw[<-hI.gy];exact h1
   simp only[Array.getElem_map,Array.getElem_range]
   by_cases ag:k < n0
   ·have:=hall k ag
    simp[h1]at this;rw[this];simp[ag]
   ·have:=htl k (by omega) hk
    simp[h1]at this;rw[this];simp[ag]
  have hq:=hq W (λt=>a.tmps.getD t undef) hI.world (lA e0 hs1 n0 (by omega) (λj o t hj ho hd hc=>by
   obtain⟨v,hv,W0,h1,h2,h3⟩:=hI.on j o t ho hd (hall j hj);refine⟨W0,h1,h2, ?_⟩;have:a.tmps.getD t undef=v:=by simp[hv]
   show φ j _ (a.tmps.getD t undef) W0;rw[this]
   simpa [cB,hc]using h3) (λj o hj ho hd hc=>by
   obtain⟨u,W0,h1,h2,h3⟩:=hI.IX j o ho hd (hall j hj);exact⟨u,W0,h1,h2,by simpa [cB,hc]using h3⟩))
  have LM:fill (λt=>a.tmps.getD t undef) (E n0) a0=a:=by
   obtain⟨s1,s2⟩:=jb (vals:=λt=>a.tmps.getD t undef) (E n0) a0;have ht:(fill (λt=>a.tmps.getD t undef) (E n0) a0).tmps=a.tmps:=by
    refine xA λt=> ?_
    by_cases hd:∃(k:Nat) (o:Oper),k < n0/\ops[k]? =some o/\o.dst=some t
    ·obtain⟨k,o,hk,ho,hd⟩:=hd
     rw[gQ a0 hs1 b2 t (by rw[hn];exact b1 k o t ho hd) k o ho hd n0 (by omega) hk];obtain⟨v,hv,W0,_,_,h3⟩:=hI.on k o t ho hd (hall k hk);rw[hv]
     cases hc:c k with
     | none=>simp[hv]
     | some u=>simp[cB,hc]at h3;simp[h3]
    ·rw[fu a0 e0 hs1 t n0 (by omega) (λj o hj ho jw=>hd ⟨j,o,hj,ho,jw⟩)]
     refine(hI.off t (λk o ho jw=> ?_)).symm;have hk:n0<=k:=by
      rcases eS k n0 with h | h
      ·exact absurd ⟨k,o,h,ho,jw⟩ hd
      ·exact h
     exact getD_both (htl k hk (Array.getElem?_eq_some_iff.1 ho).1)
   have hd' :(fill (λt=>a.tmps.getD t undef) (E n0) a0).defers=a.defers:=by rw[s2,hI.defers]
   generalize fill (λt=>a.tmps.getD t undef) (E n0) a0=b at*
   obtain⟨bt,bd⟩:=b;obtain⟨at_,ad⟩:=a;simp only at ht hd';rw[ht,hd']
  rw[LM]at hq;rw[hle,KF];exact wpAny_of_seq lt n0 _ a W hlt Oa hq
 intro fuel
 induction fuel with
 | zero=>
  intro listed a W hu htl hI;rw[<-hu];refine fin listed a W hI htl λk hk=> ?_
  cases hl:listed.getD k false with
  | true=>rfl
  | false=>
   have hl' :listed.getD k true=false:=by
    have:k < listed.size:=by rw[hI.gy];omega
    simpa [this]using hl
   have:=(bu hl').1;omega
 | succ fuel ih=>
  intro listed a W hu htl hI
  by_cases hpre:∀k,k < n0->listed.getD k false=true
  ·rw[<-hu]
   exact fin listed a W hI htl hpre
  have hex:∃k,k < n0/\listed.getD k false=false:=by
   simp only[Classical.not_forall]at hpre;obtain⟨k,hk,h⟩:=hpre;exact⟨k,hk,by simpa using h⟩
  have inv:HeadInv .any ops n0 listed:=⟨hI.gy,hI.dep,htl⟩;refine⟨λhr=> ?_,λi hi=> ?_⟩
  ·exfalso
   have hall:∀m k,k < m->k < n0->listed.getD k false=true:=by
    intro m
    induction m with
    | zero=>intro k h;omega
    | succ m ih=>
     intro k hk hks
     cases hl:listed.getD k false with
     | true=>rfl
     | false=>
      exfalso
      have ho:ops[k]? =some (ops[k]'(by omega)):=lS (by omega);have hl' :listed.getD k true=false:=by
       have:k < listed.size:=by rw[hI.gy];omega
       simpa [this]using hl
      have:k∈Region.ready .any ops listed:=mem_ready.2 ⟨hl',_,ho,λe he hb=>by
       have hlt:=b3 k _ ho e he hb;exact ih e.on (by omega) (by omega)⟩
      rw[hr]at this
      cases this
   obtain⟨k,hk,h⟩:=hex;rw[hall (k+1) k (by omega) hk]at h
   cases h
  obtain⟨hl,o,ho,hall⟩:=mem_ready.1 hi;have hin:i < n0:=by
   rcases eS i n0 with h | h
   ·exact h
   ·exfalso
    obtain⟨k,hk,hkl⟩:=hex;exact tail_waits hsk hch hn0 inv (n0 - k) k rfl hk (getD_in (by rw[hI.gy];omega) hkl) i h hi
  have PN:=(bu hl).1;have hi' :i < ops.size:=(Array.getElem?_eq_some_iff.1 ho).1;have hop:=(hs i o ho).2.2 hin W (λt=>a.tmps.getD t undef) hI.world (py e0 hs1 (o.looksAt ops) i (by omega) (λj o' t hj ho' hd ht hc=>by
   obtain⟨_,e,he,hb,hon⟩:=(b4 i o t j o' ho ht ho' hd).resolve_right (λh=>absurd h.1 (by omega));obtain⟨v,hv,W0,h1,h2,h3⟩:=hI.on j o' t ho' hd (hon▸hall e he hb);refine⟨W0,h1,h2, ?_⟩;have:a.tmps.getD t undef=v:=by simp[hv]
   show φ j _ (a.tmps.getD t undef) W0;rw[this]
   simpa [cB,hc]using h3))
  have hop:=lu (a' :=a) (Region.noSelect_spec b0 i o · · ho) (λt ht=>by
   by_cases hd:∃(k:Nat) (o' :Oper),ops[k]? =some o' /\o'.dst=some t
   ·obtain⟨k,o',ho',hd⟩:=hd
    rcases b4 i o t k o' ho ht ho' hd with⟨hk,e,he,hb,hon⟩ | ⟨hk,e,he,hb,hon⟩
    case inr=>
     rw[fu a0 e0 hs1 t i (by omega) (λj o2 hj p6 jw=>by have:=b2 j k o2 o' t p6 ho' jw hd;omega)];refine(hI.off t (λk2 o2 p6 jw=> ?_)).symm;obtain rfl:=b2 k2 k o2 o' t p6 ho' jw hd
     cases hlk:listed.getD k2 false with
     | false=>rfl
     | true=>
      have:=hI.dep k2 o' ho' hlk e he hb;rw[hon]at this;have hil:listed.getD i false=false:=by
       have hi:=(bu hl).2
       simpa [hi]using hl
      rw[hil]at this
      cases this
    rw[gQ a0 hs1 b2 t (by rw[hn];exact b1 k o' t ho' hd) k o' ho' hd i (by omega) hk];obtain⟨v,hv,W0,_,_,h3⟩:=hI.on k o' t ho' hd (hon▸hall e he hb);rw[hv]
    cases hc:c k with
    | none=>simp[hv]
    | some u=>simp[cB,hc]at h3;simp[h3]
   ·rw[fu a0 e0 hs1 t i (by omega) (λj o' _ ho' jw=>hd ⟨j,o',ho',jw⟩)]
    exact(hI.off t (λk o' ho' jw=>absurd ⟨k,o',ho',jw⟩ hd)).symm) hop
  have next:∀v W',R W W' ->cB (c i) (φ i ((rd i).map λt=>a.tmps.getD t undef)) v W' ->wpAny P .any ops Q fuel (listed.setIfInBounds i true) (a.put o.dst v) W' :=λv W' hR hv=>
   ih _ _ _ (by omega) (λt ht ht' =>by rw[getD_set_ne true (by omega)];exact htl t ht ht') (qI htr zj hB cS hn hI ho hl hall v hR hv)
  unfold wpOp;simp only[ho];replace hop:=hop.out
  split
  ·rename_i hw
   simp only[hw,jF]at hop
   left
   unfold Oper.wp
   generalize (execOp a.eval o).run P W=r at*
   cases r with
   | ok x w' =>
    cases x <;> simp only[dE]at hop <;> simp only[Oper.upon]
    ·exact next _ _ hop.1 hop.2
    ·exact next _ _ hop.1 hop.2
    ·exact hop.2.mono λe w'' ⟨v,he,hR,hv⟩=>by subst he;exact next _ _ (htr _ _ _ hop.1 hR) hv
    ·exact hop.2.mono λv w'' ⟨hR,hv⟩=>next _ _ (htr _ _ _ hop.1 hR) hv
   | halt x w' =>simp only[dE]at hop
  ·rename_i hw
   simp only[hw]at hop;exact next _ _ (zj _) hop

/-- A table for the operations ahead, carried on behind them. -/
theorem kZ {a0:Act}{Q:List fQ->Prop}(n0:Nat)(l:List Oper)(hn0:n0<=l.length)(h:ba P R w0 ops a0 Q (l.take n0) []):
  ∃(E:Nat->List fQ) (c:Nat->Option Value) (rd:Nat->List Tmp) (φ:Nat->List Value->Value->au->Prop),E 0= []/\
   (∀k o,l[k]? =some o->E (k+1)=af o.dst (c k) (rd k) (φ k) (E k)/\(∀t∈rd k,dG ops o t=true)/\(k < n0->∀W vals,R w0 W->knows R w0 vals (o.looksAt ops) W (E k)->fH P R ops (fill vals (E k) a0) o (cB (c k) (φ k ((rd k).map vals))) W))/\Q (E n0):=by
 obtain⟨E,c,rd,φ,e0,hs,hq⟩:=mA _ _ h;have hlen:(l.take n0).length=n0:=by rw[dq];omega
 rw[hlen]at hq
 let more:Nat->List fQ:=λk=>Nat.rec (motive:=λ_=>List fQ) (E n0) (λj e=>af ((l[n0+j]?).bind (·.dst)) none [] (λ_ _ _=>True) e) k
 refine⟨λk=>if k<=n0 then E k else more (k - n0),λk=>if k < n0 then c k else none,λk=>if k < n0 then rd k else [],λk=>if k < n0 then φ k else λ_ _ _=>True,by simp[e0], ?_,by simp[hq]⟩;intro k o ho
 by_cases hk:k < n0
 ·have ho' :(l.take n0)[k]? =some o:=by rw[List.getElem?_take_of_lt hk];exact ho
  obtain⟨h1,h2,h3⟩:=hs k o ho';simp only[hk,jF,show k+1<=n0 from hk,show k<=n0 from kV hk];exact⟨h1,h2,λ_=>h3⟩
 ·simp only[hk,jC,show¬k+1<=n0 by omega]
  refine⟨?_,(λ_ h=>nomatch h),λh=>h.elim⟩;have hm:more (k+1 - n0)=af o.dst none [] (λ_ _ _=>True) (more (k - n0)):=by
   rw[show k+1 - n0=(k - n0)+1 by omega];show af ((l[n0+(k - n0)]?).bind (·.dst)) none [] (λ_ _ _=>True) (more (k - n0))=_;rw[show n0+(k - n0)=k by omega,ho];rfl
  rw[hm]
  by_cases hk2:k<=n0
  ·have:k=n0:=by omega
   subst this;simp only[bE,jF,Nat.sub_self];rfl
  ·simp only[hk2,jC]

theorem cE {id:Nat}{Q:Exit->Act->au->Prop}{a:Act}{w:au}{l:List Oper}(R:au->au->Prop)(n n0:Nat)(hm:P.follows .mixedOrders=true)(hn:a.tmps.size=n)
  (hB:(f_ n l.toArray && Region.sinkB .any l.toArray n0 && Region.chainB .any l.toArray n0 && decide (n0 < l.length) && Region.seqB .any l.toArray (l.drop n0).length n0 ((Array.range l.toArray.size).map λk=>decide (k < n0)) && decide (cN ((Array.range l.toArray.size).map λk=>decide (k < n0))=(l.drop n0).length))=true)
  (zj:∀x,R x x) (htr:∀x y z,R x y->R y z->R x z) (h0:R w w.drew)
  (h:ba P R w l.toArray a (λenv=>∀W vals,R w W->aw R w vals W env->wpList P l.toArray Q (l.drop n0) (fill vals env a) W) (l.take n0) []):(Code.region id l.toArray true).wp P Q a w:=by
 simp only[cR,fA]at hB;obtain⟨⟨⟨⟨⟨h1,h2⟩,h3⟩,h4⟩,h5⟩,h6⟩:=hB;obtain⟨E,c,rd,φ,e0,hs,hq⟩:=kZ n0 l (by omega) h;refine wp_region_any hm (mY (w0:=w) (n0:=n0) (lt:=l.drop n0) htr zj h1 h2 h3 (by simpa using h4) (λj=>by simp) h5 h6 hn e0 (λk o ho=>hs k o (by simpa using ho)) hq _ _ _ _ ?_ (λt ht ht' => ?_) ⟨h0,rfl,rfl,by simp,λ_ _=>rfl,λk o d ho _ hk=> ?_,λk o ho _ hk=> ?_,λk o ho hk=> ?_⟩)
 ·unfold cN
  simp
 ·simp only[oq]at ht'
  simp[ht']
 all_goals
  exfalso
  by_cases h' :k < l.length <;> simp[h']at hk
end

/-- A writer: its number, some that always come ahead of it, some that always come behind it. -/
structure Wr where
 k:Nat
 pre:List Nat
 KR:List Nat
/-- Those that always come behind an operation. -/
def js (ops:Array Oper)(j:Nat):List Nat:=
 (List.range ops.size).foldl (λacc k=>match ops[k]? with
  | some o=>if o.after.any λe=>Region.binds .any e && (e.on==j || acc.contains e.on)then k::acc else acc
  | none=>acc) []
/-- Listed whenever one behind it is. -/
theorem iX {ops:Array Oper}{listed:Array Bool}(LO:∀k o,ops[k]? =some o->listed.getD k false=true->∀e∈o.after,Region.binds .any e=true->listed.getD e.on false=true)(j:Nat):
  ∀k,k∈js ops j->listed.getD k false=true->listed.getD j false=true:=by
 unfold js
 suffices h:∀(l acc:List Nat),(∀k∈acc,listed.getD k false=true->listed.getD j false=true)->∀k∈l.foldl (λacc k=>match ops[k]? with
  | some o=>if o.after.any λe=>Region.binds .any e && (e.on==j || acc.contains e.on)then k::acc else acc
  | none=>acc) acc,listed.getD k false=true->listed.getD j false=true from h _ [] (λ_ h=>nomatch h)
 intro l
 induction l with
 | nil=>intro acc h;exact h
 | cons a l ih=>
  intro acc h;refine ih _ λk hk hl=> ?_
  cases ho:ops[a]? with
  | none=>simp only[ho]at hk;exact h k hk hl
  | some o=>
   simp only[ho]at hk
   split at hk
   ·rename_i hany
    rcases List.mem_cons.1 hk with rfl | hk
    ·obtain⟨e,he,hb⟩:=Array.any_eq_true'.1 hany
     simp only[cR,kW,kX,List.contains_iff_mem]at hb;have hd:=LO k o ho hl e he hb.1
     rcases hb.2 with h2 | h2
     ·exact h2▸hd
     ·exact h _ h2 hd
    ·exact h k hk hl
   ·exact h k hk hl
def Kw (ops:Array Oper)(Ws:List Wr):Bool:=Ws.all λw=>w.pre.all (λj=>(js ops j).contains w.k && j !=w.k) && w.KR.all (λj=>(js ops w.k).contains j && j !=w.k)
section
variable (Ws:List Wr) (C:au->au->Prop) (A:Nat->au->au->Prop)
/-- What an operation does. -/
structure jd (k:Nat)(w w' :au):Prop where
 c:C w w'
 a:∀x∈Ws,x.k≠k->A x.k w w'
/-- What may have come ahead of an operation. -/
structure j0 (k:Nat)(w w' :au):Prop where
 c:C w w'
 a:∀x∈Ws,x.k=k\/k∈x.pre->A x.k w w'
/-- What may have come when an operation is through. -/
structure zN (j:Nat)(w w' :au):Prop where
 c:C w w'
 a:∀x∈Ws,j∈x.pre->A x.k w w'
/-- What may have come between two operations. -/
structure B_ (j k:Nat)(w w' :au):Prop where
 c:C w w'
 a:∀x∈Ws,x.k=j\/j∈x.KR\/x.k=k\/k∈x.pre->A x.k w w'
/-- What may come behind an operation. -/
structure qL (j:Nat)(w w' :au):Prop where
 c:C w w'
 a:∀x∈Ws,x.k=j\/j∈x.KR->A x.k w w'
structure zI:Prop where
 cr:∀x,C x x
 ct:∀x y z,C x y->C y z->C x z
 ar:∀i x,A i x x
 at_:∀i x y z,A i x y->A i y z->A i x z
end
section
variable (P:Program) (Ws:List Wr) (C:au->au->Prop) (A:Nat->au->au->Prop) (w0:au) (ops:Array Oper) (vals:Tmp->Value)
def aR (k:Nat)(rs:List Tmp)(W:au):List fQ->Prop
 | []=>True
 | ⟨_,some _,_,_⟩::l=>aR k rs W l
 | ⟨none,none,_,_⟩::l=>aR k rs W l
 | ⟨some t,none,rd,φ⟩::l=>(t∈rs->∃W0,zN Ws C A l.length w0 W0/\B_ Ws C A l.length k W0 W/\φ (rd.map vals) (vals t) W0)/\aR k rs W l

def df (W:au):List fQ->Prop
 | []=>True
 | ⟨_,some _,_,_⟩::l=>df W l
 | ⟨none,none,rd,φ⟩::l=>(∃u W0,zN Ws C A l.length w0 W0/\qL Ws C A l.length W0 W/\φ (rd.map vals) u W0)/\df W l
 | ⟨some t,none,rd,φ⟩::l=>(∃W0,zN Ws C A l.length w0 W0/\qL Ws C A l.length W0 W/\φ (rd.map vals) (vals t) W0)/\df W l

def gJ (a0:Act)(Q:List fQ->Prop):List Oper->List fQ->Prop
 | [],env=>Q env
 | o::rest,env=>∃c rd φ,(∀t∈rd,dG ops o t=true)/\(∀W vals,j0 Ws C A env.length w0 W->aR Ws C A w0 vals env.length (o.looksAt ops++rd) W env->fH P (jd Ws C A env.length) ops (fill vals env a0) o (cB c (φ (rd.map vals))) W)/\gJ a0 Q rest (af o.dst c rd φ env)
end

section
variable {P:Program} {Ws:List Wr} {C:au->au->Prop} {A:Nat->au->au->Prop} {w0:au} {ops:Array Oper} {vals:Tmp->Value}
/-- The lexical walk's findings, told by number. -/
theorem oM {a0:Act}{Q:List fQ->Prop}:∀(l:List Oper) (env:List fQ),gJ P Ws C A w0 ops a0 Q l env->
  ∃(E:Nat->List fQ) (c:Nat->Option Value) (rd:Nat->List Tmp) (φ:Nat->List Value->Value->au->Prop),E 0=env/\
   (∀k o,l[k]? =some o->E (k+1)=af o.dst (c k) (rd k) (φ k) (E k)/\(∀t∈rd k,dG ops o t=true)/\∀W vals,j0 Ws C A (env.length+k) w0 W->aR Ws C A w0 vals (env.length+k) (o.looksAt ops++rd k) W (E k)->fH P (jd Ws C A (env.length+k)) ops (fill vals (E k) a0) o (cB (c k) (φ k ((rd k).map vals))) W)/\Q (E l.length)
 | [],env,h=>⟨λ_=>env,λ_=>none,λ_=> [],λ_ _ _ _=>True,rfl,λk o ho=>by simp at ho,h⟩
 | o::rest,env,h=>by
  obtain⟨c,rd,φ,h0,h1,h2⟩:=h;obtain⟨E,c',Lf,φ',e0,hs,hq⟩:=oM rest _ h2;refine⟨λ| 0=>env | k+1=>E k,λ| 0=>c | k+1=>c' k,λ| 0=>rd | k+1=>Lf k,λ| 0=>φ | k+1=>φ' k,rfl, ?_,hq⟩;intro k o' ho'
  cases k with
  | zero=>
   simp only[bU,kY]at ho';subst ho';exact⟨e0,h0,h1⟩
  | succ k=>
   have h3:=hs k o' (by simpa using ho');have e:(af o.dst c rd φ env).length+k=env.length+(k+1):=by simp[af];omega
   rw[e]at h3;exact h3

theorem nX {E:Nat->List fQ}{c:Nat->Option Value}{rd:Nat->List Tmp}{φ:Nat->List Value->Value->au->Prop}(e0:E 0= []){W:au}{i:Nat}(hl:∀k,k<=ops.size->(E k).length=k)
  (hs:∀k o,ops[k]? =some o->E (k+1)=af o.dst (c k) (rd k) (φ k) (E k)) (rs:List Tmp):∀k,k<=ops.size->(∀j o t,j < k->ops[j]? =some o->o.dst=some t->t∈rs->c j=none->∃W0,zN Ws C A j w0 W0/\B_ Ws C A j i W0 W/\φ j ((rd j).map vals) (vals t) W0)->aR Ws C A w0 vals i rs W (E k)
 | 0,_,_=>by rw[e0];trivial
 | k+1,hk,h=>by
  have ih:=nX e0 hl hs rs k (by omega) (λj o t hj=>h j o t (by omega));have hok:ops[k]? =some ops[k]:=lS (by omega);rw[hs k _ hok];unfold af
  cases Cb:ops[k].dst with
  | none=>cases hc:c k <;> exact ih
  | some d' =>
   cases hc:c k with
   | some v=>exact ih
   | none=>exact⟨λhm=>by rw[hl k (by omega)];exact h k _ d' (by omega) hok Cb hm hc,ih⟩
theorem oA {E:Nat->List fQ}{c:Nat->Option Value}{rd:Nat->List Tmp}{φ:Nat->List Value->Value->au->Prop}(e0:E 0= []){W:au}(hl:∀k,k<=ops.size->(E k).length=k)
  (hs:∀k o,ops[k]? =some o->E (k+1)=af o.dst (c k) (rd k) (φ k) (E k)):∀k,k<=ops.size->(∀j o t,j < k->ops[j]? =some o->o.dst=some t->c j=none->∃W0,zN Ws C A j w0 W0/\qL Ws C A j W0 W/\φ j ((rd j).map vals) (vals t) W0)->
  (∀j o,j < k->ops[j]? =some o->o.dst=none->c j=none->∃u W0,zN Ws C A j w0 W0/\qL Ws C A j W0 W/\φ j ((rd j).map vals) u W0)->df Ws C A w0 vals W (E k)
 | 0,_,_,_=>by rw[e0];trivial
 | k+1,hk,h,hn=>by
  have ih:=oA e0 hl hs k (by omega) (λj o t hj=>h j o t (by omega)) (λj o hj=>hn j o (by omega));have hok:ops[k]? =some ops[k]:=lS (by omega);rw[hs k _ hok];unfold af
  cases Cb:ops[k].dst with
  | none=>
   cases hc:c k with
   | some v=>exact ih
   | none=>exact⟨by rw[hl k (by omega)];exact hn k _ (by omega) hok Cb hc,ih⟩
  | some d' =>
   cases hc:c k with
   | some v=>exact ih
   | none=>exact⟨by rw[hl k (by omega)];exact h k _ d' (by omega) hok Cb hc,ih⟩

/-- What stands while the region runs. -/
structure nj (Ws:List Wr)(C:au->au->Prop)(A:Nat->au->au->Prop)(w0:au)(ops:Array Oper)(a0:Act)(c:Nat->Option Value)(rd:Nat->List Tmp)(φ:Nat->List Value->Value->au->Prop)(listed:Array Bool)(a:Act)(W:au):Prop where
 world:C w0 W
 nD:∀x∈Ws,listed.getD x.k false=false->A x.k w0 W
 defers:a.defers=a0.defers
 size:a.tmps.size=a0.tmps.size
 gy:listed.size=ops.size
 off:∀t,(∀k o,ops[k]? =some o->o.dst=some t->listed.getD k false=false)->a.tmps[t]? =a0.tmps[t]?
 on:∀k o d,ops[k]? =some o->o.dst=some d->listed.getD k false=true->∃v,a.tmps[d]? =some v/\∃W0,zN Ws C A k w0 W0/\C W0 W/\(∀x∈Ws,x.k=k\/k∈x.KR\/listed.getD x.k false=false->A x.k W0 W)/\cB (c k) (φ k ((rd k).map λt=>a.tmps.getD t undef)) v W0
 IX:∀k o,ops[k]? =some o->o.dst=none->listed.getD k false=true->∃u W0,zN Ws C A k w0 W0/\C W0 W/\(∀x∈Ws,x.k=k\/k∈x.KR\/listed.getD x.k false=false->A x.k W0 W)/\cB (c k) (φ k ((rd k).map λt=>a.tmps.getD t undef)) u W0
 dep:∀k o,ops[k]? =some o->listed.getD k false=true->∀e∈o.after,Region.binds .any e=true->listed.getD e.on false=true

theorem yu (h:Kw ops Ws=true){x:Wr}(hx:x∈Ws){j:Nat}(hj:j∈x.pre):x.k∈js ops j/\j≠x.k:=by
 have:=List.all_eq_true.1 h x hx;simp only[cR]at this;have:=List.all_eq_true.1 this.1 j hj
 simpa using this
theorem Jk (h:Kw ops Ws=true){x:Wr}(hx:x∈Ws){j:Nat}(hj:j∈x.KR):j∈js ops x.k/\j≠x.k:=by
 have:=List.all_eq_true.1 h x hx;simp only[cR]at this;have:=List.all_eq_true.1 this.2 j hj
 simpa using this

theorem pj {n:Nat}{a0:Act}{c:Nat->Option Value}{rd:Nat->List Tmp}{φ:Nat->List Value->Value->au->Prop}{listed:Array Bool}{a:Act}{W W' :au}(hF:zI C A)(rA:Kw ops Ws=true)
  (hB:f_ n ops=true) (cS:∀k o,ops[k]? =some o->∀t∈rd k,dG ops o t=true) (hn:a0.tmps.size=n) (hI:nj Ws C A w0 ops a0 c rd φ listed a W) {i:Nat} {o:Oper} (ho:ops[i]? =some o) (hl:listed.getD i true=false) (hall:∀e∈o.after,Region.binds .any e=true->listed.getD e.on false=true) (v:Value) (Dz:jd Ws C A i W W') (hv:cB (c i) (φ i ((rd i).map λt=>a.tmps.getD t undef)) v W'):
  nj Ws C A w0 ops a0 c rd φ (listed.setIfInBounds i true) (a.put o.dst v) W' :=by
 obtain⟨_,b1,b2,b3,b4⟩:=gB hB;have hil:listed.getD i false=false:=by
  have hi:=(bu hl).2
  simpa [hi]using hl
 have Hb:i < listed.size:=(bu hl).2;have hset:(listed.setIfInBounds i true).getD i false=true:=by simp[Hb]
 have Bu:∀m,(listed.setIfInBounds i true).getD m false=false->m≠i/\listed.getD m false=false:=by
  intro m hm
  by_cases zk:i=m
  ·subst zk;rw[hset]at hm;cases hm
  ·rw[getD_set_ne _ zk]at hm;exact⟨λe=>zk e.symm,hm⟩
 -- what an operation that is listed reads stays
 have keep:∀k o',ops[k]? =some o' ->(k=i\/listed.getD k false=true)->((rd k).map λt=>(a.put o.dst v).tmps.getD t undef)=(rd k).map λt=>a.tmps.getD t undef:=by
  intro k o' ho' hk;refine zX λt ht=> ?_
  replace ht:=cS k o' ho' t ht
  cases hd:o.dst with
  | none=>rfl
  | some d=>
   have hne:d≠t:=by
    rintro rfl;obtain⟨e,he,hb,hon⟩:=h_ ht ho hd
    rcases hk with rfl | hk
    ·rw[ho]at ho'
     injection ho' with ho'
     subst ho';have:=hall e he hb;rw[hon,hil]at this
     cases this
    ·have:=hI.dep k o' ho' hk e he hb
     rw[hon,hil]at this
     cases this
   have:=fq (a:=a) (v:=v) hne;simp only[ou,this]
 have Ao:∀(k:Nat) (W0:au),i≠k->listed.getD k false=true->(∀x∈Ws,x.k=k\/k∈x.KR\/listed.getD x.k false=false->A x.k W0 W)->∀x∈Ws,x.k=k\/k∈x.KR\/(listed.setIfInBounds i true).getD x.k false=false->A x.k W0 W' :=by
  intro k W0 hik hk h x hx hc;have hne:x.k≠i:=by
   rintro rfl
   rcases hc with hc | hc | hc
   ·exact hik hc
   ·have:=iX hI.dep x.k k (Jk rA hx hc).1 hk
    rw[hil]at this
    cases this
   ·rw[hset]at hc;cases hc
  refine hF.at_ _ _ _ _ (h x hx ?_) (Dz.a x hx hne)
  rcases hc with hc | hc | hc
  ·exact .inl hc
  ·exact .inr (.inl hc)
  ·exact .inr (.inr (Bu _ hc).2)
 have Ih:zN Ws C A i w0 W' :=by
  refine⟨hF.ct _ _ _ hI.world Dz.c,λx hx hp=> ?_⟩;obtain⟨h1,h2⟩:=yu rA hx hp;refine hF.at_ _ _ _ _ (hI.nD x hx ?_) (Dz.a x hx h2.symm)
  cases Ok:listed.getD x.k false with
  | false=>rfl
  | true=>
   have:=iX hI.dep i x.k h1 Ok;rw[hil]at this
   cases this
 refine⟨hF.ct _ _ _ hI.world Dz.c,λx hx hu=> ?_,by rw[o5,hI.defers],by rw[oZ,hI.size],by simp[hI.gy], ?_, ?_, ?_, ?_⟩
 ·obtain⟨h1,h2⟩:=Bu _ hu
  exact hF.at_ _ _ _ _ (hI.nD x hx h2) (Dz.a x hx h1)
 ·intro t h
  have hne:o.dst≠some t:=λhd=>by
   have:=h i o ho hd;have hi:=(bu hl).2;simp[hi]at this
  have e:(a.put o.dst v).tmps[t]? =a.tmps[t]? :=by
   cases hd:o.dst with
   | none=>rfl
   | some d=>exact fq (λe=>hne (by rw[hd,e]))
  rw[e];refine hI.off t (λk o' ho' hd' => ?_);have:=h k o' ho' hd';have hki:i≠k:=λe=>by subst e;rw[ho]at ho';injection ho' with ho';subst ho';exact hne hd'
  rwa [getD_set_ne _ hki]at this
 ·intro k o' d ho' hd' hk
  by_cases hki:i=k
  ·subst hki
   rw[ho]at ho';injection ho' with ho'
   subst ho';rw[keep i o ho (.inl rfl)];rw[hd'];exact⟨v,nN (by rw[hI.size,hn];exact b1 i o d ho hd'),W',Ih,hF.cr _,λ_ _ _=>hF.ar _ _,hv⟩
  ·rw[getD_set_ne _ hki]at hk
   have wZ:=hk;obtain⟨u,hu,W0,h1,h2,h4,h3⟩:=hI.on k o' d ho' hd' hk;rw[keep k o' ho' (.inr hk)];refine⟨u, ?_,W0,h1,hF.ct _ _ _ h2 Dz.c,Ao k W0 hki wZ h4,h3⟩
   cases hd:o.dst with
   | none=>exact hu
   | some d2=>
    rw[fq (λe=>hki (b2 i k o o' d ho ho' (by rw[hd,e]) hd'))];exact hu
 ·intro k o' ho' hd' hk
  by_cases hki:i=k
  ·subst hki
   rw[ho]at ho';injection ho' with ho'
   subst ho';rw[keep i o ho (.inl rfl)];exact⟨v,W',Ih,hF.cr _,λ_ _ _=>hF.ar _ _,hv⟩
  ·rw[getD_set_ne _ hki]at hk
   obtain⟨u,W0,h1,h2,h4,h3⟩:=hI.IX k o' ho' hd' hk;rw[keep k o' ho' (.inr hk)];exact⟨u,W0,h1,hF.ct _ _ _ h2 Dz.c,Ao k W0 hki hk h4,h3⟩
 ·intro k o' ho' hk e he hb
  have hmono:∀m,listed.getD m false=true->(listed.setIfInBounds i true).getD m false=true:=by
   intro m hm
   by_cases zk:i=m
   ·subst zk
    rw[hil]at hm
    cases hm
   ·rw[getD_set_ne _ zk];exact hm
  by_cases hki:i=k
  ·subst hki
   rw[ho]at ho';injection ho' with ho'
   subst ho';exact hmono _ (hall e he hb)
  ·rw[getD_set_ne _ hki]at hk
   exact hmono _ (hI.dep k o' ho' hk e he hb)

theorem sB {n n0:Nat}{lt:List Oper}{a0:Act}{c:Nat->Option Value}{rd:Nat->List Tmp}{φ:Nat->List Value->Value->au->Prop}{E:Nat->List fQ}{Q:Exit->Act->au->Prop}(hF:zI C A)(rA:Kw ops Ws=true)
  (hB:f_ n ops=true) (hsc:n0 < ops.size->Region.sinkB .any ops n0=true/\Region.chainB .any ops n0=true) (hn0:n0<=ops.size) (hlt:∀j,lt[j]? =ops[n0+j]?)
  (Oa:Region.seqB .any ops lt.length n0 ((Array.range ops.size).map λk=>decide (k < n0))=true) (KF:cN ((Array.range ops.size).map λk=>decide (k < n0))=lt.length) (hn:a0.tmps.size=n) (e0:E 0= [])
  (hlen:∀k,k<=ops.size->(E k).length=k)
  (hs:∀k o,ops[k]? =some o->E (k+1)=af o.dst (c k) (rd k) (φ k) (E k)/\(∀t∈rd k,dG ops o t=true)/\(k < n0->∀W vals,j0 Ws C A k w0 W->aR Ws C A w0 vals k (o.looksAt ops++rd k) W (E k)->fH P (jd Ws C A k) ops (fill vals (E k) a0) o (cB (c k) (φ k ((rd k).map vals))) W))
  (hq:∀W vals,C w0 W->df Ws C A w0 vals W (E n0)->wpList P ops Q lt (fill vals (E n0) a0) W):
  ∀(fuel:Nat) (listed:Array Bool) (a:Act) (W:au),cN listed=fuel->(∀t,n0<=t->t < ops.size->listed.getD t true=false)->nj Ws C A w0 ops a0 c rd φ listed a W->wpAny P .any ops Q fuel listed a W:=by
 obtain⟨b0,b1,b2,b3,b4⟩:=gB hB;have hs1:=λk o ho=>(hs k o ho).1
 have cS:=λk o ho=>(hs k o ho).2.1
 have fin:∀(listed:Array Bool) (a:Act) (W:au),nj Ws C A w0 ops a0 c rd φ listed a W->(∀t,n0<=t->t < ops.size->listed.getD t true=false)->(∀k,k < n0->listed.getD k false=true)->wpAny P .any ops Q (cN listed) listed a W:=by
  intro listed a W hI htl hall;have hle:listed=(Array.range ops.size).map λk=>decide (k < n0):=by
   refine Array.ext (by simp[hI.gy]) λk h1 h2=> ?_
   have hk:k < ops.size:=by rw[<-hI.gy];exact h1
   simp only[Array.getElem_map,Array.getElem_range]
   by_cases ag:k < n0
   ·have:=hall k ag
    simp[h1]at this;rw[this];simp[ag]
   ·have:=htl k (by omega) hk
    simp[h1]at this;rw[this];simp[ag]
  have hq:=hq W (λt=>a.tmps.getD t undef) hI.world (oA e0 hlen hs1 n0 (by omega) (λj o t hj ho hd hc=>by
   obtain⟨v,hv,W0,h1,h2,h4,h3⟩:=hI.on j o t ho hd (hall j hj);refine⟨W0,h1,⟨h2,λx hx hc=>h4 x hx (by rcases hc with hc | hc;exact .inl hc;exact .inr (.inl hc))⟩, ?_⟩;have:a.tmps.getD t undef=v:=by simp[hv]
   show φ j _ (a.tmps.getD t undef) W0;rw[this]
   simpa [cB,hc]using h3) (λj o hj ho hd hc=>by
   obtain⟨u,W0,h1,h2,h4,h3⟩:=hI.IX j o ho hd (hall j hj);exact⟨u,W0,h1,⟨h2,λx hx hc=>h4 x hx (by rcases hc with hc | hc;exact .inl hc;exact .inr (.inl hc))⟩,by simpa [cB,hc]using h3⟩))
  have LM:fill (λt=>a.tmps.getD t undef) (E n0) a0=a:=by
   obtain⟨s1,s2⟩:=jb (vals:=λt=>a.tmps.getD t undef) (E n0) a0;have ht:(fill (λt=>a.tmps.getD t undef) (E n0) a0).tmps=a.tmps:=by
    refine xA λt=> ?_
    by_cases hd:∃(k:Nat) (o:Oper),k < n0/\ops[k]? =some o/\o.dst=some t
    ·obtain⟨k,o,hk,ho,hd⟩:=hd
     rw[gQ a0 hs1 b2 t (by rw[hn];exact b1 k o t ho hd) k o ho hd n0 (by omega) hk];obtain⟨v,hv,W0,_,_,_,h3⟩:=hI.on k o t ho hd (hall k hk);rw[hv]
     cases hc:c k with
     | none=>simp[hv]
     | some u=>simp[cB,hc]at h3;simp[h3]
    ·rw[fu a0 e0 hs1 t n0 (by omega) (λj o hj ho jw=>hd ⟨j,o,hj,ho,jw⟩)]
     refine(hI.off t (λk o ho jw=> ?_)).symm;have hk:n0<=k:=by
      rcases eS k n0 with h | h
      ·exact absurd ⟨k,o,h,ho,jw⟩ hd
      ·exact h
     exact getD_both (htl k hk (Array.getElem?_eq_some_iff.1 ho).1)
   have hd' :(fill (λt=>a.tmps.getD t undef) (E n0) a0).defers=a.defers:=by rw[s2,hI.defers]
   generalize fill (λt=>a.tmps.getD t undef) (E n0) a0=b at*
   obtain⟨bt,bd⟩:=b;obtain⟨at_,ad⟩:=a;simp only at ht hd';rw[ht,hd']
  rw[LM]at hq;rw[hle,KF];exact wpAny_of_seq lt n0 _ a W hlt Oa hq
 intro fuel
 induction fuel with
 | zero=>
  intro listed a W hu htl hI;rw[<-hu];refine fin listed a W hI htl λk hk=> ?_
  cases hl:listed.getD k false with
  | true=>rfl
  | false=>
   have hl' :listed.getD k true=false:=by
    have:k < listed.size:=by rw[hI.gy];omega
    simpa [this]using hl
   have:=(bu hl').1;omega
 | succ fuel ih=>
  intro listed a W hu htl hI
  by_cases hpre:∀k,k < n0->listed.getD k false=true
  ·rw[<-hu]
   exact fin listed a W hI htl hpre
  have hex:∃k,k < n0/\listed.getD k false=false:=by
   simp only[Classical.not_forall]at hpre;obtain⟨k,hk,h⟩:=hpre;exact⟨k,hk,by simpa using h⟩
  have inv:HeadInv .any ops n0 listed:=⟨hI.gy,hI.dep,htl⟩;refine⟨λhr=> ?_,λi hi=> ?_⟩
  ·exfalso
   have hall:∀m k,k < m->k < n0->listed.getD k false=true:=by
    intro m
    induction m with
    | zero=>intro k h;omega
    | succ m ih=>
     intro k hk hks
     cases hl:listed.getD k false with
     | true=>rfl
     | false=>
      exfalso
      have ho:ops[k]? =some (ops[k]'(by omega)):=lS (by omega);have hl' :listed.getD k true=false:=by
       have:k < listed.size:=by rw[hI.gy];omega
       simpa [this]using hl
      have:k∈Region.ready .any ops listed:=mem_ready.2 ⟨hl',_,ho,λe he hb=>by
       have hlt:=b3 k _ ho e he hb;exact ih e.on (by omega) (by omega)⟩
      rw[hr]at this
      cases this
   obtain⟨k,hk,h⟩:=hex;rw[hall (k+1) k (by omega) hk]at h
   cases h
  obtain⟨hl,o,ho,hall⟩:=mem_ready.1 hi;have hin:i < n0:=by
   rcases eS i n0 with h | h
   ·exact h
   ·exfalso
    obtain⟨k,hk,hkl⟩:=hex;have hlt:=zZ h (Array.getElem?_eq_some_iff.1 ho).1;exact tail_waits (hsc hlt).1 (hsc hlt).2 hlt inv (n0 - k) k rfl hk (getD_in (by rw[hI.gy];omega) hkl) i h hi
  have PN:=(bu hl).1;have hi' :i < ops.size:=(Array.getElem?_eq_some_iff.1 ho).1;have hil:listed.getD i false=false:=by
   have hi:=(bu hl).2
   simpa [hi]using hl
  have M_:∀x∈Ws,x.k=i\/i∈x.pre->listed.getD x.k false=false:=by
   rintro x hx (hc | hc)
   ·rw[hc];exact hil
   ·cases Ok:listed.getD x.k false with
    | false=>rfl
    | true=>
     have:=iX hI.dep i x.k (yu rA hx hc).1 Ok;rw[hil]at this
     cases this
  have hop:=(hs i o ho).2.2 hin W (λt=>a.tmps.getD t undef) ⟨hI.world,λx hx hc=>hI.nD x hx (M_ x hx hc)⟩ (nX e0 hlen hs1 (o.looksAt ops++rd i) i (by omega) (λj o' t hj ho' hd ht hc=>by
   obtain⟨e,he,hb,hon⟩:∃e∈o.after,Region.binds .any e=true/\e.on=j:=by
    rcases List.mem_append.1 ht with ht | ht
    ·obtain⟨_,e,he,hb,hon⟩:=(b4 i o t j o' ho ht ho' hd).resolve_right (λh=>absurd h.1 (by omega))
     exact⟨e,he,hb,hon⟩
    ·exact h_ (cS i o ho t ht) ho' hd
   obtain⟨v,hv,W0,h1,h2,h4,h3⟩:=hI.on j o' t ho' hd (hon▸hall e he hb);refine⟨W0,h1,⟨h2,λx hx hc=>h4 x hx (by
    rcases hc with hc | hc | hc
    ·exact .inl hc
    ·exact .inr (.inl hc)
    ·exact .inr (.inr (M_ x hx hc)))⟩, ?_⟩
   have:a.tmps.getD t undef=v:=by simp[hv]
   show φ j _ (a.tmps.getD t undef) W0;rw[this]
   simpa [cB,hc]using h3))
  have hop:=lu (a' :=a) (Region.noSelect_spec b0 i o · · ho) (λt ht=>by
   by_cases hd:∃(k:Nat) (o' :Oper),ops[k]? =some o' /\o'.dst=some t
   ·obtain⟨k,o',ho',hd⟩:=hd
    rcases b4 i o t k o' ho ht ho' hd with⟨hk,e,he,hb,hon⟩ | ⟨hk,e,he,hb,hon⟩
    case inr=>
     rw[fu a0 e0 hs1 t i (by omega) (λj o2 hj p6 jw=>by have:=b2 j k o2 o' t p6 ho' jw hd;omega)];refine(hI.off t (λk2 o2 p6 jw=> ?_)).symm;obtain rfl:=b2 k2 k o2 o' t p6 ho' jw hd
     cases hlk:listed.getD k2 false with
     | false=>rfl
     | true=>
      have:=hI.dep k2 o' ho' hlk e he hb;rw[hon]at this;have hil:listed.getD i false=false:=by
       have hi:=(bu hl).2
       simpa [hi]using hl
      rw[hil]at this
      cases this
    rw[gQ a0 hs1 b2 t (by rw[hn];exact b1 k o' t ho' hd) k o' ho' hd i (by omega) hk];obtain⟨v,hv,W0,_,_,_,h3⟩:=hI.on k o' t ho' hd (hon▸hall e he hb);rw[hv]
    cases hc:c k with
    | none=>simp[hv]
    | some u=>simp[cB,hc]at h3;simp[h3]
   ·rw[fu a0 e0 hs1 t i (by omega) (λj o' _ ho' jw=>hd ⟨j,o',ho',jw⟩)]
    exact(hI.off t (λk o' ho' jw=>absurd ⟨k,o',ho',jw⟩ hd)).symm) hop
  have next:∀v W',jd Ws C A i W W' ->cB (c i) (φ i ((rd i).map λt=>a.tmps.getD t undef)) v W' ->wpAny P .any ops Q fuel (listed.setIfInBounds i true) (a.put o.dst v) W' :=λv W' hR hv=>
   ih _ _ _ (by omega) (λt ht ht' =>by rw[getD_set_ne true (by omega)];exact htl t ht ht') (pj hF rA hB cS hn hI ho hl hall v hR hv)
  have tr:∀x y z,jd Ws C A i x y->jd Ws C A i y z->jd Ws C A i x z:=λx y z h k=>⟨hF.ct _ _ _ h.c k.c,λu hu hne=>hF.at_ _ _ _ _ (h.a u hu hne) (k.a u hu hne)⟩
  unfold wpOp;simp only[ho];replace hop:=hop.out
  split
  ·rename_i hw
   simp only[hw,jF]at hop
   left
   unfold Oper.wp
   generalize (execOp a.eval o).run P W=r at*
   cases r with
   | ok x w' =>
    cases x <;> simp only[dE]at hop <;> simp only[Oper.upon]
    ·exact next _ _ hop.1 hop.2
    ·exact next _ _ hop.1 hop.2
    ·exact hop.2.mono λe w'' ⟨v,he,hR,hv⟩=>by subst he;exact next _ _ (tr _ _ _ hop.1 hR) hv
    ·exact hop.2.mono λv w'' ⟨hR,hv⟩=>next _ _ (tr _ _ _ hop.1 hR) hv
   | halt x w' =>simp only[dE]at hop
  ·rename_i hw
   simp only[hw]at hop;exact next _ _ ⟨hF.cr _,λ_ _ _=>hF.ar _ _⟩ hop

/-- A table for the operations ahead, carried on behind them. -/
theorem qm {a0:Act}{Q:List fQ->Prop}(n0:Nat)(l:List Oper)(hn0:n0<=l.length)(h:gJ P Ws C A w0 ops a0 Q (l.take n0) []):
  ∃(E:Nat->List fQ) (c:Nat->Option Value) (rd:Nat->List Tmp) (φ:Nat->List Value->Value->au->Prop),E 0= []/\(∀k,k<=l.length->(E k).length=k)/\
   (∀k o,l[k]? =some o->E (k+1)=af o.dst (c k) (rd k) (φ k) (E k)/\(∀t∈rd k,dG ops o t=true)/\(k < n0->∀W vals,j0 Ws C A k w0 W->aR Ws C A w0 vals k (o.looksAt ops++rd k) W (E k)->fH P (jd Ws C A k) ops (fill vals (E k) a0) o (cB (c k) (φ k ((rd k).map vals))) W))/\Q (E n0):=by
 obtain⟨E,c,rd,φ,e0,hs,hq⟩:=oM _ _ h;have hlen:(l.take n0).length=n0:=by rw[dq];omega
 rw[hlen]at hq
 let more:Nat->List fQ:=λk=>Nat.rec (motive:=λ_=>List fQ) (E n0) (λj e=>af ((l[n0+j]?).bind (·.dst)) none [] (λ_ _ _=>True) e) k
 refine⟨λk=>if k<=n0 then E k else more (k - n0),λk=>if k < n0 then c k else none,λk=>if k < n0 then rd k else [],λk=>if k < n0 then φ k else λ_ _ _=>True,by simp[e0], ?len, ?_,by simp[hq]⟩
 case len=>
  have h1:∀k,k<=n0->(E k).length=k:=by
   intro k
   induction k with
   | zero=>intro _;rw[e0];rfl
   | succ k ih=>
    intro hk;have ho:(l.take n0)[k]? =some ((l.take n0)[k]'(by omega)):=rE (by omega);rw[(hs k _ ho).1];simp[af,ih (by omega)]
  have h2:∀k,(more k).length=n0+k:=by
   intro k
   induction k with
   | zero=>exact h1 n0 (bE _)
   | succ k ih=>
    show(af _ _ _ _ (more k)).length=_;simp[af,ih];omega
  intro k hk
  by_cases ag:k<=n0
  ·simp only[ag,jF];exact h1 k ag
  ·simp only[ag,jC];rw[h2];omega
 intro k o ho
 by_cases hk:k < n0
 ·have ho' :(l.take n0)[k]? =some o:=by rw[List.getElem?_take_of_lt hk];exact ho
  obtain⟨h1,h2,h3⟩:=hs k o ho';simp only[dR,iP]at h3;simp only[hk,jF,show k+1<=n0 from hk,show k<=n0 from kV hk];exact⟨h1,h2,λ_=>h3⟩
 ·simp only[hk,jC,show¬k+1<=n0 by omega]
  refine⟨?_,(λ_ h=>nomatch h),λh=>h.elim⟩;have hm:more (k+1 - n0)=af o.dst none [] (λ_ _ _=>True) (more (k - n0)):=by
   rw[show k+1 - n0=(k - n0)+1 by omega];show af ((l[n0+(k - n0)]?).bind (·.dst)) none [] (λ_ _ _=>True) (more (k - n0))=_;rw[show n0+(k - n0)=k by omega,ho];rfl
  rw[hm]
  by_cases hk2:k<=n0
  ·have:k=n0:=by omega
   subst this;simp only[bE,jF,Nat.sub_self];rfl
  ·simp only[hk2,jC]

theorem rF {id:Nat}{Q:Exit->Act->au->Prop}{a:Act}{w:au}{l:List Oper}(Ws:List Wr)(C:au->au->Prop)(A:Nat->au->au->Prop)(n n0:Nat)(hF:zI C A)(hm:P.follows .mixedOrders=true)(hn:a.tmps.size=n)
  (hB:(f_ n l.toArray && Kw l.toArray Ws && (decide (n0=l.length) || Region.sinkB .any l.toArray n0 && Region.chainB .any l.toArray n0) && decide (n0<=l.length) && Region.seqB .any l.toArray (l.drop n0).length n0 ((Array.range l.toArray.size).map λk=>decide (k < n0)) && decide (cN ((Array.range l.toArray.size).map λk=>decide (k < n0))=(l.drop n0).length))=true)
  (RE:C w w.drew) (RF:∀i,A i w w.drew)
  (h:gJ P Ws C A w l.toArray a (λenv=>∀W vals,C w W->df Ws C A w vals W env->wpList P l.toArray Q (l.drop n0) (fill vals env a) W) (l.take n0) []):(Code.region id l.toArray true).wp P Q a w:=by
 simp only[cR,kW,fA]at hB;obtain⟨⟨⟨⟨⟨h1,rA⟩,h2⟩,h4⟩,h5⟩,h6⟩:=hB;obtain⟨E,c,rd,φ,e0,hlen,hs,hq⟩:=qm n0 l (by omega) h;refine wp_region_any hm (sB (w0:=w) (n0:=n0) (lt:=l.drop n0) hF rA h1 (λhlt=>h2.resolve_left (λe=>by rw[oq]at hlt;omega)) (by simpa using h4) (λj=>by simp) h5 h6 hn e0 (λk hk=>hlen k (by simpa using hk)) (λk o ho=>hs k o (by simpa using ho)) hq _ _ _ _ ?_ (λt ht ht' => ?_) ⟨RE,λx _ _=>RF _,rfl,rfl,by simp,λ_ _=>rfl,λk o d ho _ hk=> ?_,λk o ho _ hk=> ?_,λk o ho hk=> ?_⟩)
 ·unfold cN
  simp
 ·simp only[oq]at ht'
  simp[ht']
 all_goals
  exfalso
  by_cases h' :k < l.length <;> simp[h']at hk
end
section
variable {P:Program} {Ws:List Wr} {C:au->au->Prop} {A:Nat->au->au->Prop} {w0:au} {ops:Array Oper} {a0:Act} {Q:List fQ->Prop} {o:Oper} {rest:List Oper} {env:List fQ}
theorem eJ (h:Q env):gJ P Ws C A w0 ops a0 Q [] env:=h
theorem aU (k:Nat)(v:Value)(he:env.length=k)(h:∀W vals,j0 Ws C A k w0 W->aR Ws C A w0 vals k (o.looksAt ops) W env->fH P (jd Ws C A k) ops (fill vals env a0) o (λu _=>u=v) W)
  (hk:gJ P Ws C A w0 ops a0 Q rest (af o.dst (some v) [] (λ_ _ _=>True) env)):gJ P Ws C A w0 ops a0 Q (o::rest) env:=by
 subst he;exact⟨some v, [],_,(λ_ h=>nomatch h),λW vals hW ag=>h W vals hW (by rwa [dJ]at ag),hk⟩
theorem il (k:Nat)(rd:List Tmp)(φ:List Value->Value->au->Prop)(he:env.length=k)(cS:rd.all (dG ops o)=true)(h:∀W vals,j0 Ws C A k w0 W->aR Ws C A w0 vals k (o.looksAt ops++rd) W env->∀φ' :Value->au->Prop,Hid (∀u w,φ (rd.map vals) u w->φ' u w)->fH P (jd Ws C A k) ops (fill vals env a0) o φ' W)
  (hk:gJ P Ws C A w0 ops a0 Q rest (af o.dst none rd φ env)):gJ P Ws C A w0 ops a0 Q (o::rest) env:=by
 subst he;exact⟨none,rd,φ,λt ht=>List.all_eq_true.1 cS t ht,λW vals hW ag=>h W vals hW ag _ (zh λ_ _ h=>h),hk⟩
theorem bZ (k:Nat)(φ:Value->au->Prop)(he:env.length=k)(h:∀W vals,j0 Ws C A k w0 W->aR Ws C A w0 vals k (o.looksAt ops) W env->∀φ' :Value->au->Prop,Hid (∀u w,φ u w->φ' u w)->fH P (jd Ws C A k) ops (fill vals env a0) o φ' W)
  (hk:gJ P Ws C A w0 ops a0 Q rest (af o.dst none [] (λ_=>φ) env)):gJ P Ws C A w0 ops a0 Q (o::rest) env:=by
 subst he;exact⟨none, [],λ_=>φ,(λ_ h=>nomatch h),λW vals hW ag=>h W vals hW (by rwa [dJ]at ag) φ (zh λ_ _ h=>h),hk⟩
/-- What allocations do to all of it. -/
structure dI (Ws:List Wr)(C:au->au->Prop)(A:Nat->au->au->Prop):Prop where
 fit:zI C A
 c:∀{w w'},ae w w' []->C w w'
 a:∀{i w w'},ae w w' []->A i w w'
theorem dI.bp (h:dI Ws C A){k:Nat}{w w' :au}(hk:ae w w' []):jd Ws C A k w w' :=⟨h.c hk,λ_ _ _=>h.a hk⟩
theorem dX (hL:dI Ws C A){k:Nat}{W:au}{φ φ' :Value->au->Prop}(hφ:Hid (∀u w,φ u w->φ' u w)){f:FuncId}{args:Array Value}(h:Calls P f args W (λe w'' =>∃v,e= .returned v/\ae W w'' []/\φ v w'')):
  dE P (jd Ws C A k) W φ' (.ok (.enter f args) W):=⟨hL.bp (ae.refl _ _),h.mono λ_ _ ⟨v,he,hk,hv⟩=>⟨v,he,hL.bp hk,hφ.o _ _ hv⟩⟩
/-- A call that writes. -/
theorem dA (hL:dI Ws C A){k:Nat}{W:au}{φ φ' :Value->au->Prop}(hφ:Hid (∀u w,φ u w->φ' u w)){f:FuncId}{args:Array Value}(h:Calls P f args W (λe w'' =>∃v,e= .returned v/\jd Ws C A k W w'' /\φ v w'')):
  dE P (jd Ws C A k) W φ' (.ok (.enter f args) W):=⟨hL.bp (ae.refl _ _),h.mono λ_ _ ⟨v,he,hk,hv⟩=>⟨v,he,hk,hφ.o _ _ hv⟩⟩
theorem bS {id:Nat}{Q:Exit->Act->au->Prop}{a:Act}{w:au}{l:List Oper}(Ws:List Wr)(C:au->au->Prop)(A:Nat->au->au->Prop)(n n0:Nat)(hF:dI Ws C A)(hm:P.follows .mixedOrders=true)(hn:a.tmps.size=n)
  (hB:(f_ n l.toArray && Kw l.toArray Ws && (decide (n0=l.length) || Region.sinkB .any l.toArray n0 && Region.chainB .any l.toArray n0) && decide (n0<=l.length) && Region.seqB .any l.toArray (l.drop n0).length n0 ((Array.range l.toArray.size).map λk=>decide (k < n0)) && decide (cN ((Array.range l.toArray.size).map λk=>decide (k < n0))=(l.drop n0).length))=true)
  (h:gJ P Ws C A w l.toArray a (λenv=>∀W vals,C w W->df Ws C A w vals W env->wpList P l.toArray Q (l.drop n0) (fill vals env a) W) (l.take n0) []):(Code.region id l.toArray true).wp P Q a w:=
 rF Ws C A n n0 hF.fit hm hn hB (hF.c (ae.drew _)) (λ_=>hF.a (ae.drew _)) h
end

/-- Of the worlds ahead and behind. -/
structure kE (R:au->au->Prop):Prop where
 keeps:∀{w w'},ae w w' []->R w w'
 trans:∀{x y z},R x y->R y z->R x z
def qV (i:Nat)(R1:au->au->Prop):Nat->au->au->Prop:=λk=>if k=i then R1 else λ_ _=>True
def Ud (i:Nat)(R1:au->au->Prop)(j:Nat)(R2:au->au->Prop):Nat->au->au->Prop:=λk=>if k=i then R1 else if k=j then R2 else λ_ _=>True
section
variable {C R1 R2:au->au->Prop} {Ws:List Wr} {i j k m:Nat} {w w' :au} {p1 a1 p2 a2:List Nat}
theorem dI.one (hC:kE C)(h1:kE R1):dI Ws C (qV i R1):=by
 refine⟨⟨λx=>hC.keeps (ae.refl _ _),λ_ _ _ h k=>hC.trans h k,λk x=> ?_,λk x y z h h' => ?_⟩,λh=>hC.keeps h,λ{k w w'} h=> ?_⟩
 ·unfold qV;split
  ·exact h1.keeps (ae.refl _ _)
  ·trivial
 ·unfold qV at*;split at h
  ·rw[aE (by assumption)]at h' ⊢;exact h1.trans h h'
  ·rw[aj (by assumption)];trivial
 ·unfold qV;split
  ·exact h1.keeps h
  ·trivial
theorem Dd (h:qV i R1 i w w'):R1 w w' :=by unfold qV at h;rwa [aE rfl]at h
theorem jd.one (hc:C w w')(h1:i≠k->R1 w w'):jd [⟨i,p1,a1⟩] C (qV i R1) k w w' :=by
 refine⟨hc,λx hx hne=> ?_⟩;obtain rfl:=List.mem_singleton.1 hx;unfold qV;rw[aE rfl];exact h1 hne
theorem j0.one (h:j0 [⟨i,p1,a1⟩] C (qV i R1) k w w')(hk:i=k\/k∈p1):R1 w w' :=Dd (h.a ⟨i,p1,a1⟩ (by simp) hk)
theorem B_.one (h:B_ [⟨i,p1,a1⟩] C (qV i R1) m k w w')(hk:i=m\/m∈a1\/i=k\/k∈p1):R1 w w' :=Dd (h.a ⟨i,p1,a1⟩ (by simp) hk)
theorem qL.one (h:qL [⟨i,p1,a1⟩] C (qV i R1) k w w')(hk:i=k\/k∈a1):R1 w w' :=Dd (h.a ⟨i,p1,a1⟩ (by simp) hk)
/-- What was there at w0 stays. -/
def dU (w0 w w' :au):Prop:=ae w0 w []->ae w0 w' []
theorem dU.ok (w0:au):kE (dU w0):=⟨λh k=>k.ah h,λh k x=>k (h x)⟩
theorem pz:kE ax:=⟨λh=>h,λh k=>h.trans k (by simp)⟩
end

/-- How an element lies: in k cells. -/
structure Ch {α:Type}(k:Nat)(f:α->List Value):Prop where
 pos:0 < k
 len:∀a,(f a).length=k
 one:∀a,∀u∈f a,u.oneCell' =true
/-- A slice type, its elements. -/
structure sV (P:Program)(t e:TypeId)(k:Nat):Prop where
 out:∃(i:TypeInfo) (z:Value) (bytes:Nat),P.underlying t=some (.slice e)/\P.info? e=some i/\i.zero=some z/\i.size=k/\i.bytes=bytes/\bytes<=100000/\z.cells.size=k
theorem pL {P:Program}{t e:TypeId}{k bytes:Nat}{z:Value}(ht:P.underlying t=some (.slice e))(hi:(P.info? e).map (λi=>(i.zero,i.size,i.bytes))=some (some z,k,bytes))(hb:bytes<=100000)(hz:z.cells.size=k):sV P t e k:=by
 obtain⟨i,h1,h2,h3,h4⟩:=info_parts hi;exact⟨i,z,bytes,ht,h1,h2,h3,h4,hb,hz⟩
section
variable {α:Type} {k:Nat} {f:α->List Value} {w w' :au} {e t:TypeId} {A:Option Addr} {l:List α} {B:Nat}
theorem pI (E:Ch k f)(l:List α):(l.flatMap f).length=l.length*k:=by
 induction l with
 | nil=>simp
 | cons a l ih=>rw[kA,bI,E.len,ih,du];rw[Nat.add_mul];omega
theorem pJ (E:Ch k f){l:List α}{i j:Nat}(hi:i < l.length)(hj:j < k):(l.flatMap f)[i*k+j]? =(f l[i])[j]? :=by
 induction l generalizing i with
 | nil=>simp at hi
 | cons a l ih=>
  rw[kA]
  cases i with
  | zero=>rw[Nat.zero_mul,iP,List.getElem?_append_left (by rw[E.len];exact hj)];rfl
  | succ i=>
   rw[List.getElem?_append_right (by rw[E.len,Nat.succ_mul];omega),E.len,show(i+1)*k+j - k=i*k+j by rw[Nat.succ_mul];omega,ih (by simpa using hi)];rfl
theorem Hf (E:Ch k f)(l:List α):∀u∈l.flatMap f,u.oneCell' =true:=λu hu=>by
 obtain⟨a,_,ha⟩:=List.mem_flatMap.1 hu;exact E.one a u ha
/-- A list in a block of cells. -/
def bw (w:au)(e:TypeId)(k:Nat)(f:α->List Value)(A:Option Addr)(l:List α):Prop:=
 0 < l.length->∃b o cs,A=some ⟨b,o,none⟩/\Row w b e cs/\∀i (h:i < l.length) j,j < k->cs[o+i*k+j]? =(f l[i])[j]?
theorem bw.keep {S:List Nat}(h:bw w e k f A l)(hk:ae w w' S)(hS:∀x∈S,∀cs,¬Row w x e cs):bw w' e k f A l:=λhp=>by
 obtain⟨b,o,cs,ea,hr,hc⟩:=h hp;exact⟨b,o,cs,ea,hr.keep hk (λhm=>hS b hm cs hr),hc⟩
theorem bw.keeps (h:bw w e k f A l)(hk:ae w w' []):bw w' e k f A l:=h.keep hk (by simp)
theorem bw.box {b:Nat}{t:TypeId}{cs:Array Value}(h:bw w e k f A l)(hk:ae w w' [b])(hr:Row w b t cs)(ht:e≠t):bw w' e k f A l:=h.keep hk λx hx cs' hr' =>by
 obtain rfl:=List.mem_singleton.1 hx;exact Row.fI hr' hr ht rfl
theorem bw.lies (E:Ch k f)(h:bw w e k f A l):cG w w.heap.size A (l.flatMap f):=λhp=>by
 rw[pI E]at hp;have hl:0 < l.length:=by
  rcases Ey l.length with h0 | h0
  ·rw[h0,Nat.zero_mul]at hp;omega
  ·exact h0
 obtain⟨b,o,cs,ea,hr,hc⟩:=h hl;refine⟨b,o,ea,hr.lt,λi u hu=> ?_⟩;have hi:i < l.length*k:=by
  rw[<-pI E];exact(List.getElem?_eq_some_iff.1 hu).1
 have hk:=E.pos;have h1:i / k < l.length:=(Nat.div_lt_iff_lt_mul hk).2 hi;have h2:i % k < k:=Nat.mod_lt _ hk;have h3:i / k*k+i % k=i:=by rw[Nat.mul_comm];exact Nat.div_add_mod i k
 have h4:=hc _ h1 _ h2;rw[Nat.add_assoc,h3]at h4;rw[hr.cell,h4,<-pJ E h1 h2,h3,hu]
theorem bw.nil (w:au)(e:TypeId)(k:Nat)(f:α->List Value)(A:Option Addr):bw w e k f A []:=λh=>absurd h (by simp)
/-- A list of the call's own. -/
abbrev dn (w:au)(B:Nat)(e:TypeId)(k:Nat)(f:α->List Value)(v:Value)(l:List α):Prop:=w.ownsRow B e k v l.length (l.flatMap f)
theorem dn.slice {v:Value}(h:dn w B e k f v l):∃A c,v= .slice A l.length c:=by
 obtain⟨A,c,rfl,_⟩:=Db h;exact⟨A,c,rfl⟩
theorem dn.nil (w:au)(B:Nat)(e:TypeId)(k:Nat)(f:α->List Value):dn w B e k f aN []:=⟨by simp,.inl ⟨rfl,rfl⟩⟩
theorem dn.keep {S:List Nat}{v:Value}(h:dn w B e k f v l)(hk:ae w w' S)(hS:∀x∈S,x < B\/∀cs,¬Row w x e cs):dn w' B e k f v l:=Fo h hk λg hg hm=>by
 obtain⟨h1,cs,hr⟩:=Bb h g hg
 rcases hS g hm with h2 | h2
 ·omega
 ·exact h2 cs hr
theorem dn.keeps {v:Value}(h:dn w B e k f v l)(hk:ae w w' []):dn w' B e k f v l:=h.keep hk (by simp)
theorem dn.rows {v:Value}(h:dn w B e k f v l):∀g∈v.ownBlock.toList,B<=g/\∃cs,Row w g e cs:=λg hg=>Bb h g (by simpa using hg)
theorem dn.at_ {c:Nat}(h:dn w B e k f (.slice A l.length c) l)(E:Ch k f):bw w e k f A l:=λhp=>by
 rcases h.2 with⟨hv,h0⟩ | ⟨gb,cap,cur,hv,e2,hh,h1,h2,h3,h4⟩
 ·omega
 ·injection hv with hv
  refine⟨gb,0,cur,hv,hh,λi hi j hj=> ?_⟩;rw[iP,<-pJ E hi hj,<-h4,List.getElem?_take,aE,uS];have:i*k+k<=l.length*k:=by rw[<-Nat.succ_mul];exact xy _ hi
  omega
theorem rP {P:Program}(T:sV P t e k)(E:Ch k f)(v:Value)(A:Option Addr)(c:Nat)(l1 l2:List α)(ty:TypeId)(hown:dn w B e k f v l1)(hb:cG w w.heap.size A (l2.flatMap f))(hlen:l1.length+l2.length<=1000000)(hbase:B<=w.heap.size):
  ∃A' c' w',(Builtin.append_ #[t,t] ty #[v,.slice A l2.length c]).run P w= .ok (.slice A' (l1++l2).length c') w' /\dn w' B e k f (.slice A' (l1++l2).length c') (l1++l2)/\ae w w' v.ownBlock.toList/\
   ((Value.slice A' (l1++l2).length c').ownBlock=v.ownBlock\/(Value.slice A' (l1++l2).length c').ownBlock=some w.heap.size):=by
 obtain⟨i0,z,bytes,ht,hi,hz0,hz1,hz2,hz3,KD⟩:=T.out;have hbb:(l1.length+l2.length)*bytes<=1000000*100000:=lR hlen hz3;obtain⟨v',w',hrun,h2,h3,h4⟩:=tv (P:=P) w B t ty e i0 z k bytes ht hi hz0 hz1 hz2 KD E.pos v l1.length (l1.flatMap f) hown w.heap.size A l2.length c (l2.flatMap f) (pI E l2) hb (Hf E l2) (by unfold maxLen;omega) (by omega) hbase;have h5:(l1++l2).length=l1.length+l2.length:=bI;have h6:dn w' B e k f v' (l1++l2):=by unfold dn;rw[h5,zW];exact h2
 obtain⟨A',c',rfl⟩:=dn.slice h6;exact⟨A',c',w',hrun,h6,ae.fY h3,h4⟩
theorem eG {P:Program}{ops:Array Oper}{rest:List Oper}{o:Oper}{a:Act}{Q:Exit->Act->au->Prop}(T:sV P t e k)(E:Ch k f)(hgd:o.guard=none)(s x:Operand)
  (ho:o.op= .call {callee:= .builtin .append,args:= #[s,x],argTypes:= #[t,t]})
  (B:Nat) (v:Value) (A:Option Addr) (n c:Nat) (l1 l2:List α) (hn:l2.length=n) (hs:a.eval s=v) (hx:a.eval x= .slice A n c) (hown:dn w B e k f v l1) (hb:cG w w.heap.size A (l2.flatMap f)) (hlen:l1.length+l2.length<=1000000) (hbase:B<=w.heap.size)
  (h:∀A c w' l,Hid (l=l1++l2)->(l.length<=l1.length+l2.length/\l1.length+l2.length<=l.length)->dn w' B e k f (.slice A l.length c) l->ae w w' v.ownBlock.toList->((Value.slice A l.length c).ownBlock=v.ownBlock\/(Value.slice A l.length c).ownBlock=some w.heap.size)->
   wpList P ops Q rest (a.put o.dst (.slice A l.length c)) w'):wpList P ops Q (o::rest) a w:=by
 subst hn;refine tV hgd λK hK=> ?_
 obtain⟨A,c,w',hrun,h2,h3,h4⟩:=rP T E v A c l1 l2 o.type hown hb hlen hbase;unfold Oper.wp execOp;simp only[ho,resolve,invoke,builtin,fo,gq,fk,xH,eu,fU,hs,hx,hrun];exact hK _ _ (h A c w' _ (zh rfl) ⟨by simp,by simp⟩ h2 h3 h4)
/-- append at an operation of a region that draws its order. -/
theorem qF {P:Program}{R:au->au->Prop}{ops:Array Oper}{o:Oper}{a:Act}{φ' :Value->au->Prop}(T:sV P t e k)(E:Ch k f)(hgd:o.guard=none)(s x:Operand)
  (ho:o.op= .call {callee:= .builtin .append,args:= #[s,x],argTypes:= #[t,t]}) (B:Nat) (v:Value) (A:Option Addr) (n c:Nat) (l1 l2:List α) (hn:l2.length=n) (hs:a.eval s=v) (hx:a.eval x= .slice A n c) (hown:dn w B e k f v l1) (hb:cG w w.heap.size A (l2.flatMap f)) (hlen:l1.length+l2.length<=1000000) (hB:B<=w.heap.size)
  (h:∀A' c' w',dn w' B e k f (.slice A' (l1++l2).length c') (l1++l2)->ae w w' v.ownBlock.toList->((Value.slice A' (l1++l2).length c').ownBlock=v.ownBlock\/(Value.slice A' (l1++l2).length c').ownBlock=some w.heap.size)->R w w' /\φ' (.slice A' (l1++l2).length c') w'):fH P R ops a o φ' w:=by
 subst hn;refine⟨?_⟩;have hw:Region.wanted o (yielded ops a.tmps)=true:=by simp[Region.wanted,hgd]
 rw[aE hw];obtain⟨A',c',w',hrun,h2,h3,h4⟩:=rP T E v A c l1 l2 o.type hown hb hlen hB;unfold execOp;simp only[ho,resolve,invoke,builtin,fo,gq,fk,xH,eu,fU,hs,hx,hrun];exact h A' c' w' h2 h3 h4
/-- A list laid out by the call: one block. -/
theorem Dh (E:Ch k f){b:Nat}(hr:Row w b e (l.flatMap f).toArray):bw w e k f (some ⟨b,0,none⟩) l:=λ_=>
 ⟨b,0,_,rfl,hr,λi hi j hj=>by rw[iP,cg,pJ E hi hj]⟩
theorem fJ {b:Nat}{cs:Array Value}{xs:List Value}(hr:Row w b e cs)(h:cs.toList=xs):cG w w.heap.size (some ⟨b,0,none⟩) xs:=λ_=>by
 refine⟨b,0,rfl,hr.lt,λi u hu=> ?_⟩;subst h;rw[iP,hr.cell,<-hu,uS]
end
/-- An element of one cell, at its place in a list of the call's own. -/
theorem dn.one {α:Type}{f:α->List Value}{q:α->Value}{w:au}{B:Nat}{e:TypeId}{A:Option Addr}{n c m:Nat}{l:List α}(hq:∀a,f a= [q a])(h:dn w B e 1 f (.slice A n c) l)(hm:m < l.length):
  ∃g cur,A=some ⟨g,0,none⟩/\n=l.length/\B<=g/\Row w g e cur/\cur[m]? =some (q l[m])/\∀a,dn (w.setCell ⟨g,m,none⟩ (q a)) B e 1 f (.slice A n c) (l.set m a):=by
 have hfl:∀l:List α,l.flatMap f=l.map q:=λl=>by
  induction l with
  | nil=>rfl
  | cons a l ih=>rw[kA,ih,hq];rfl
 rcases h.2 with⟨hv,h0⟩ | ⟨g,cap,cur,hv,hg,hh,h1,h2,h3,h4⟩
 ·omega
 ·injection hv with e1 e2 e3
  subst e1 e2 e3;rw[hfl,iO]at h4;have hsz:m < cur.size:=by rw[h3];omega
  refine⟨g,cur,rfl,rfl,hg,hh, ?_,λa=>⟨by rw[hfl];simp,.inr ⟨g,c,cur.setIfInBounds m (q a),by simp,hg,(show Row w g e cur from hh).store m (q a),by simpa using h1,h2,by simpa using h3, ?_⟩⟩⟩
  ·have e:=ek (λl=>l[m]?) h4
   simp only[List.getElem?_take,hm,jF,xx,uS]at e;rw[e,rE hm];rfl
  ·rw[hfl,iO,Array.toList_setIfInBounds,List.length_set,List.take_set,h4,List.map_set]
/-- Texts. -/
def fC (l:aG):List Value:= [.string ⟨l.toArray⟩]
theorem mE:Ch 1 fC:=⟨by omega,λ_=>rfl,λa u hu=>by obtain rfl:=List.mem_singleton.1 hu;rfl⟩
end Go.Proofs.YtahbikfbjenfpaaGreatDoor
