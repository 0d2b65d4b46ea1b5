/- A region that draws its order and whose operations may hand back new memory, each operation met once: what it finds is told of the temporaries that it reads alone. Small words: a callee that leaves the world as it was, met inside a region; what is kept over draws. Walks: a copy of bytes. Facts on the types of bytes in this program. A region whose operations each keep what was there, each operation met once. A region that draws its order and fills one block that it makes itself: each operation met once. A region that draws its order and whose last operations stand in a row: those ahead of them are met once each, these are walked. A region that draws its order, of which some operations may write what lay, each its own: each operation met once; the last ones may stand in a row. Regions of which two operations may write: in words for the walk. Lists of elements of whatever number of cells, in blocks of their own type: read, appended to. -/
import Derived.Orders
import Derived.Calls
import Derived.Deep.Draws
import Derived.Test.YtahbikfbjenfpaaGreatDoorPa0
import Derived.StillTailTactics
import Derived.Deep.Quiet
import Derived.Test.YtahbikfbjenfpaaGreatDoorProg
import Derived.Laws.EntriesVeiled
import Derived.StillTail
import Derived.Test.YtahbikfbjenfpaaGreatDoorPa1

namespace Go.Proofs.YtahbikfbjenfpaaGreatDoor

/-- What is known of a temporary of a region: its very value, or something that held in the world in which it came up. -/
structure Ent where
 t:Option Tmp
 c:Option Value
 rd:List Tmp
 φ:List Value→Value→World→Prop

section
variable (P:Program) (R:World→World→Prop) (w0:World) (ops:Array Oper) (vals:Tmp→Value)

def fill:List Ent→Act→Act
 | [],a=>a
 | ⟨some t,some v,_,_⟩::l,a=>(fill l a).put (some t) v
 | ⟨some t,none,_,_⟩::l,a=>(fill l a).put (some t) (vals t)
 | ⟨none,_,_,_⟩::l,a=>fill l a

def knows (rs:List Tmp)(W:World):List Ent→Prop
 | []=>True
 | ⟨_,some _,_,_⟩::l=>knows rs W l
 | ⟨none,none,_,_⟩::l=>knows rs W l
 | ⟨some t,none,rd,φ⟩::l=>(t∈rs→∃W0,R w0 W0∧R W0 W∧φ (rd.map vals) (vals t) W0)∧knows rs W l

def knowsAll (W:World):List Ent→Prop
 | []=>True
 | ⟨_,some _,_,_⟩::l=>knowsAll W l
 | ⟨none,none,rd,φ⟩::l=>(∃u W0,R w0 W0∧R W0 W∧φ (rd.map vals) u W0)∧knowsAll W l
 | ⟨some t,none,rd,φ⟩::l=>(∃W0,R w0 W0∧R W0 W∧φ (rd.map vals) (vals t) W0)∧knowsAll W l

def looseUpon (w:World)(φ:Value→World→Prop):Result Next→Prop
 | .ok (.value u) w' =>R w w' ∧φ u w'
 | .ok .skip w' =>R w w' ∧φ undef w'
 | .ok (.enter f args) w' =>R w w' ∧Calls P f args w' (fun e w'' =>∃v,e= .returned v∧R w' w'' ∧φ v w'')
 | .ok (.row row args) w' =>R w w' ∧Rows P row args w' (fun v w'' =>R w' w'' ∧φ v w'')
 | _=>False

structure opOk (a:Act)(o:Oper)(φ:Value→World→Prop)(W:World):Prop where
 out:if Region.wanted o (yielded ops a.tmps)then looseUpon P R W φ ((execOp a.eval o).run P W)else φ undef W

def entOf (c:Option Value)(φ:Value→World→Prop):Value→World→Prop:=match c with
 | some v=>fun u _=>u=v
 | none=>φ
def addEnt (d:Option Tmp)(c:Option Value)(rd:List Tmp)(φ:List Value→Value→World→Prop)(env:List Ent):List Ent:=⟨d,c,rd,φ⟩::env

/-- A temporary whose every writer an operation waits for. -/
def waitsB (ops:Array Oper)(o:Oper)(t:Tmp):Bool:=(List.range ops.size).all fun k=>match ops[k]? with
 | some o' =>o'.dst !=some t || o.after.any (fun e=>Region.binds .any e && e.on==k)
 | none=>true
theorem waitsB_spec {ops:Array Oper}{o:Oper}{t:Tmp}(h:waitsB ops o t=true){k:Nat}{o' :Oper}(ho:ops[k]? =some o')(hd:o'.dst=some t):∃e∈o.after,Region.binds .any e=true∧e.on=k:=by
 unfold waitsB at h;have:=List.all_eq_true.1 h k (List.mem_range.2 (Array.getElem?_eq_some_iff.1 ho).1);simp only[ho,hd,bne_self_eq_false,Bool.false_or]at this;obtain⟨e,he,hb⟩:=Array.any_eq_true'.1 this;simp only[Bool.and_eq_true,beq_iff_eq]at hb;exact⟨e,he,hb.1,hb.2⟩

def wpLoose (a0:Act)(Q:List Ent→Prop):List Oper→List Ent→Prop
 | [],env=>Q env
 | o::rest,env=>∃c rd φ,(∀t∈rd,waitsB ops o t=true)∧(∀W vals,R w0 W→knows R w0 vals (o.looksAt ops) W env→opOk P R ops (fill vals env a0) o (entOf c (φ (rd.map vals))) W)∧wpLoose a0 Q rest (addEnt o.dst c rd φ env)

/-- Each operation's temporaries come up ahead of it, by an edge; no two have one place. -/
def looseB (n:Nat)(ops:Array Oper):Bool:=
 Region.noSelect ops &&
 (List.range ops.size).all fun i=>match ops[i]? with
  | none=>true
  | some o=>
   (match o.dst with
    | some d=>decide (d < n) && (List.range ops.size).all (fun j=>j==i || (match ops[j]? with | some o' =>o'.dst !=some d | none=>true))
    | none=>true) &&
   o.after.all (fun e=> !Region.binds .any e || decide (e.on < i)) &&
   (o.looksAt ops).all (fun t=>(List.range ops.size).all fun k=>match ops[k]? with
    | some o' =>o'.dst !=some t || (decide (k < i) && o.after.any (fun e=>Region.binds .any e && e.on==k)) || (decide (i < k) && o'.after.any (fun e=>Region.binds .any e && e.on==i))
    | none=>true)
end

section
variable {P:Program} {R:World→World→Prop} {w0:World} {ops:Array Oper} {vals:Tmp→Value}

theorem looseB_spec {n:Nat}(h:looseB n ops=true):
  Region.noSelect ops=true∧
  (∀(i:Nat) (o:Oper) (d:Tmp),ops[i]? =some o→o.dst=some d→d < n)∧
  (∀(i j:Nat) (o o' :Oper) (d:Tmp),ops[i]? =some o→ops[j]? =some o' →o.dst=some d→o'.dst=some d→i=j)∧
  (∀(i:Nat) (o:Oper),ops[i]? =some o→∀e∈o.after,Region.binds .any e=true→e.on < i)∧
  (∀(i:Nat) (o:Oper) (t:Tmp) (k:Nat) (o' :Oper),ops[i]? =some o→t∈o.looksAt ops→ops[k]? =some o' →o'.dst=some t→(k < i∧∃e∈o.after,Region.binds .any e=true∧e.on=k)∨(i < k∧∃e∈o'.after,Region.binds .any e=true∧e.on=i)):=by
 unfold looseB at h;simp only[Bool.and_eq_true,List.all_eq_true,List.mem_range]at h;obtain⟨h0,h⟩:=h;have lt:∀{i:Nat} {o:Oper},ops[i]? =some o→i < ops.size:=fun ho=>(Array.getElem?_eq_some_iff.1 ho).1
 refine⟨h0, ?_, ?_, ?_, ?_⟩
 ·intro i o d ho hd
  have:=h i (lt ho);simp only[ho,hd,Bool.and_eq_true,decide_eq_true_eq]at this;exact this.1.1.1
 ·intro i j o o' d ho ho' hd hd'
  have:=h i (lt ho);simp only[ho,hd,Bool.and_eq_true,List.all_eq_true,List.mem_range]at this;have:=this.1.1.2 j (lt ho');simp only[ho',hd',Bool.or_eq_true,beq_iff_eq,bne_self_eq_false,Bool.false_eq_true,or_false]at this;exact this.symm
 ·intro i o ho e he hb
  have:=h i (lt ho);simp only[ho,Bool.and_eq_true]at this;have:=(Array.all_eq_true_iff_forall_mem.1 this.1.2) e he
  simpa [hb]using this
 ·intro i o t k o' ho ht ho' hd
  have:=h i (lt ho);simp only[ho,Bool.and_eq_true,List.all_eq_true,List.mem_range]at this;have:=this.2 t ht k (lt ho');simp only[ho',hd,bne_self_eq_false,Bool.false_or,Bool.or_eq_true,Bool.and_eq_true,decide_eq_true_eq]at this
  rcases this with⟨hk,ha⟩ | ⟨hk,ha⟩
  ·obtain⟨e,he,hb⟩:=Array.any_eq_true'.1 ha
   simp only[Bool.and_eq_true,beq_iff_eq]at hb;exact .inl ⟨hk,e,he,hb.1,hb.2⟩
  ·obtain⟨e,he,hb⟩:=Array.any_eq_true'.1 ha
   simp only[Bool.and_eq_true,beq_iff_eq]at hb;exact .inr ⟨hk,e,he,hb.1,hb.2⟩

/-- The lexical walk's findings, told by number. -/
theorem wpLoose_table {a0:Act}{Q:List Ent→Prop}:∀(l:List Oper) (env:List Ent),wpLoose P R w0 ops a0 Q l env→
  ∃(E:Nat→List Ent) (c:Nat→Option Value) (rd:Nat→List Tmp) (φ:Nat→List Value→Value→World→Prop),E 0=env∧
   (∀k o,l[k]? =some o→E (k+1)=addEnt o.dst (c k) (rd k) (φ k) (E k)∧(∀t∈rd k,waitsB ops o t=true)∧∀W vals,R w0 W→knows R w0 vals (o.looksAt ops) W (E k)→opOk P R ops (fill vals (E k) a0) o (entOf (c k) (φ k ((rd k).map vals))) W)∧Q (E l.length)
 | [],env,h=>⟨fun _=>env,fun _=>none,fun _=> [],fun _ _ _ _=>True,rfl,fun k o ho=>by simp at ho,h⟩
 | o::rest,env,h=>by
  obtain⟨c,rd,φ,h0,h1,h2⟩:=h;obtain⟨E,c',rd',φ',e0,hs,hq⟩:=wpLoose_table rest _ h2;refine⟨fun | 0=>env | k+1=>E k,fun | 0=>c | k+1=>c' k,fun | 0=>rd | k+1=>rd' k,fun | 0=>φ | k+1=>φ' k,rfl, ?_,hq⟩;intro k o' ho'
  cases k with
  | zero=>
   simp only[zgz,Option.some.injEq]at ho';subst ho';exact⟨e0,h0,h1⟩
  | succ k=>exact hs k o' (by simpa using ho')

theorem put_get_ne {a:Act}{d t:Tmp}{v:Value}(h:d≠t):(a.put (some d) v).tmps[t]? =a.tmps[t]? :=by simp[Act.put,Array.getElem?_setIfInBounds_ne h]
theorem put_get_eq {a:Act}{d:Tmp}{v:Value}(h:d < a.tmps.size):(a.put (some d) v).tmps[d]? =some v:=by simp[Act.put,h]
theorem put_size (a:Act)(d:Option Tmp)(v:Value):(a.put d v).tmps.size=a.tmps.size:=by cases d <;> simp[Act.put]
theorem put_defs (a:Act)(d:Option Tmp)(v:Value):(a.put d v).defers=a.defers:=by cases d <;> simp[Act.put]
theorem fill_size:∀(l:List Ent) (a:Act),(fill vals l a).tmps.size=a.tmps.size∧(fill vals l a).defers=a.defers
 | [],a=>⟨rfl,rfl⟩
 | ⟨some t,some v,_,φ⟩::l,a=>by simp only[fill,put_size,put_defs];exact fill_size l a
 | ⟨some t,none,_,φ⟩::l,a=>by simp only[fill,put_size,put_defs];exact fill_size l a
 | ⟨none,_,_,φ⟩::l,a=>by simp only[fill];exact fill_size l a

theorem fill_far (a0:Act){E:Nat→List Ent}{c:Nat→Option Value}{rd:Nat→List Tmp}{φ:Nat→List Value→Value→World→Prop}(e0:E 0= [])
  (hs:∀k o,ops[k]? =some o→E (k+1)=addEnt o.dst (c k) (rd k) (φ k) (E k)) (t:Tmp):∀k,k≤ops.size→(∀j o,j < k→ops[j]? =some o→o.dst≠some t)→(fill vals (E k) a0).tmps[t]? =a0.tmps[t]?
 | 0,_,_=>by rw[e0];rfl
 | k+1,hk,h=>by
  have ih:=fill_far a0 e0 hs t k (by omega) (fun j o hj ho=>h j o (by omega) ho);have ho:ops[k]? =some ops[k]:=Array.getElem?_eq_getElem (by omega);rw[hs k _ ho];have hne:=h k _ (by omega) ho;unfold addEnt
  cases hd:ops[k].dst with
  | none=>simp only[fill];exact ih
  | some d=>
   have:d≠t:=fun e=>hne (by rw[hd,e])
   cases c k <;> simp only[fill,put_get_ne this,ih]

theorem fill_near (a0:Act){E:Nat→List Ent}{c:Nat→Option Value}{rd:Nat→List Tmp}{φ:Nat→List Value→Value→World→Prop}
  (hs:∀k o,ops[k]? =some o→E (k+1)=addEnt o.dst (c k) (rd k) (φ k) (E k)) (hd:∀(i j:Nat) (o o' :Oper) (d:Tmp),ops[i]? =some o→ops[j]? =some o' →o.dst=some d→o'.dst=some d→i=j) (t:Tmp) (ht:t < a0.tmps.size)
  (j:Nat) (o:Oper) (ho:ops[j]? =some o) (hdst:o.dst=some t):∀k,k≤ops.size→j < k→(fill vals (E k) a0).tmps[t]? =some (match c j with | some v=>v | none=>vals t)
 | 0,_,h=>by omega
 | k+1,hk,hj=>by
  have hok:ops[k]? =some ops[k]:=Array.getElem?_eq_getElem (by omega);rw[hs k _ hok]
  by_cases hjk:j=k
  ·subst hjk
   obtain rfl:ops[j]=o:=by rw[hok]at ho;exact Option.some.inj ho
   unfold addEnt;simp only[hdst]
   cases c j <;> simp only[fill] <;> exact put_get_eq (by rw[(fill_size _ _).1];exact ht)
  ·have ih:=fill_near a0 hs hd t ht j o ho hdst k (by omega) (by omega)
   unfold addEnt
   cases hdk:ops[k].dst with
   | none=>simp only[fill];exact ih
   | some d=>
    have:d≠t:=fun e=>hjk (hd j k o _ t ho hok hdst (by rw[hdk,e]))
    cases c k <;> simp only[fill,put_get_ne this,ih]

theorem knows_table {E:Nat→List Ent}{c:Nat→Option Value}{rd:Nat→List Tmp}{φ:Nat→List Value→Value→World→Prop}(e0:E 0= []){W:World}
  (hs:∀k o,ops[k]? =some o→E (k+1)=addEnt o.dst (c k) (rd k) (φ k) (E k)) (rs:List Tmp):∀k,k≤ops.size→(∀j o t,j < k→ops[j]? =some o→o.dst=some t→t∈rs→c j=none→∃W0,R w0 W0∧R W0 W∧φ j ((rd j).map vals) (vals t) W0)→knows R w0 vals rs W (E k)
 | 0,_,_=>by rw[e0];trivial
 | k+1,hk,h=>by
  have ih:=knows_table e0 hs rs k (by omega) (fun j o t hj=>h j o t (by omega));have hok:ops[k]? =some ops[k]:=Array.getElem?_eq_getElem (by omega);rw[hs k _ hok];unfold addEnt
  cases hdk:ops[k].dst with
  | none=>cases hc:c k <;> exact ih
  | some d=>
   cases hc:c k with
   | some v=>exact ih
   | none=>exact⟨fun hm=>h k _ d (by omega) hok hdk hm hc,ih⟩
theorem knowsAll_table {E:Nat→List Ent}{c:Nat→Option Value}{rd:Nat→List Tmp}{φ:Nat→List Value→Value→World→Prop}(e0:E 0= []){W:World}
  (hs:∀k o,ops[k]? =some o→E (k+1)=addEnt o.dst (c k) (rd k) (φ k) (E k)):∀k,k≤ops.size→(∀j o t,j < k→ops[j]? =some o→o.dst=some t→c j=none→∃W0,R w0 W0∧R W0 W∧φ j ((rd j).map vals) (vals t) W0)→
  (∀j o,j < k→ops[j]? =some o→o.dst=none→c j=none→∃u W0,R w0 W0∧R W0 W∧φ j ((rd j).map vals) u W0)→knowsAll R w0 vals W (E k)
 | 0,_,_,_=>by rw[e0];trivial
 | k+1,hk,h,hn=>by
  have ih:=knowsAll_table e0 hs k (by omega) (fun j o t hj=>h j o t (by omega)) (fun j o hj=>hn j o (by omega));have hok:ops[k]? =some ops[k]:=Array.getElem?_eq_getElem (by omega);rw[hs k _ hok];unfold addEnt
  cases hdk:ops[k].dst with
  | none=>
   cases hc:c k with
   | some v=>exact ih
   | none=>exact⟨hn k _ (by omega) hok hdk hc,ih⟩
  | some d=>
   cases hc:c k with
   | some v=>exact ih
   | none=>exact⟨h k _ d (by omega) hok hdk hc,ih⟩

/-- Two frames that agree where an operation looks. -/
theorem opOk_congr {a a' :Act}{o:Oper}{φ:Value→World→Prop}{W:World}(hsel:∀cs b,o.op≠ .select cs b)(h:∀t∈o.looksAt ops,a.tmps[t]? =a'.tmps[t]?)(hh:opOk P R ops a o φ W):opOk P R ops a' o φ W:=by
 have he:execOp a.eval o=execOp a'.eval o:=execOp_congr o hsel fun x hx=>by
  cases x with
  | tmp t=>
   have:=h t (List.mem_append_left _ (List.mem_filterMap.2 ⟨.tmp t,by simpa using hx,rfl⟩));simp[Act.eval,this]
  | _=>rfl
 have hy:Region.wanted o (yielded ops a.tmps)=Region.wanted o (yielded ops a'.tmps):=by
  unfold Region.wanted
  cases hg:o.guard with
  | none=>rfl
  | some gw=>
   obtain⟨g,want⟩:=gw;have:yielded ops a.tmps g=yielded ops a'.tmps g:=by
    unfold yielded
    cases ht:(ops[g]?).bind (·.dst)with
    | none=>rfl
    | some t=>
     have:=h t (List.mem_append_right _ (by simp[hg,ht]));simp[this]
   simp only[this]
 obtain⟨hh⟩:=hh;rw[he,hy]at hh;exact⟨hh⟩

def unlisted (listed:Array Bool):Nat:=listed.toList.count false
theorem unlisted_set {listed:Array Bool}{i:Nat}(h:listed.getD i true=false):unlisted (listed.setIfInBounds i true)+1=unlisted listed∧i < listed.size:=by
 have hi:i < listed.size:=by
  rcases Nat.lt_or_ge i listed.size with h' | h'
  ·exact h'
  ·simp[Array.getElem?_eq_none h']at h
 refine⟨?_,hi⟩;have hv:listed.toList[i]'(by simpa using hi)=false:=by simpa [hi]using h
 unfold unlisted;have hpos:0 < listed.toList.count false:=List.count_pos_iff.2 (hv▸List.getElem_mem _);rw[Array.toList_setIfInBounds,List.count_set (by simpa using hi),hv];simp;have:0 < Array.count false listed:=by simpa using hpos
 omega

/-- What stands while the region runs. -/
structure LooseInv (R:World→World→Prop)(w0:World)(ops:Array Oper)(a0:Act)(c:Nat→Option Value)(rd:Nat→List Tmp)(φ:Nat→List Value→Value→World→Prop)(listed:Array Bool)(a:Act)(W:World):Prop where
 world:R w0 W
 defers:a.defers=a0.defers
 size:a.tmps.size=a0.tmps.size
 lsize:listed.size=ops.size
 off:∀t,(∀k o,ops[k]? =some o→o.dst=some t→listed.getD k false=false)→a.tmps[t]? =a0.tmps[t]?
 on:∀k o d,ops[k]? =some o→o.dst=some d→listed.getD k false=true→∃v,a.tmps[d]? =some v∧∃W0,R w0 W0∧R W0 W∧entOf (c k) (φ k ((rd k).map fun t=>a.tmps.getD t undef)) v W0
 onn:∀k o,ops[k]? =some o→o.dst=none→listed.getD k false=true→∃u W0,R w0 W0∧R W0 W∧entOf (c k) (φ k ((rd k).map fun t=>a.tmps.getD t undef)) u W0
 dep:∀k o,ops[k]? =some o→listed.getD k false=true→∀e∈o.after,Region.binds .any e=true→listed.getD e.on false=true

theorem looseInv_next {n:Nat}{a0:Act}{c:Nat→Option Value}{rd:Nat→List Tmp}{φ:Nat→List Value→Value→World→Prop}{listed:Array Bool}{a:Act}{W W' :World}(htr:∀x y z,R x y→R y z→R x z)(hrf:∀x,R x x)
  (hB:looseB n ops=true) (hrd:∀k o,ops[k]? =some o→∀t∈rd k,waitsB ops o t=true) (hn:a0.tmps.size=n) (hI:LooseInv R w0 ops a0 c rd φ listed a W) {i:Nat} {o:Oper} (ho:ops[i]? =some o) (hl:listed.getD i true=false) (hall:∀e∈o.after,Region.binds .any e=true→listed.getD e.on false=true) (v:Value) (hR:R W W') (hv:entOf (c i) (φ i ((rd i).map fun t=>a.tmps.getD t undef)) v W'):
  LooseInv R w0 ops a0 c rd φ (listed.setIfInBounds i true) (a.put o.dst v) W' :=by
 obtain⟨_,b1,b2,b3,b4⟩:=looseB_spec hB;have hil:listed.getD i false=false:=by
  have hi:=(unlisted_set hl).2
  simpa [hi]using hl
 -- what an operation that is listed reads stays
 have keep:∀k o',ops[k]? =some o' →(k=i∨listed.getD k false=true)→((rd k).map fun t=>(a.put o.dst v).tmps.getD t undef)=(rd k).map fun t=>a.tmps.getD t undef:=by
  intro k o' ho' hk;refine List.map_congr_left fun t ht=> ?_
  replace ht:=hrd k o' ho' t ht
  cases hd:o.dst with
  | none=>rfl
  | some d=>
   have hne:d≠t:=by
    rintro rfl;obtain⟨e,he,hb,hon⟩:=waitsB_spec ht ho hd
    rcases hk with rfl | hk
    ·rw[ho]at ho'
     injection ho' with ho'
     subst ho';have:=hall e he hb;rw[hon,hil]at this
     cases this
    ·have:=hI.dep k o' ho' hk e he hb
     rw[hon,hil]at this
     cases this
   have:=put_get_ne (a:=a) (v:=v) hne;simp only[Array.getD_eq_getD_getElem?,this]
 refine⟨htr _ _ _ hI.world hR,by rw[put_defs,hI.defers],by rw[put_size,hI.size],by simp[hI.lsize], ?_, ?_, ?_, ?_⟩
 ·intro t h
  have hne:o.dst≠some t:=fun hd=>by
   have:=h i o ho hd;have hi:=(unlisted_set hl).2;simp[hi]at this
  have e:(a.put o.dst v).tmps[t]? =a.tmps[t]? :=by
   cases hd:o.dst with
   | none=>rfl
   | some d=>exact put_get_ne (fun e=>hne (by rw[hd,e]))
  rw[e];refine hI.off t (fun k o' ho' hd' => ?_);have:=h k o' ho' hd';have hki:i≠k:=fun e=>by subst e;rw[ho]at ho';injection ho' with ho';subst ho';exact hne hd'
  rwa [getD_set_ne _ hki]at this
 ·intro k o' d ho' hd' hk
  by_cases hki:i=k
  ·subst hki
   rw[ho]at ho';injection ho' with ho'
   subst ho';rw[keep i o ho (.inl rfl)];rw[hd'];exact⟨v,put_get_eq (by rw[hI.size,hn];exact b1 i o d ho hd'),W',htr _ _ _ hI.world hR,hrf _,hv⟩
  ·rw[getD_set_ne _ hki]at hk
   obtain⟨u,hu,W0,h1,h2,h3⟩:=hI.on k o' d ho' hd' hk;rw[keep k o' ho' (.inr hk)];refine⟨u, ?_,W0,h1,htr _ _ _ h2 hR,h3⟩
   cases hd:o.dst with
   | none=>exact hu
   | some d2=>
    rw[put_get_ne (fun e=>hki (b2 i k o o' d ho ho' (by rw[hd,e]) hd'))];exact hu
 ·intro k o' ho' hd' hk
  by_cases hki:i=k
  ·subst hki
   rw[ho]at ho';injection ho' with ho'
   subst ho';rw[keep i o ho (.inl rfl)];exact⟨v,W',htr _ _ _ hI.world hR,hrf _,hv⟩
  ·rw[getD_set_ne _ hki]at hk
   obtain⟨u,W0,h1,h2,h3⟩:=hI.onn k o' ho' hd' hk;rw[keep k o' ho' (.inr hk)];exact⟨u,W0,h1,htr _ _ _ h2 hR,h3⟩
 ·intro k o' ho' hk e he hb
  have hmono:∀m,listed.getD m false=true→(listed.setIfInBounds i true).getD m false=true:=by
   intro m hm
   by_cases hmi:i=m
   ·subst hmi
    rw[hil]at hm
    cases hm
   ·rw[getD_set_ne _ hmi];exact hm
  by_cases hki:i=k
  ·subst hki
   rw[ho]at ho';injection ho' with ho'
   subst ho';exact hmono _ (hall e he hb)
  ·rw[getD_set_ne _ hki]at hk
   exact hmono _ (hI.dep k o' ho' hk e he hb)

theorem loose_sound {n:Nat}{a0:Act}{c:Nat→Option Value}{rd:Nat→List Tmp}{φ:Nat→List Value→Value→World→Prop}{E:Nat→List Ent}{Q:Exit→Act→World→Prop}(htr:∀x y z,R x y→R y z→R x z)(hrf:∀x,R x x)
  (hB:looseB n ops=true) (hn:a0.tmps.size=n) (e0:E 0= [])
  (hs:∀k o,ops[k]? =some o→E (k+1)=addEnt o.dst (c k) (rd k) (φ k) (E k)∧(∀t∈rd k,waitsB ops o t=true)∧∀W vals,R w0 W→knows R w0 vals (o.looksAt ops) W (E k)→opOk P R ops (fill vals (E k) a0) o (entOf (c k) (φ k ((rd k).map vals))) W)
  (hq:∀W vals,R w0 W→knowsAll R w0 vals W (E ops.size)→Q .normal (fill vals (E ops.size) a0) W):
  ∀(fuel:Nat) (listed:Array Bool) (a:Act) (W:World),unlisted listed≤fuel→LooseInv R w0 ops a0 c rd φ listed a W→wpAny P .any ops Q fuel listed a W:=by
 obtain⟨b0,b1,b2,b3,b4⟩:=looseB_spec hB;have hs1:=fun k o ho=>(hs k o ho).1
 have hrd:=fun k o ho=>(hs k o ho).2.1
 have fin:∀(listed:Array Bool) (a:Act) (W:World),LooseInv R w0 ops a0 c rd φ listed a W→Region.ready .any ops listed= []→Q .normal a W:=by
  intro listed a W hI hr;have hall:∀m k,k < m→k < ops.size→listed.getD k false=true:=by
   intro m
   induction m with
   | zero=>intro k h;omega
   | succ m ih=>
    intro k hk hks
    cases hl:listed.getD k false with
    | true=>rfl
    | false=>
     exfalso
     have ho:ops[k]? =some ops[k]:=Array.getElem?_eq_getElem hks;have hl' :listed.getD k true=false:=by
      have:k < listed.size:=by rw[hI.lsize];exact hks
      simpa [this]using hl
     have:k∈Region.ready .any ops listed:=mem_ready.2 ⟨hl',_,ho,fun e he hb=>by
      have hlt:=b3 k _ ho e he hb;exact ih e.on (by omega) (by omega)⟩
     rw[hr]at this
     cases this
  have hq:=hq W (fun t=>a.tmps.getD t undef) hI.world (knowsAll_table e0 hs1 ops.size (Nat.le_refl _) (fun j o t hj ho hd hc=>by
   obtain⟨v,hv,W0,h1,h2,h3⟩:=hI.on j o t ho hd (hall (j+1) j (by omega) hj);refine⟨W0,h1,h2, ?_⟩;have:a.tmps.getD t undef=v:=by simp[hv]
   show φ j _ (a.tmps.getD t undef) W0;rw[this]
   simpa [entOf,hc]using h3) (fun j o hj ho hd hc=>by
   obtain⟨u,W0,h1,h2,h3⟩:=hI.onn j o ho hd (hall (j+1) j (by omega) hj);exact⟨u,W0,h1,h2,by simpa [entOf,hc]using h3⟩))
  have hea:fill (fun t=>a.tmps.getD t undef) (E ops.size) a0=a:=by
   obtain⟨s1,s2⟩:=fill_size (vals:=fun t=>a.tmps.getD t undef) (E ops.size) a0;have ht:(fill (fun t=>a.tmps.getD t undef) (E ops.size) a0).tmps=a.tmps:=by
    refine Array.ext_getElem? fun t=> ?_
    by_cases hd:∃(k:Nat) (o:Oper),ops[k]? =some o∧o.dst=some t
    ·obtain⟨k,o,ho,hd⟩:=hd
     have hk:=(Array.getElem?_eq_some_iff.1 ho).1;rw[fill_near a0 hs1 b2 t (by rw[hn];exact b1 k o t ho hd) k o ho hd ops.size (Nat.le_refl _) hk];obtain⟨v,hv,W0,_,_,h3⟩:=hI.on k o t ho hd (hall (k+1) k (by omega) hk);rw[hv]
     cases hc:c k with
     | none=>simp[hv]
     | some u=>simp[entOf,hc]at h3;simp[h3]
    ·rw[fill_far a0 e0 hs1 t ops.size (Nat.le_refl _) (fun j o _ ho hdd=>hd ⟨j,o,ho,hdd⟩)]
     exact(hI.off t (fun k o ho hdd=>absurd ⟨k,o,ho,hdd⟩ hd)).symm
   have hd' :(fill (fun t=>a.tmps.getD t undef) (E ops.size) a0).defers=a.defers:=by rw[s2,hI.defers]
   generalize fill (fun t=>a.tmps.getD t undef) (E ops.size) a0=b at*
   obtain⟨bt,bd⟩:=b;obtain⟨at_,ad⟩:=a;simp only at ht hd';rw[ht,hd']
  rwa [hea]at hq
 intro fuel
 induction fuel with
 | zero=>
  intro listed a W hu hI;have hr:Region.ready .any ops listed= []:=by
   cases h:Region.ready .any ops listed with
   | nil=>rfl
   | cons i l=>
    have hm:i∈Region.ready .any ops listed:=by rw[h];exact List.mem_cons_self
    have:=(unlisted_set (mem_ready.1 hm).1).1;omega
  exact⟨hr,fin listed a W hI hr⟩
 | succ fuel ih=>
  intro listed a W hu hI;refine⟨fin listed a W hI,fun i hi=> ?_⟩;obtain⟨hl,o,ho,hall⟩:=mem_ready.1 hi;have hus:=(unlisted_set hl).1;have hi' :i < ops.size:=(Array.getElem?_eq_some_iff.1 ho).1;have hop:=(hs i o ho).2.2 W (fun t=>a.tmps.getD t undef) hI.world (knows_table e0 hs1 (o.looksAt ops) i (by omega) (fun j o' t hj ho' hd ht hc=>by
   obtain⟨_,e,he,hb,hon⟩:=(b4 i o t j o' ho ht ho' hd).resolve_right (fun h=>absurd h.1 (by omega));obtain⟨v,hv,W0,h1,h2,h3⟩:=hI.on j o' t ho' hd (hon▸hall e he hb);refine⟨W0,h1,h2, ?_⟩;have:a.tmps.getD t undef=v:=by simp[hv]
   show φ j _ (a.tmps.getD t undef) W0;rw[this]
   simpa [entOf,hc]using h3))
  have hop:=opOk_congr (a' :=a) (Region.noSelect_spec b0 i o · · ho) (fun t ht=>by
   by_cases hd:∃(k:Nat) (o' :Oper),ops[k]? =some o' ∧o'.dst=some t
   ·obtain⟨k,o',ho',hd⟩:=hd
    rcases b4 i o t k o' ho ht ho' hd with⟨hk,e,he,hb,hon⟩ | ⟨hk,e,he,hb,hon⟩
    case inr=>
     rw[fill_far a0 e0 hs1 t i (by omega) (fun j o2 hj ho2 hdd=>by have:=b2 j k o2 o' t ho2 ho' hdd hd;omega)];refine(hI.off t (fun k2 o2 ho2 hdd=> ?_)).symm;obtain rfl:=b2 k2 k o2 o' t ho2 ho' hdd hd
     cases hlk:listed.getD k2 false with
     | false=>rfl
     | true=>
      have:=hI.dep k2 o' ho' hlk e he hb;rw[hon]at this;have hil:listed.getD i false=false:=by
       have hi:=(unlisted_set hl).2
       simpa [hi]using hl
      rw[hil]at this
      cases this
    rw[fill_near a0 hs1 b2 t (by rw[hn];exact b1 k o' t ho' hd) k o' ho' hd i (by omega) hk];obtain⟨v,hv,W0,_,_,h3⟩:=hI.on k o' t ho' hd (hon▸hall e he hb);rw[hv]
    cases hc:c k with
    | none=>simp[hv]
    | some u=>simp[entOf,hc]at h3;simp[h3]
   ·rw[fill_far a0 e0 hs1 t i (by omega) (fun j o' _ ho' hdd=>hd ⟨j,o',ho',hdd⟩)]
    exact(hI.off t (fun k o' ho' hdd=>absurd ⟨k,o',ho',hdd⟩ hd)).symm) hop
  have next:∀v W',R W W' →entOf (c i) (φ i ((rd i).map fun t=>a.tmps.getD t undef)) v W' →wpAny P .any ops Q fuel (listed.setIfInBounds i true) (a.put o.dst v) W' :=fun v W' hR hv=>
   ih _ _ _ (by omega) (looseInv_next htr hrf hB hrd hn hI ho hl hall v hR hv)
  unfold wpOp;simp only[ho];replace hop:=hop.out
  split
  ·rename_i hw
   simp only[hw,if_true]at hop
   left
   unfold Oper.wp
   generalize (execOp a.eval o).run P W=r at*
   cases r with
   | ok x w' =>
    cases x <;> simp only[looseUpon]at hop <;> simp only[Oper.upon]
    ·exact next _ _ hop.1 hop.2
    ·exact next _ _ hop.1 hop.2
    ·exact hop.2.mono fun e w'' ⟨v,he,hR,hv⟩=>by subst he;exact next _ _ (htr _ _ _ hop.1 hR) hv
    ·exact hop.2.mono fun v w'' ⟨hR,hv⟩=>next _ _ (htr _ _ _ hop.1 hR) hv
   | halt x w' =>simp only[looseUpon]at hop
  ·rename_i hw
   simp only[hw]at hop;exact next _ _ (hrf _) hop

/-- **Each operation met once serves every order.** -/
theorem wp_region_loose {id:Nat}{Q:Exit→Act→World→Prop}{a:Act}{w:World}{l:List Oper}(R:World→World→Prop)(w0:World)(n:Nat)(hm:P.follows .mixedOrders=true)(hn:a.tmps.size=n)(hB:looseB n l.toArray=true)
  (hrf:∀x,R x x) (htr:∀x y z,R x y→R y z→R x z) (h0:R w0 w.drew)
  (h:wpLoose P R w0 l.toArray a (fun env=>∀W vals,R w0 W→knowsAll R w0 vals W env→Q .normal (fill vals env a) W) l []):(Code.region id l.toArray true).wp P Q a w:=by
 obtain⟨E,c,rd,φ,e0,hs,hq⟩:=wpLoose_table l [] h;refine wp_region_any hm (loose_sound (w0:=w0) htr hrf hB hn e0 (fun k o ho=>hs k o (by simpa using ho)) (by simpa using hq) _ _ _ _ (by unfold unlisted;simp) ⟨h0,rfl,rfl,by simp,fun _ _=>rfl,fun k o d ho _ hk=> ?_,fun k o ho _ hk=> ?_,fun k o ho hk=> ?_⟩) <;>
 ·exfalso
  by_cases h' :k < l.length <;> simp[h']at hk
end
end Go.Proofs.YtahbikfbjenfpaaGreatDoor

namespace Go.Proofs.YtahbikfbjenfpaaGreatDoor
open Go.RowKit

theorem Keeps.then_alloc {w w' :World}{S:List Nat}(h:Keeps w w' S)(o:Obj):Keeps w (w'.alloc o) S:=h.trans (Keeps.alloc _ _) (by simp)
theorem Keeps.then_set {w w' :World}{S:List Nat}(h:Keeps w w' S)(p:Addr)(u:Value)(hp:w.heap.size≤p.block):Keeps w (w'.setCell p u) S:=
 h.trans (Keeps.setCell _ _ _) (fun x hx hl=>by simp at hx;omega)
theorem Keeps.then_ {w w' w'' :World}{S:List Nat}(h:Keeps w w' S)(k:Keeps w' w'' []):Keeps w w'' S:=h.trans k (by simp)
section
variable {P:Program}
end

theorem infoByte:(Tryz.prog.info? 5).map (fun i=>(i.zero,i.size,i.bytes))=some (some (.int .u8 0),1,1):=by kernel_rfl
theorem undBytes:Tryz.prog.underlying 32=some (.slice 5):=by kernel_rfl

/-- The slice value v reads as the bytes l. -/
def Bytes (w:World)(B:Nat)(v:Value)(l:List UInt8):Prop:=
 ∃A c,v= .slice A l.length c∧l.length≤c∧(A=none→c=0)∧c≤maxLen∧l.length≤140737488351232∧Lies w B A (l.map byteV)

/-- v is a row of the call's own (from block base on) that reads as the bytes l. -/
abbrev Owned (w:World)(base:Nat)(v:Value)(l:List UInt8):Prop:=w.ownsRow base 5 1 v l.length (l.map byteV)

theorem Bytes.below {w w' :World}{B:Nat}{v:Value}{l:List UInt8}(h:Bytes w B v l)(hb:Below B w w'):Bytes w' B v l:=by
 obtain⟨A,c,h1,h2,h3,h4,h5,h6⟩:=h;exact⟨A,c,h1,h2,h3,h4,h5,h6.below hb⟩
theorem Bytes.lies {w:World}{B n c:Nat}{A:Option Addr}{l:List UInt8}(h:Bytes w B (.slice A n c) l):Lies w B A (l.map byteV):=by
 obtain⟨A',c',h1,h2,h3,h4,h5,h6⟩:=h;injection h1 with e1 e2 e3
 subst e1;exact h6
theorem Bytes.mono {w:World}{B B' :Nat}{v:Value}{l:List UInt8}(h:Bytes w B v l)(hB:B≤B'):Bytes w B' v l:=by
 obtain⟨A,c,h1,h2,h3,h4,h5,h6⟩:=h;exact⟨A,c,h1,h2,h3,h4,h5,h6.mono hB⟩
theorem Bytes.len {w:World}{B:Nat}{v:Value}{l:List UInt8}(h:Bytes w B v l):l.length≤140737488351232:=by
 obtain⟨A,c,h1,h2,h3,h4,h5,h6⟩:=h;exact h5
theorem Owned.bytes {w:World}{base:Nat}{v:Value}{l:List UInt8}(h:Owned w base v l)(hl:l.length≤140737488351232):Bytes w w.heap.size v l:=by
 obtain⟨A,c,rfl,h1,h2⟩:=own_slice h;refine⟨A,c,rfl,h1, ?_,h2,hl,Lies.of_own h⟩;rintro rfl
 rcases h.2 with⟨hv,_⟩ | ⟨g,cap,cur,hv,_⟩
 ·injection hv
 ·cases hv
theorem Owned.block {w:World}{base n c:Nat}{ad:Addr}{l:List UInt8}(h:w.ownsRow base 5 1 (.slice (some ad) n c) n (l.map byteV)):base≤ad.block∧ad.block < w.heap.size:=h.lt _ rfl
theorem Owned.parts {w:World}{base:Nat}{v:Value}{l:List UInt8}(h:Owned w base v l):∃A c,v= .slice A l.length c∧l.length≤c∧c≤maxLen∧(A=none→c=0)∧Lies w w.heap.size A (l.map byteV):=by
 obtain⟨A,c,rfl,h1,h2⟩:=own_slice h;refine⟨A,c,rfl,h1,h2, ?_,Lies.of_own h⟩;rintro rfl
 rcases h.2 with⟨hv,_⟩ | ⟨g,cap,cur,hv,_⟩
 ·injection hv
 ·cases hv

theorem run_empty_own (w:World)(base:Nat)(hb:base≤w.heap.size):(w.alloc (.cells #[] 5)).ownsRow base 5 1 (.slice (some ⟨w.heap.size,0,none⟩) 0 0) 0 []:=
 ⟨rfl,.inr ⟨w.heap.size,0, #[],rfl,hb,heap_alloc_new w _,Nat.le_refl _,by simp[maxLen],rfl,rfl⟩⟩
end Go.Proofs.YtahbikfbjenfpaaGreatDoor

namespace Go.Proofs.YtahbikfbjenfpaaGreatDoor

/-- All that was there stays. -/
abbrev KeepsAll (w w' :World):Prop:=Keeps w w' []

theorem Lies.keeps {w w' :World}{A:Option Addr}{xs:List Value}(h:Lies w w.heap.size A xs)(hk:Keeps w w' []):Lies w' w'.heap.size A xs:=(h.below (hk.below (Nat.le_refl _) (by simp))).mono hk.size
theorem Row.keeps {w w' :World}{g:Nat}{t:TypeId}{cs:Array Value}(h:Row w g t cs)(hk:Keeps w w' []):Row w' g t cs:=h.keep hk (by simp)

section
variable {P:Program} {R:World→World→Prop} {w0:World} {ops:Array Oper} {a0:Act} {Q:List Ent→Prop} {o:Oper} {rest:List Oper} {env:List Ent}

theorem loose_nil (h:Q env):wpLoose P R w0 ops a0 Q [] env:=h
/-- One operation whose value is known. -/
theorem loose_is (v:Value)(h:∀W vals,R w0 W→knows R w0 vals (o.looksAt ops) W env→opOk P R ops (fill vals env a0) o (fun u _=>u=v) W)
  (hk:wpLoose P R w0 ops a0 Q rest (addEnt o.dst (some v) [] (fun _ _ _=>True) env)):wpLoose P R w0 ops a0 Q (o::rest) env:=
 ⟨some v, [],_,(fun _ h=>nomatch h),h,hk⟩
/-- One operation of whose value something is known. -/
theorem loose_has (φ:Value→World→Prop)(h:∀W vals,R w0 W→knows R w0 vals (o.looksAt ops) W env→∀φ' :Value→World→Prop,RowKit.Hid (∀u w,φ u w→φ' u w)→opOk P R ops (fill vals env a0) o φ' W)
  (hk:wpLoose P R w0 ops a0 Q rest (addEnt o.dst none [] (fun _=>φ) env)):wpLoose P R w0 ops a0 Q (o::rest) env:=
 ⟨none, [],fun _=>φ,(fun _ h=>nomatch h),fun W vals hW hkn=>h W vals hW hkn φ (zh fun _ _ h=>h),hk⟩
/-- One operation of whose value, and of what it read, something is known. -/
theorem loose_had (rd:List Tmp)(φ:List Value→Value→World→Prop)(hrd:rd.all (waitsB ops o)=true)(h:∀W vals,R w0 W→knows R w0 vals (o.looksAt ops) W env→∀φ' :Value→World→Prop,RowKit.Hid (∀u w,φ (rd.map vals) u w→φ' u w)→opOk P R ops (fill vals env a0) o φ' W)
  (hk:wpLoose P R w0 ops a0 Q rest (addEnt o.dst none rd φ env)):wpLoose P R w0 ops a0 Q (o::rest) env:=
 ⟨none,rd,φ,fun t ht=>List.all_eq_true.1 hrd t ht,fun W vals hW hkn=>h W vals hW hkn _ (zh fun _ _ h=>h),hk⟩
/-- One operation that is not wanted. -/
theorem loose_off (hw:∀vals:Tmp→Value,Region.wanted o (yielded ops (fill vals env a0).tmps)=false)(hk:wpLoose P R w0 ops a0 Q rest (addEnt o.dst (some undef) [] (fun _ _ _=>True) env)):wpLoose P R w0 ops a0 Q (o::rest) env:=
 ⟨some undef, [],fun _ _ _=>True,(fun _ h=>nomatch h),fun W vals _ _=>⟨by rw[hw vals];exact rfl⟩,hk⟩
theorem looseUpon_calls {W:World}{φ:Value→World→Prop}{f:FuncId}{args:Array Value}(h:Calls P f args W (fun e w'' =>∃v,e= .returned v∧Keeps W w'' []∧φ v w'')):
  looseUpon P KeepsAll W φ (.ok (.enter f args) W):=⟨Keeps.refl _ _,h⟩
theorem looseUpon_has {W:World}{φ φ' :Value→World→Prop}{f:FuncId}{args:Array Value}(hφ:RowKit.Hid (∀u w,φ u w→φ' u w))(h:Calls P f args W (fun e w'' =>∃v,e= .returned v∧Keeps W w'' []∧φ v w'')):
  looseUpon P KeepsAll W φ' (.ok (.enter f args) W):=⟨Keeps.refl _ _,h.mono fun _ _ ⟨v,he,hk,hv⟩=>⟨v,he,hk,hφ.out _ _ hv⟩⟩
theorem looseUpon_value {W W' :World}{φ φ' :Value→World→Prop}{v:Value}(hφ:RowKit.Hid (∀u w,φ u w→φ' u w))(hk:Keeps W W' [])(h:φ v W'):looseUpon P KeepsAll W φ' (.ok (.value v) W'):=⟨hk,hφ.out _ _ h⟩
theorem wp_region_keeps {id:Nat}{Q:Exit→Act→World→Prop}{a:Act}{w:World}{l:List Oper}(n:Nat)(hm:P.follows .mixedOrders=true)(hn:a.tmps.size=n)(hB:looseB n l.toArray=true)
  (h:wpLoose P KeepsAll w l.toArray a (fun env=>∀W vals,Keeps w W []→knowsAll KeepsAll w vals W env→Q .normal (fill vals env a) W) l []):(Code.region id l.toArray true).wp P Q a w:=
 wp_region_loose KeepsAll w n hm hn hB (fun _=>Keeps.refl _ _) (fun _ _ _ h k=>h.trans k (by simp)) (Keeps.drew _) h
end
section
variable {P:Program} {w0:World} {ops:Array Oper} {a0:Act} {Q:List Ent→Prop} {o:Oper} {rest:List Oper} {env:List Ent}
/-- One whose value the walk finds. -/
theorem ls {v:Value}(hk:wpLoose P KeepsAll w0 ops a0 Q rest (addEnt o.dst (some v) [] (fun _ _ _=>True) env))
  (h:∀W vals,KeepsAll w0 W→knows KeepsAll w0 vals (o.looksAt ops) W env→opOk P KeepsAll ops (fill vals env a0) o (fun u _=>u=v) W:=by
   intro W vals hW hkn;clear hkn;refine⟨?_⟩;simp only[fill];go_simp
   first | exact⟨Keeps.refl _ _,rfl⟩ | exact⟨Keeps.alloc _ _,rfl⟩):wpLoose P KeepsAll w0 ops a0 Q (o::rest) env:=loose_is v h hk
end
section
variable {P:Program} {R:World→World→Prop} {w0:World} {ops:Array Oper} {a0:Act} {Q:List Ent→Prop} {o:Oper} {rest:List Oper} {env:List Ent}
/-- One that its guard passes over. -/
theorem lo (hk:wpLoose P R w0 ops a0 Q rest (addEnt o.dst (some undef) [] (fun _ _ _=>True) env))(hw:∀vals:Tmp→Value,Region.wanted o (yielded ops (fill vals env a0).tmps)=false:=by intro _;kernel_rfl):wpLoose P R w0 ops a0 Q (o::rest) env:=loose_off hw hk
end
end Go.Proofs.YtahbikfbjenfpaaGreatDoor

namespace Go.Proofs.YtahbikfbjenfpaaGreatDoor
open Go.RowKit

/-- All that was there stays, but that a block from B on may turn from O1 to O2. -/
structure KeepsF (B:Nat)(O1 O2:Obj)(w w' :World):Prop where
 os:w'.os=w.os
 tape:w'.tape=w.tape
 output:w'.output=w.output
 size:w.heap.size≤w'.heap.size
 block:∀k,k < w.heap.size→w'.heap[k]? =w.heap[k]?∨(B≤k∧w.heap[k]? =some O1∧w'.heap[k]? =some O2)
section
variable {B:Nat} {O1 O2:Obj} {w w' w'' :World}
end
section
variable {P:Program} {B:Nat} {O1 O2:Obj}
end

section
variable {P:Program} {R:World→World→Prop} {w0:World} {ops:Array Oper} {vals:Tmp→Value}

theorem loose_tail_sound {n n0:Nat}{lt:List Oper}{a0:Act}{c:Nat→Option Value}{rd:Nat→List Tmp}{φ:Nat→List Value→Value→World→Prop}{E:Nat→List Ent}{Q:Exit→Act→World→Prop}(htr:∀x y z,R x y→R y z→R x z)(hrf:∀x,R x x)
  (hB:looseB n ops=true) (hsk:Region.sinkB .any ops n0=true) (hch:Region.chainB .any ops n0=true) (hn0:n0 < ops.size) (hlt:∀j,lt[j]? =ops[n0+j]?)
  (hsq:Region.seqB .any ops lt.length n0 ((Array.range ops.size).map fun k=>decide (k < n0))=true) (hul:unlisted ((Array.range ops.size).map fun k=>decide (k < n0))=lt.length) (hn:a0.tmps.size=n) (e0:E 0= [])
  (hs:∀k o,ops[k]? =some o→E (k+1)=addEnt o.dst (c k) (rd k) (φ k) (E k)∧(∀t∈rd k,waitsB ops o t=true)∧(k < n0→∀W vals,R w0 W→knows R w0 vals (o.looksAt ops) W (E k)→opOk P R ops (fill vals (E k) a0) o (entOf (c k) (φ k ((rd k).map vals))) W))
  (hq:∀W vals,R w0 W→knowsAll R w0 vals W (E n0)→wpList P ops Q lt (fill vals (E n0) a0) W):
  ∀(fuel:Nat) (listed:Array Bool) (a:Act) (W:World),unlisted listed=fuel→(∀t,n0≤t→t < ops.size→listed.getD t true=false)→LooseInv R w0 ops a0 c rd φ listed a W→wpAny P .any ops Q fuel listed a W:=by
 obtain⟨b0,b1,b2,b3,b4⟩:=looseB_spec hB;have hs1:=fun k o ho=>(hs k o ho).1
 have hrd:=fun k o ho=>(hs k o ho).2.1
 have fin:∀(listed:Array Bool) (a:Act) (W:World),LooseInv R w0 ops a0 c rd φ listed a W→(∀t,n0≤t→t < ops.size→listed.getD t true=false)→(∀k,k < n0→listed.getD k false=true)→wpAny P .any ops Q (unlisted listed) listed a W:=by
  intro listed a W hI htl hall;have hle:listed=(Array.range ops.size).map fun k=>decide (k < n0):=by
   refine Array.ext (by simp[hI.lsize]) fun k h1 h2=> ?_
   have hk:k < ops.size:=by rw[←hI.lsize];exact h1
   simp only[Array.getElem_map,Array.getElem_range]
   by_cases hkn:k < n0
   ·have:=hall k hkn
    simp[h1]at this;rw[this];simp[hkn]
   ·have:=htl k (by omega) hk
    simp[h1]at this;rw[this];simp[hkn]
  have hq:=hq W (fun t=>a.tmps.getD t undef) hI.world (knowsAll_table e0 hs1 n0 (by omega) (fun j o t hj ho hd hc=>by
   obtain⟨v,hv,W0,h1,h2,h3⟩:=hI.on j o t ho hd (hall j hj);refine⟨W0,h1,h2, ?_⟩;have:a.tmps.getD t undef=v:=by simp[hv]
   show φ j _ (a.tmps.getD t undef) W0;rw[this]
   simpa [entOf,hc]using h3) (fun j o hj ho hd hc=>by
   obtain⟨u,W0,h1,h2,h3⟩:=hI.onn j o ho hd (hall j hj);exact⟨u,W0,h1,h2,by simpa [entOf,hc]using h3⟩))
  have hea:fill (fun t=>a.tmps.getD t undef) (E n0) a0=a:=by
   obtain⟨s1,s2⟩:=fill_size (vals:=fun t=>a.tmps.getD t undef) (E n0) a0;have ht:(fill (fun t=>a.tmps.getD t undef) (E n0) a0).tmps=a.tmps:=by
    refine Array.ext_getElem? fun t=> ?_
    by_cases hd:∃(k:Nat) (o:Oper),k < n0∧ops[k]? =some o∧o.dst=some t
    ·obtain⟨k,o,hk,ho,hd⟩:=hd
     rw[fill_near a0 hs1 b2 t (by rw[hn];exact b1 k o t ho hd) k o ho hd n0 (by omega) hk];obtain⟨v,hv,W0,_,_,h3⟩:=hI.on k o t ho hd (hall k hk);rw[hv]
     cases hc:c k with
     | none=>simp[hv]
     | some u=>simp[entOf,hc]at h3;simp[h3]
    ·rw[fill_far a0 e0 hs1 t n0 (by omega) (fun j o hj ho hdd=>hd ⟨j,o,hj,ho,hdd⟩)]
     refine(hI.off t (fun k o ho hdd=> ?_)).symm;have hk:n0≤k:=by
      rcases Nat.lt_or_ge k n0 with h | h
      ·exact absurd ⟨k,o,h,ho,hdd⟩ hd
      ·exact h
     exact getD_both (htl k hk (Array.getElem?_eq_some_iff.1 ho).1)
   have hd' :(fill (fun t=>a.tmps.getD t undef) (E n0) a0).defers=a.defers:=by rw[s2,hI.defers]
   generalize fill (fun t=>a.tmps.getD t undef) (E n0) a0=b at*
   obtain⟨bt,bd⟩:=b;obtain⟨at_,ad⟩:=a;simp only at ht hd';rw[ht,hd']
  rw[hea]at hq;rw[hle,hul];exact wpAny_of_seq lt n0 _ a W hlt hsq hq
 intro fuel
 induction fuel with
 | zero=>
  intro listed a W hu htl hI;rw[←hu];refine fin listed a W hI htl fun k hk=> ?_
  cases hl:listed.getD k false with
  | true=>rfl
  | false=>
   have hl' :listed.getD k true=false:=by
    have:k < listed.size:=by rw[hI.lsize];omega
    simpa [this]using hl
   have:=(unlisted_set hl').1;omega
 | succ fuel ih=>
  intro listed a W hu htl hI
  by_cases hpre:∀k,k < n0→listed.getD k false=true
  ·rw[←hu]
   exact fin listed a W hI htl hpre
  have hex:∃k,k < n0∧listed.getD k false=false:=by
   simp only[Classical.not_forall]at hpre;obtain⟨k,hk,h⟩:=hpre;exact⟨k,hk,by simpa using h⟩
  have inv:HeadInv .any ops n0 listed:=⟨hI.lsize,hI.dep,htl⟩;refine⟨fun hr=> ?_,fun i hi=> ?_⟩
  ·exfalso
   have hall:∀m k,k < m→k < n0→listed.getD k false=true:=by
    intro m
    induction m with
    | zero=>intro k h;omega
    | succ m ih=>
     intro k hk hks
     cases hl:listed.getD k false with
     | true=>rfl
     | false=>
      exfalso
      have ho:ops[k]? =some (ops[k]'(by omega)):=Array.getElem?_eq_getElem (by omega);have hl' :listed.getD k true=false:=by
       have:k < listed.size:=by rw[hI.lsize];omega
       simpa [this]using hl
      have:k∈Region.ready .any ops listed:=mem_ready.2 ⟨hl',_,ho,fun e he hb=>by
       have hlt:=b3 k _ ho e he hb;exact ih e.on (by omega) (by omega)⟩
      rw[hr]at this
      cases this
   obtain⟨k,hk,h⟩:=hex;rw[hall (k+1) k (by omega) hk]at h
   cases h
  obtain⟨hl,o,ho,hall⟩:=mem_ready.1 hi;have hin:i < n0:=by
   rcases Nat.lt_or_ge i n0 with h | h
   ·exact h
   ·exfalso
    obtain⟨k,hk,hkl⟩:=hex;exact tail_waits hsk hch hn0 inv (n0 - k) k rfl hk (getD_in (by rw[hI.lsize];omega) hkl) i h hi
  have hus:=(unlisted_set hl).1;have hi' :i < ops.size:=(Array.getElem?_eq_some_iff.1 ho).1;have hop:=(hs i o ho).2.2 hin W (fun t=>a.tmps.getD t undef) hI.world (knows_table e0 hs1 (o.looksAt ops) i (by omega) (fun j o' t hj ho' hd ht hc=>by
   obtain⟨_,e,he,hb,hon⟩:=(b4 i o t j o' ho ht ho' hd).resolve_right (fun h=>absurd h.1 (by omega));obtain⟨v,hv,W0,h1,h2,h3⟩:=hI.on j o' t ho' hd (hon▸hall e he hb);refine⟨W0,h1,h2, ?_⟩;have:a.tmps.getD t undef=v:=by simp[hv]
   show φ j _ (a.tmps.getD t undef) W0;rw[this]
   simpa [entOf,hc]using h3))
  have hop:=opOk_congr (a' :=a) (Region.noSelect_spec b0 i o · · ho) (fun t ht=>by
   by_cases hd:∃(k:Nat) (o' :Oper),ops[k]? =some o' ∧o'.dst=some t
   ·obtain⟨k,o',ho',hd⟩:=hd
    rcases b4 i o t k o' ho ht ho' hd with⟨hk,e,he,hb,hon⟩ | ⟨hk,e,he,hb,hon⟩
    case inr=>
     rw[fill_far a0 e0 hs1 t i (by omega) (fun j o2 hj ho2 hdd=>by have:=b2 j k o2 o' t ho2 ho' hdd hd;omega)];refine(hI.off t (fun k2 o2 ho2 hdd=> ?_)).symm;obtain rfl:=b2 k2 k o2 o' t ho2 ho' hdd hd
     cases hlk:listed.getD k2 false with
     | false=>rfl
     | true=>
      have:=hI.dep k2 o' ho' hlk e he hb;rw[hon]at this;have hil:listed.getD i false=false:=by
       have hi:=(unlisted_set hl).2
       simpa [hi]using hl
      rw[hil]at this
      cases this
    rw[fill_near a0 hs1 b2 t (by rw[hn];exact b1 k o' t ho' hd) k o' ho' hd i (by omega) hk];obtain⟨v,hv,W0,_,_,h3⟩:=hI.on k o' t ho' hd (hon▸hall e he hb);rw[hv]
    cases hc:c k with
    | none=>simp[hv]
    | some u=>simp[entOf,hc]at h3;simp[h3]
   ·rw[fill_far a0 e0 hs1 t i (by omega) (fun j o' _ ho' hdd=>hd ⟨j,o',ho',hdd⟩)]
    exact(hI.off t (fun k o' ho' hdd=>absurd ⟨k,o',ho',hdd⟩ hd)).symm) hop
  have next:∀v W',R W W' →entOf (c i) (φ i ((rd i).map fun t=>a.tmps.getD t undef)) v W' →wpAny P .any ops Q fuel (listed.setIfInBounds i true) (a.put o.dst v) W' :=fun v W' hR hv=>
   ih _ _ _ (by omega) (fun t ht ht' =>by rw[getD_set_ne true (by omega)];exact htl t ht ht') (looseInv_next htr hrf hB hrd hn hI ho hl hall v hR hv)
  unfold wpOp;simp only[ho];replace hop:=hop.out
  split
  ·rename_i hw
   simp only[hw,if_true]at hop
   left
   unfold Oper.wp
   generalize (execOp a.eval o).run P W=r at*
   cases r with
   | ok x w' =>
    cases x <;> simp only[looseUpon]at hop <;> simp only[Oper.upon]
    ·exact next _ _ hop.1 hop.2
    ·exact next _ _ hop.1 hop.2
    ·exact hop.2.mono fun e w'' ⟨v,he,hR,hv⟩=>by subst he;exact next _ _ (htr _ _ _ hop.1 hR) hv
    ·exact hop.2.mono fun v w'' ⟨hR,hv⟩=>next _ _ (htr _ _ _ hop.1 hR) hv
   | halt x w' =>simp only[looseUpon]at hop
  ·rename_i hw
   simp only[hw]at hop;exact next _ _ (hrf _) hop

/-- A table for the operations ahead, carried on behind them. -/
theorem wpLoose_table_more {a0:Act}{Q:List Ent→Prop}(n0:Nat)(l:List Oper)(hn0:n0≤l.length)(h:wpLoose P R w0 ops a0 Q (l.take n0) []):
  ∃(E:Nat→List Ent) (c:Nat→Option Value) (rd:Nat→List Tmp) (φ:Nat→List Value→Value→World→Prop),E 0= []∧
   (∀k o,l[k]? =some o→E (k+1)=addEnt o.dst (c k) (rd k) (φ k) (E k)∧(∀t∈rd k,waitsB ops o t=true)∧(k < n0→∀W vals,R w0 W→knows R w0 vals (o.looksAt ops) W (E k)→opOk P R ops (fill vals (E k) a0) o (entOf (c k) (φ k ((rd k).map vals))) W))∧Q (E n0):=by
 obtain⟨E,c,rd,φ,e0,hs,hq⟩:=wpLoose_table _ _ h;have hlen:(l.take n0).length=n0:=by rw[List.length_take];omega
 rw[hlen]at hq
 let more:Nat→List Ent:=fun k=>Nat.rec (motive:=fun _=>List Ent) (E n0) (fun j e=>addEnt ((l[n0+j]?).bind (·.dst)) none [] (fun _ _ _=>True) e) k
 refine⟨fun k=>if k≤n0 then E k else more (k - n0),fun k=>if k < n0 then c k else none,fun k=>if k < n0 then rd k else [],fun k=>if k < n0 then φ k else fun _ _ _=>True,by simp[e0], ?_,by simp[hq]⟩;intro k o ho
 by_cases hk:k < n0
 ·have ho' :(l.take n0)[k]? =some o:=by rw[List.getElem?_take_of_lt hk];exact ho
  obtain⟨h1,h2,h3⟩:=hs k o ho';simp only[hk,if_true,show k+1≤n0 from hk,show k≤n0 from Nat.le_of_lt hk];exact⟨h1,h2,fun _=>h3⟩
 ·simp only[hk,if_false,show¬k+1≤n0 by omega]
  refine⟨?_,(fun _ h=>nomatch h),fun h=>h.elim⟩;have hm:more (k+1 - n0)=addEnt o.dst none [] (fun _ _ _=>True) (more (k - n0)):=by
   rw[show k+1 - n0=(k - n0)+1 by omega];show addEnt ((l[n0+(k - n0)]?).bind (·.dst)) none [] (fun _ _ _=>True) (more (k - n0))=_;rw[show n0+(k - n0)=k by omega,ho];rfl
  rw[hm]
  by_cases hk2:k≤n0
  ·have:k=n0:=by omega
   subst this;simp only[Nat.le_refl,if_true,Nat.sub_self];rfl
  ·simp only[hk2,if_false]

theorem wp_region_tail {id:Nat}{Q:Exit→Act→World→Prop}{a:Act}{w:World}{l:List Oper}(R:World→World→Prop)(n n0:Nat)(hm:P.follows .mixedOrders=true)(hn:a.tmps.size=n)
  (hB:(looseB n l.toArray && Region.sinkB .any l.toArray n0 && Region.chainB .any l.toArray n0 && decide (n0 < l.length) && Region.seqB .any l.toArray (l.drop n0).length n0 ((Array.range l.toArray.size).map fun k=>decide (k < n0)) && decide (unlisted ((Array.range l.toArray.size).map fun k=>decide (k < n0))=(l.drop n0).length))=true)
  (hrf:∀x,R x x) (htr:∀x y z,R x y→R y z→R x z) (h0:R w w.drew)
  (h:wpLoose P R w l.toArray a (fun env=>∀W vals,R w W→knowsAll R w vals W env→wpList P l.toArray Q (l.drop n0) (fill vals env a) W) (l.take n0) []):(Code.region id l.toArray true).wp P Q a w:=by
 simp only[Bool.and_eq_true,decide_eq_true_eq]at hB;obtain⟨⟨⟨⟨⟨h1,h2⟩,h3⟩,h4⟩,h5⟩,h6⟩:=hB;obtain⟨E,c,rd,φ,e0,hs,hq⟩:=wpLoose_table_more n0 l (by omega) h;refine wp_region_any hm (loose_tail_sound (w0:=w) (n0:=n0) (lt:=l.drop n0) htr hrf h1 h2 h3 (by simpa using h4) (fun j=>by simp) h5 h6 hn e0 (fun k o ho=>hs k o (by simpa using ho)) hq _ _ _ _ ?_ (fun t ht ht' => ?_) ⟨h0,rfl,rfl,by simp,fun _ _=>rfl,fun k o d ho _ hk=> ?_,fun k o ho _ hk=> ?_,fun k o ho hk=> ?_⟩)
 ·unfold unlisted
  simp
 ·simp only[List.size_toArray]at ht'
  simp[ht']
 all_goals
  exfalso
  by_cases h' :k < l.length <;> simp[h']at hk
end

/-- A writer: its number, some that always come ahead of it, some that always come behind it. -/
structure Wr where
 k:Nat
 pre:List Nat
 aft:List Nat
/-- Those that always come behind an operation. -/
def descB (ops:Array Oper)(j:Nat):List Nat:=
 (List.range ops.size).foldl (fun acc k=>match ops[k]? with
  | some o=>if o.after.any fun e=>Region.binds .any e && (e.on==j || acc.contains e.on)then k::acc else acc
  | none=>acc) []
/-- Listed whenever one behind it is. -/
theorem descB_spec {ops:Array Oper}{listed:Array Bool}(hdep:∀k o,ops[k]? =some o→listed.getD k false=true→∀e∈o.after,Region.binds .any e=true→listed.getD e.on false=true)(j:Nat):
  ∀k,k∈descB ops j→listed.getD k false=true→listed.getD j false=true:=by
 unfold descB
 suffices h:∀(l acc:List Nat),(∀k∈acc,listed.getD k false=true→listed.getD j false=true)→∀k∈l.foldl (fun acc k=>match ops[k]? with
  | some o=>if o.after.any fun e=>Region.binds .any e && (e.on==j || acc.contains e.on)then k::acc else acc
  | none=>acc) acc,listed.getD k false=true→listed.getD j false=true from h _ [] (fun _ h=>nomatch h)
 intro l
 induction l with
 | nil=>intro acc h;exact h
 | cons a l ih=>
  intro acc h;refine ih _ fun k hk hl=> ?_
  cases ho:ops[a]? with
  | none=>simp only[ho]at hk;exact h k hk hl
  | some o=>
   simp only[ho]at hk
   split at hk
   ·rename_i hany
    rcases List.mem_cons.1 hk with rfl | hk
    ·obtain⟨e,he,hb⟩:=Array.any_eq_true'.1 hany
     simp only[Bool.and_eq_true,Bool.or_eq_true,beq_iff_eq,List.contains_iff_mem]at hb;have hd:=hdep k o ho hl e he hb.1
     rcases hb.2 with h2 | h2
     ·exact h2▸hd
     ·exact h _ h2 hd
    ·exact h k hk hl
   ·exact h k hk hl
def wrB (ops:Array Oper)(Ws:List Wr):Bool:=Ws.all fun w=>w.pre.all (fun j=>(descB ops j).contains w.k && j !=w.k) && w.aft.all (fun j=>(descB ops w.k).contains j && j !=w.k)
section
variable (Ws:List Wr) (C:World→World→Prop) (A:Nat→World→World→Prop)
/-- What an operation does. -/
structure StpK (k:Nat)(w w' :World):Prop where
 c:C w w'
 a:∀x∈Ws,x.k≠k→A x.k w w'
/-- What may have come ahead of an operation. -/
structure PreK (k:Nat)(w w' :World):Prop where
 c:C w w'
 a:∀x∈Ws,x.k=k∨k∈x.pre→A x.k w w'
/-- What may have come when an operation is through. -/
structure AftK (j:Nat)(w w' :World):Prop where
 c:C w w'
 a:∀x∈Ws,j∈x.pre→A x.k w w'
/-- What may have come between two operations. -/
structure BtwK (j k:Nat)(w w' :World):Prop where
 c:C w w'
 a:∀x∈Ws,x.k=j∨j∈x.aft∨x.k=k∨k∈x.pre→A x.k w w'
/-- What may come behind an operation. -/
structure PostK (j:Nat)(w w' :World):Prop where
 c:C w w'
 a:∀x∈Ws,x.k=j∨j∈x.aft→A x.k w w'
structure FitK:Prop where
 cr:∀x,C x x
 ct:∀x y z,C x y→C y z→C x z
 ar:∀i x,A i x x
 at_:∀i x y z,A i x y→A i y z→A i x z
end
section
variable (P:Program) (Ws:List Wr) (C:World→World→Prop) (A:Nat→World→World→Prop) (w0:World) (ops:Array Oper) (vals:Tmp→Value)
def knowsK (k:Nat)(rs:List Tmp)(W:World):List Ent→Prop
 | []=>True
 | ⟨_,some _,_,_⟩::l=>knowsK k rs W l
 | ⟨none,none,_,_⟩::l=>knowsK k rs W l
 | ⟨some t,none,rd,φ⟩::l=>(t∈rs→∃W0,AftK Ws C A l.length w0 W0∧BtwK Ws C A l.length k W0 W∧φ (rd.map vals) (vals t) W0)∧knowsK k rs W l

def knowsAllK (W:World):List Ent→Prop
 | []=>True
 | ⟨_,some _,_,_⟩::l=>knowsAllK W l
 | ⟨none,none,rd,φ⟩::l=>(∃u W0,AftK Ws C A l.length w0 W0∧PostK Ws C A l.length W0 W∧φ (rd.map vals) u W0)∧knowsAllK W l
 | ⟨some t,none,rd,φ⟩::l=>(∃W0,AftK Ws C A l.length w0 W0∧PostK Ws C A l.length W0 W∧φ (rd.map vals) (vals t) W0)∧knowsAllK W l

def wpLooseK (a0:Act)(Q:List Ent→Prop):List Oper→List Ent→Prop
 | [],env=>Q env
 | o::rest,env=>∃c rd φ,(∀t∈rd,waitsB ops o t=true)∧(∀W vals,PreK Ws C A env.length w0 W→knowsK Ws C A w0 vals env.length (o.looksAt ops++rd) W env→opOk P (StpK Ws C A env.length) ops (fill vals env a0) o (entOf c (φ (rd.map vals))) W)∧wpLooseK a0 Q rest (addEnt o.dst c rd φ env)
end

section
variable {P:Program} {Ws:List Wr} {C:World→World→Prop} {A:Nat→World→World→Prop} {w0:World} {ops:Array Oper} {vals:Tmp→Value}
/-- The lexical walk's findings, told by number. -/
theorem wpLooseK_table {a0:Act}{Q:List Ent→Prop}:∀(l:List Oper) (env:List Ent),wpLooseK P Ws C A w0 ops a0 Q l env→
  ∃(E:Nat→List Ent) (c:Nat→Option Value) (rd:Nat→List Tmp) (φ:Nat→List Value→Value→World→Prop),E 0=env∧
   (∀k o,l[k]? =some o→E (k+1)=addEnt o.dst (c k) (rd k) (φ k) (E k)∧(∀t∈rd k,waitsB ops o t=true)∧∀W vals,PreK Ws C A (env.length+k) w0 W→knowsK Ws C A w0 vals (env.length+k) (o.looksAt ops++rd k) W (E k)→opOk P (StpK Ws C A (env.length+k)) ops (fill vals (E k) a0) o (entOf (c k) (φ k ((rd k).map vals))) W)∧Q (E l.length)
 | [],env,h=>⟨fun _=>env,fun _=>none,fun _=> [],fun _ _ _ _=>True,rfl,fun k o ho=>by simp at ho,h⟩
 | o::rest,env,h=>by
  obtain⟨c,rd,φ,h0,h1,h2⟩:=h;obtain⟨E,c',rd',φ',e0,hs,hq⟩:=wpLooseK_table rest _ h2;refine⟨fun | 0=>env | k+1=>E k,fun | 0=>c | k+1=>c' k,fun | 0=>rd | k+1=>rd' k,fun | 0=>φ | k+1=>φ' k,rfl, ?_,hq⟩;intro k o' ho'
  cases k with
  | zero=>
   simp only[zgz,Option.some.injEq]at ho';subst ho';exact⟨e0,h0,h1⟩
  | succ k=>
   have h3:=hs k o' (by simpa using ho');have e:(addEnt o.dst c rd φ env).length+k=env.length+(k+1):=by simp[addEnt];omega
   rw[e]at h3;exact h3

theorem knowsK_table {E:Nat→List Ent}{c:Nat→Option Value}{rd:Nat→List Tmp}{φ:Nat→List Value→Value→World→Prop}(e0:E 0= []){W:World}{i:Nat}(hl:∀k,k≤ops.size→(E k).length=k)
  (hs:∀k o,ops[k]? =some o→E (k+1)=addEnt o.dst (c k) (rd k) (φ k) (E k)) (rs:List Tmp):∀k,k≤ops.size→(∀j o t,j < k→ops[j]? =some o→o.dst=some t→t∈rs→c j=none→∃W0,AftK Ws C A j w0 W0∧BtwK Ws C A j i W0 W∧φ j ((rd j).map vals) (vals t) W0)→knowsK Ws C A w0 vals i rs W (E k)
 | 0,_,_=>by rw[e0];trivial
 | k+1,hk,h=>by
  have ih:=knowsK_table e0 hl hs rs k (by omega) (fun j o t hj=>h j o t (by omega));have hok:ops[k]? =some ops[k]:=Array.getElem?_eq_getElem (by omega);rw[hs k _ hok];unfold addEnt
  cases hdk:ops[k].dst with
  | none=>cases hc:c k <;> exact ih
  | some d' =>
   cases hc:c k with
   | some v=>exact ih
   | none=>exact⟨fun hm=>by rw[hl k (by omega)];exact h k _ d' (by omega) hok hdk hm hc,ih⟩
theorem knowsAllK_table {E:Nat→List Ent}{c:Nat→Option Value}{rd:Nat→List Tmp}{φ:Nat→List Value→Value→World→Prop}(e0:E 0= []){W:World}(hl:∀k,k≤ops.size→(E k).length=k)
  (hs:∀k o,ops[k]? =some o→E (k+1)=addEnt o.dst (c k) (rd k) (φ k) (E k)):∀k,k≤ops.size→(∀j o t,j < k→ops[j]? =some o→o.dst=some t→c j=none→∃W0,AftK Ws C A j w0 W0∧PostK Ws C A j W0 W∧φ j ((rd j).map vals) (vals t) W0)→
  (∀j o,j < k→ops[j]? =some o→o.dst=none→c j=none→∃u W0,AftK Ws C A j w0 W0∧PostK Ws C A j W0 W∧φ j ((rd j).map vals) u W0)→knowsAllK Ws C A w0 vals W (E k)
 | 0,_,_,_=>by rw[e0];trivial
 | k+1,hk,h,hn=>by
  have ih:=knowsAllK_table e0 hl hs k (by omega) (fun j o t hj=>h j o t (by omega)) (fun j o hj=>hn j o (by omega));have hok:ops[k]? =some ops[k]:=Array.getElem?_eq_getElem (by omega);rw[hs k _ hok];unfold addEnt
  cases hdk:ops[k].dst with
  | none=>
   cases hc:c k with
   | some v=>exact ih
   | none=>exact⟨by rw[hl k (by omega)];exact hn k _ (by omega) hok hdk hc,ih⟩
  | some d' =>
   cases hc:c k with
   | some v=>exact ih
   | none=>exact⟨by rw[hl k (by omega)];exact h k _ d' (by omega) hok hdk hc,ih⟩

/-- What stands while the region runs. -/
structure LooseInvK (Ws:List Wr)(C:World→World→Prop)(A:Nat→World→World→Prop)(w0:World)(ops:Array Oper)(a0:Act)(c:Nat→Option Value)(rd:Nat→List Tmp)(φ:Nat→List Value→Value→World→Prop)(listed:Array Bool)(a:Act)(W:World):Prop where
 world:C w0 W
 worldA:∀x∈Ws,listed.getD x.k false=false→A x.k w0 W
 defers:a.defers=a0.defers
 size:a.tmps.size=a0.tmps.size
 lsize:listed.size=ops.size
 off:∀t,(∀k o,ops[k]? =some o→o.dst=some t→listed.getD k false=false)→a.tmps[t]? =a0.tmps[t]?
 on:∀k o d,ops[k]? =some o→o.dst=some d→listed.getD k false=true→∃v,a.tmps[d]? =some v∧∃W0,AftK Ws C A k w0 W0∧C W0 W∧(∀x∈Ws,x.k=k∨k∈x.aft∨listed.getD x.k false=false→A x.k W0 W)∧entOf (c k) (φ k ((rd k).map fun t=>a.tmps.getD t undef)) v W0
 onn:∀k o,ops[k]? =some o→o.dst=none→listed.getD k false=true→∃u W0,AftK Ws C A k w0 W0∧C W0 W∧(∀x∈Ws,x.k=k∨k∈x.aft∨listed.getD x.k false=false→A x.k W0 W)∧entOf (c k) (φ k ((rd k).map fun t=>a.tmps.getD t undef)) u W0
 dep:∀k o,ops[k]? =some o→listed.getD k false=true→∀e∈o.after,Region.binds .any e=true→listed.getD e.on false=true

theorem wrB_pre (h:wrB ops Ws=true){x:Wr}(hx:x∈Ws){j:Nat}(hj:j∈x.pre):x.k∈descB ops j∧j≠x.k:=by
 have:=List.all_eq_true.1 h x hx;simp only[Bool.and_eq_true]at this;have:=List.all_eq_true.1 this.1 j hj
 simpa using this
theorem wrB_aft (h:wrB ops Ws=true){x:Wr}(hx:x∈Ws){j:Nat}(hj:j∈x.aft):j∈descB ops x.k∧j≠x.k:=by
 have:=List.all_eq_true.1 h x hx;simp only[Bool.and_eq_true]at this;have:=List.all_eq_true.1 this.2 j hj
 simpa using this

theorem looseInvK_next {n:Nat}{a0:Act}{c:Nat→Option Value}{rd:Nat→List Tmp}{φ:Nat→List Value→Value→World→Prop}{listed:Array Bool}{a:Act}{W W' :World}(hF:FitK C A)(hwr:wrB ops Ws=true)
  (hB:looseB n ops=true) (hrd:∀k o,ops[k]? =some o→∀t∈rd k,waitsB ops o t=true) (hn:a0.tmps.size=n) (hI:LooseInvK Ws C A w0 ops a0 c rd φ listed a W) {i:Nat} {o:Oper} (ho:ops[i]? =some o) (hl:listed.getD i true=false) (hall:∀e∈o.after,Region.binds .any e=true→listed.getD e.on false=true) (v:Value) (hRS:StpK Ws C A i W W') (hv:entOf (c i) (φ i ((rd i).map fun t=>a.tmps.getD t undef)) v W'):
  LooseInvK Ws C A w0 ops a0 c rd φ (listed.setIfInBounds i true) (a.put o.dst v) W' :=by
 obtain⟨_,b1,b2,b3,b4⟩:=looseB_spec hB;have hil:listed.getD i false=false:=by
  have hi:=(unlisted_set hl).2
  simpa [hi]using hl
 have hisz:i < listed.size:=(unlisted_set hl).2;have hset:(listed.setIfInBounds i true).getD i false=true:=by simp[hisz]
 have hless:∀m,(listed.setIfInBounds i true).getD m false=false→m≠i∧listed.getD m false=false:=by
  intro m hm
  by_cases hmi:i=m
  ·subst hmi;rw[hset]at hm;cases hm
  ·rw[getD_set_ne _ hmi]at hm;exact⟨fun e=>hmi e.symm,hm⟩
 -- what an operation that is listed reads stays
 have keep:∀k o',ops[k]? =some o' →(k=i∨listed.getD k false=true)→((rd k).map fun t=>(a.put o.dst v).tmps.getD t undef)=(rd k).map fun t=>a.tmps.getD t undef:=by
  intro k o' ho' hk;refine List.map_congr_left fun t ht=> ?_
  replace ht:=hrd k o' ho' t ht
  cases hd:o.dst with
  | none=>rfl
  | some d=>
   have hne:d≠t:=by
    rintro rfl;obtain⟨e,he,hb,hon⟩:=waitsB_spec ht ho hd
    rcases hk with rfl | hk
    ·rw[ho]at ho'
     injection ho' with ho'
     subst ho';have:=hall e he hb;rw[hon,hil]at this
     cases this
    ·have:=hI.dep k o' ho' hk e he hb
     rw[hon,hil]at this
     cases this
   have:=put_get_ne (a:=a) (v:=v) hne;simp only[Array.getD_eq_getD_getElem?,this]
 have stepA:∀(k:Nat) (W0:World),i≠k→listed.getD k false=true→(∀x∈Ws,x.k=k∨k∈x.aft∨listed.getD x.k false=false→A x.k W0 W)→∀x∈Ws,x.k=k∨k∈x.aft∨(listed.setIfInBounds i true).getD x.k false=false→A x.k W0 W' :=by
  intro k W0 hik hk h x hx hc;have hne:x.k≠i:=by
   rintro rfl
   rcases hc with hc | hc | hc
   ·exact hik hc
   ·have:=descB_spec hI.dep x.k k (wrB_aft hwr hx hc).1 hk
    rw[hil]at this
    cases this
   ·rw[hset]at hc;cases hc
  refine hF.at_ _ _ _ _ (h x hx ?_) (hRS.a x hx hne)
  rcases hc with hc | hc | hc
  ·exact .inl hc
  ·exact .inr (.inl hc)
  ·exact .inr (.inr (hless _ hc).2)
 have aftI:AftK Ws C A i w0 W' :=by
  refine⟨hF.ct _ _ _ hI.world hRS.c,fun x hx hp=> ?_⟩;obtain⟨h1,h2⟩:=wrB_pre hwr hx hp;refine hF.at_ _ _ _ _ (hI.worldA x hx ?_) (hRS.a x hx h2.symm)
  cases hlx:listed.getD x.k false with
  | false=>rfl
  | true=>
   have:=descB_spec hI.dep i x.k h1 hlx;rw[hil]at this
   cases this
 refine⟨hF.ct _ _ _ hI.world hRS.c,fun x hx hu=> ?_,by rw[put_defs,hI.defers],by rw[put_size,hI.size],by simp[hI.lsize], ?_, ?_, ?_, ?_⟩
 ·obtain⟨h1,h2⟩:=hless _ hu
  exact hF.at_ _ _ _ _ (hI.worldA x hx h2) (hRS.a x hx h1)
 ·intro t h
  have hne:o.dst≠some t:=fun hd=>by
   have:=h i o ho hd;have hi:=(unlisted_set hl).2;simp[hi]at this
  have e:(a.put o.dst v).tmps[t]? =a.tmps[t]? :=by
   cases hd:o.dst with
   | none=>rfl
   | some d=>exact put_get_ne (fun e=>hne (by rw[hd,e]))
  rw[e];refine hI.off t (fun k o' ho' hd' => ?_);have:=h k o' ho' hd';have hki:i≠k:=fun e=>by subst e;rw[ho]at ho';injection ho' with ho';subst ho';exact hne hd'
  rwa [getD_set_ne _ hki]at this
 ·intro k o' d ho' hd' hk
  by_cases hki:i=k
  ·subst hki
   rw[ho]at ho';injection ho' with ho'
   subst ho';rw[keep i o ho (.inl rfl)];rw[hd'];exact⟨v,put_get_eq (by rw[hI.size,hn];exact b1 i o d ho hd'),W',aftI,hF.cr _,fun _ _ _=>hF.ar _ _,hv⟩
  ·rw[getD_set_ne _ hki]at hk
   have hk0:=hk;obtain⟨u,hu,W0,h1,h2,h4,h3⟩:=hI.on k o' d ho' hd' hk;rw[keep k o' ho' (.inr hk)];refine⟨u, ?_,W0,h1,hF.ct _ _ _ h2 hRS.c,stepA k W0 hki hk0 h4,h3⟩
   cases hd:o.dst with
   | none=>exact hu
   | some d2=>
    rw[put_get_ne (fun e=>hki (b2 i k o o' d ho ho' (by rw[hd,e]) hd'))];exact hu
 ·intro k o' ho' hd' hk
  by_cases hki:i=k
  ·subst hki
   rw[ho]at ho';injection ho' with ho'
   subst ho';rw[keep i o ho (.inl rfl)];exact⟨v,W',aftI,hF.cr _,fun _ _ _=>hF.ar _ _,hv⟩
  ·rw[getD_set_ne _ hki]at hk
   obtain⟨u,W0,h1,h2,h4,h3⟩:=hI.onn k o' ho' hd' hk;rw[keep k o' ho' (.inr hk)];exact⟨u,W0,h1,hF.ct _ _ _ h2 hRS.c,stepA k W0 hki hk h4,h3⟩
 ·intro k o' ho' hk e he hb
  have hmono:∀m,listed.getD m false=true→(listed.setIfInBounds i true).getD m false=true:=by
   intro m hm
   by_cases hmi:i=m
   ·subst hmi
    rw[hil]at hm
    cases hm
   ·rw[getD_set_ne _ hmi];exact hm
  by_cases hki:i=k
  ·subst hki
   rw[ho]at ho';injection ho' with ho'
   subst ho';exact hmono _ (hall e he hb)
  ·rw[getD_set_ne _ hki]at hk
   exact hmono _ (hI.dep k o' ho' hk e he hb)

theorem loose_tail_soundK {n n0:Nat}{lt:List Oper}{a0:Act}{c:Nat→Option Value}{rd:Nat→List Tmp}{φ:Nat→List Value→Value→World→Prop}{E:Nat→List Ent}{Q:Exit→Act→World→Prop}(hF:FitK C A)(hwr:wrB ops Ws=true)
  (hB:looseB n ops=true) (hsc:n0 < ops.size→Region.sinkB .any ops n0=true∧Region.chainB .any ops n0=true) (hn0:n0≤ops.size) (hlt:∀j,lt[j]? =ops[n0+j]?)
  (hsq:Region.seqB .any ops lt.length n0 ((Array.range ops.size).map fun k=>decide (k < n0))=true) (hul:unlisted ((Array.range ops.size).map fun k=>decide (k < n0))=lt.length) (hn:a0.tmps.size=n) (e0:E 0= [])
  (hlen:∀k,k≤ops.size→(E k).length=k)
  (hs:∀k o,ops[k]? =some o→E (k+1)=addEnt o.dst (c k) (rd k) (φ k) (E k)∧(∀t∈rd k,waitsB ops o t=true)∧(k < n0→∀W vals,PreK Ws C A k w0 W→knowsK Ws C A w0 vals k (o.looksAt ops++rd k) W (E k)→opOk P (StpK Ws C A k) ops (fill vals (E k) a0) o (entOf (c k) (φ k ((rd k).map vals))) W))
  (hq:∀W vals,C w0 W→knowsAllK Ws C A w0 vals W (E n0)→wpList P ops Q lt (fill vals (E n0) a0) W):
  ∀(fuel:Nat) (listed:Array Bool) (a:Act) (W:World),unlisted listed=fuel→(∀t,n0≤t→t < ops.size→listed.getD t true=false)→LooseInvK Ws C A w0 ops a0 c rd φ listed a W→wpAny P .any ops Q fuel listed a W:=by
 obtain⟨b0,b1,b2,b3,b4⟩:=looseB_spec hB;have hs1:=fun k o ho=>(hs k o ho).1
 have hrd:=fun k o ho=>(hs k o ho).2.1
 have fin:∀(listed:Array Bool) (a:Act) (W:World),LooseInvK Ws C A w0 ops a0 c rd φ listed a W→(∀t,n0≤t→t < ops.size→listed.getD t true=false)→(∀k,k < n0→listed.getD k false=true)→wpAny P .any ops Q (unlisted listed) listed a W:=by
  intro listed a W hI htl hall;have hle:listed=(Array.range ops.size).map fun k=>decide (k < n0):=by
   refine Array.ext (by simp[hI.lsize]) fun k h1 h2=> ?_
   have hk:k < ops.size:=by rw[←hI.lsize];exact h1
   simp only[Array.getElem_map,Array.getElem_range]
   by_cases hkn:k < n0
   ·have:=hall k hkn
    simp[h1]at this;rw[this];simp[hkn]
   ·have:=htl k (by omega) hk
    simp[h1]at this;rw[this];simp[hkn]
  have hq:=hq W (fun t=>a.tmps.getD t undef) hI.world (knowsAllK_table e0 hlen hs1 n0 (by omega) (fun j o t hj ho hd hc=>by
   obtain⟨v,hv,W0,h1,h2,h4,h3⟩:=hI.on j o t ho hd (hall j hj);refine⟨W0,h1,⟨h2,fun x hx hc=>h4 x hx (by rcases hc with hc | hc;exact .inl hc;exact .inr (.inl hc))⟩, ?_⟩;have:a.tmps.getD t undef=v:=by simp[hv]
   show φ j _ (a.tmps.getD t undef) W0;rw[this]
   simpa [entOf,hc]using h3) (fun j o hj ho hd hc=>by
   obtain⟨u,W0,h1,h2,h4,h3⟩:=hI.onn j o ho hd (hall j hj);exact⟨u,W0,h1,⟨h2,fun x hx hc=>h4 x hx (by rcases hc with hc | hc;exact .inl hc;exact .inr (.inl hc))⟩,by simpa [entOf,hc]using h3⟩))
  have hea:fill (fun t=>a.tmps.getD t undef) (E n0) a0=a:=by
   obtain⟨s1,s2⟩:=fill_size (vals:=fun t=>a.tmps.getD t undef) (E n0) a0;have ht:(fill (fun t=>a.tmps.getD t undef) (E n0) a0).tmps=a.tmps:=by
    refine Array.ext_getElem? fun t=> ?_
    by_cases hd:∃(k:Nat) (o:Oper),k < n0∧ops[k]? =some o∧o.dst=some t
    ·obtain⟨k,o,hk,ho,hd⟩:=hd
     rw[fill_near a0 hs1 b2 t (by rw[hn];exact b1 k o t ho hd) k o ho hd n0 (by omega) hk];obtain⟨v,hv,W0,_,_,_,h3⟩:=hI.on k o t ho hd (hall k hk);rw[hv]
     cases hc:c k with
     | none=>simp[hv]
     | some u=>simp[entOf,hc]at h3;simp[h3]
    ·rw[fill_far a0 e0 hs1 t n0 (by omega) (fun j o hj ho hdd=>hd ⟨j,o,hj,ho,hdd⟩)]
     refine(hI.off t (fun k o ho hdd=> ?_)).symm;have hk:n0≤k:=by
      rcases Nat.lt_or_ge k n0 with h | h
      ·exact absurd ⟨k,o,h,ho,hdd⟩ hd
      ·exact h
     exact getD_both (htl k hk (Array.getElem?_eq_some_iff.1 ho).1)
   have hd' :(fill (fun t=>a.tmps.getD t undef) (E n0) a0).defers=a.defers:=by rw[s2,hI.defers]
   generalize fill (fun t=>a.tmps.getD t undef) (E n0) a0=b at*
   obtain⟨bt,bd⟩:=b;obtain⟨at_,ad⟩:=a;simp only at ht hd';rw[ht,hd']
  rw[hea]at hq;rw[hle,hul];exact wpAny_of_seq lt n0 _ a W hlt hsq hq
 intro fuel
 induction fuel with
 | zero=>
  intro listed a W hu htl hI;rw[←hu];refine fin listed a W hI htl fun k hk=> ?_
  cases hl:listed.getD k false with
  | true=>rfl
  | false=>
   have hl' :listed.getD k true=false:=by
    have:k < listed.size:=by rw[hI.lsize];omega
    simpa [this]using hl
   have:=(unlisted_set hl').1;omega
 | succ fuel ih=>
  intro listed a W hu htl hI
  by_cases hpre:∀k,k < n0→listed.getD k false=true
  ·rw[←hu]
   exact fin listed a W hI htl hpre
  have hex:∃k,k < n0∧listed.getD k false=false:=by
   simp only[Classical.not_forall]at hpre;obtain⟨k,hk,h⟩:=hpre;exact⟨k,hk,by simpa using h⟩
  have inv:HeadInv .any ops n0 listed:=⟨hI.lsize,hI.dep,htl⟩;refine⟨fun hr=> ?_,fun i hi=> ?_⟩
  ·exfalso
   have hall:∀m k,k < m→k < n0→listed.getD k false=true:=by
    intro m
    induction m with
    | zero=>intro k h;omega
    | succ m ih=>
     intro k hk hks
     cases hl:listed.getD k false with
     | true=>rfl
     | false=>
      exfalso
      have ho:ops[k]? =some (ops[k]'(by omega)):=Array.getElem?_eq_getElem (by omega);have hl' :listed.getD k true=false:=by
       have:k < listed.size:=by rw[hI.lsize];omega
       simpa [this]using hl
      have:k∈Region.ready .any ops listed:=mem_ready.2 ⟨hl',_,ho,fun e he hb=>by
       have hlt:=b3 k _ ho e he hb;exact ih e.on (by omega) (by omega)⟩
      rw[hr]at this
      cases this
   obtain⟨k,hk,h⟩:=hex;rw[hall (k+1) k (by omega) hk]at h
   cases h
  obtain⟨hl,o,ho,hall⟩:=mem_ready.1 hi;have hin:i < n0:=by
   rcases Nat.lt_or_ge i n0 with h | h
   ·exact h
   ·exfalso
    obtain⟨k,hk,hkl⟩:=hex;have hlt:=Nat.lt_of_le_of_lt h (Array.getElem?_eq_some_iff.1 ho).1;exact tail_waits (hsc hlt).1 (hsc hlt).2 hlt inv (n0 - k) k rfl hk (getD_in (by rw[hI.lsize];omega) hkl) i h hi
  have hus:=(unlisted_set hl).1;have hi' :i < ops.size:=(Array.getElem?_eq_some_iff.1 ho).1;have hil:listed.getD i false=false:=by
   have hi:=(unlisted_set hl).2
   simpa [hi]using hl
  have unl:∀x∈Ws,x.k=i∨i∈x.pre→listed.getD x.k false=false:=by
   rintro x hx (hc | hc)
   ·rw[hc];exact hil
   ·cases hlx:listed.getD x.k false with
    | false=>rfl
    | true=>
     have:=descB_spec hI.dep i x.k (wrB_pre hwr hx hc).1 hlx;rw[hil]at this
     cases this
  have hop:=(hs i o ho).2.2 hin W (fun t=>a.tmps.getD t undef) ⟨hI.world,fun x hx hc=>hI.worldA x hx (unl x hx hc)⟩ (knowsK_table e0 hlen hs1 (o.looksAt ops++rd i) i (by omega) (fun j o' t hj ho' hd ht hc=>by
   obtain⟨e,he,hb,hon⟩:∃e∈o.after,Region.binds .any e=true∧e.on=j:=by
    rcases List.mem_append.1 ht with ht | ht
    ·obtain⟨_,e,he,hb,hon⟩:=(b4 i o t j o' ho ht ho' hd).resolve_right (fun h=>absurd h.1 (by omega))
     exact⟨e,he,hb,hon⟩
    ·exact waitsB_spec (hrd i o ho t ht) ho' hd
   obtain⟨v,hv,W0,h1,h2,h4,h3⟩:=hI.on j o' t ho' hd (hon▸hall e he hb);refine⟨W0,h1,⟨h2,fun x hx hc=>h4 x hx (by
    rcases hc with hc | hc | hc
    ·exact .inl hc
    ·exact .inr (.inl hc)
    ·exact .inr (.inr (unl x hx hc)))⟩, ?_⟩
   have:a.tmps.getD t undef=v:=by simp[hv]
   show φ j _ (a.tmps.getD t undef) W0;rw[this]
   simpa [entOf,hc]using h3))
  have hop:=opOk_congr (a' :=a) (Region.noSelect_spec b0 i o · · ho) (fun t ht=>by
   by_cases hd:∃(k:Nat) (o' :Oper),ops[k]? =some o' ∧o'.dst=some t
   ·obtain⟨k,o',ho',hd⟩:=hd
    rcases b4 i o t k o' ho ht ho' hd with⟨hk,e,he,hb,hon⟩ | ⟨hk,e,he,hb,hon⟩
    case inr=>
     rw[fill_far a0 e0 hs1 t i (by omega) (fun j o2 hj ho2 hdd=>by have:=b2 j k o2 o' t ho2 ho' hdd hd;omega)];refine(hI.off t (fun k2 o2 ho2 hdd=> ?_)).symm;obtain rfl:=b2 k2 k o2 o' t ho2 ho' hdd hd
     cases hlk:listed.getD k2 false with
     | false=>rfl
     | true=>
      have:=hI.dep k2 o' ho' hlk e he hb;rw[hon]at this;have hil:listed.getD i false=false:=by
       have hi:=(unlisted_set hl).2
       simpa [hi]using hl
      rw[hil]at this
      cases this
    rw[fill_near a0 hs1 b2 t (by rw[hn];exact b1 k o' t ho' hd) k o' ho' hd i (by omega) hk];obtain⟨v,hv,W0,_,_,_,h3⟩:=hI.on k o' t ho' hd (hon▸hall e he hb);rw[hv]
    cases hc:c k with
    | none=>simp[hv]
    | some u=>simp[entOf,hc]at h3;simp[h3]
   ·rw[fill_far a0 e0 hs1 t i (by omega) (fun j o' _ ho' hdd=>hd ⟨j,o',ho',hdd⟩)]
    exact(hI.off t (fun k o' ho' hdd=>absurd ⟨k,o',ho',hdd⟩ hd)).symm) hop
  have next:∀v W',StpK Ws C A i W W' →entOf (c i) (φ i ((rd i).map fun t=>a.tmps.getD t undef)) v W' →wpAny P .any ops Q fuel (listed.setIfInBounds i true) (a.put o.dst v) W' :=fun v W' hR hv=>
   ih _ _ _ (by omega) (fun t ht ht' =>by rw[getD_set_ne true (by omega)];exact htl t ht ht') (looseInvK_next hF hwr hB hrd hn hI ho hl hall v hR hv)
  have tr:∀x y z,StpK Ws C A i x y→StpK Ws C A i y z→StpK Ws C A i x z:=fun x y z h k=>⟨hF.ct _ _ _ h.c k.c,fun u hu hne=>hF.at_ _ _ _ _ (h.a u hu hne) (k.a u hu hne)⟩
  unfold wpOp;simp only[ho];replace hop:=hop.out
  split
  ·rename_i hw
   simp only[hw,if_true]at hop
   left
   unfold Oper.wp
   generalize (execOp a.eval o).run P W=r at*
   cases r with
   | ok x w' =>
    cases x <;> simp only[looseUpon]at hop <;> simp only[Oper.upon]
    ·exact next _ _ hop.1 hop.2
    ·exact next _ _ hop.1 hop.2
    ·exact hop.2.mono fun e w'' ⟨v,he,hR,hv⟩=>by subst he;exact next _ _ (tr _ _ _ hop.1 hR) hv
    ·exact hop.2.mono fun v w'' ⟨hR,hv⟩=>next _ _ (tr _ _ _ hop.1 hR) hv
   | halt x w' =>simp only[looseUpon]at hop
  ·rename_i hw
   simp only[hw]at hop;exact next _ _ ⟨hF.cr _,fun _ _ _=>hF.ar _ _⟩ hop

/-- A table for the operations ahead, carried on behind them. -/
theorem wpLooseK_table_more {a0:Act}{Q:List Ent→Prop}(n0:Nat)(l:List Oper)(hn0:n0≤l.length)(h:wpLooseK P Ws C A w0 ops a0 Q (l.take n0) []):
  ∃(E:Nat→List Ent) (c:Nat→Option Value) (rd:Nat→List Tmp) (φ:Nat→List Value→Value→World→Prop),E 0= []∧(∀k,k≤l.length→(E k).length=k)∧
   (∀k o,l[k]? =some o→E (k+1)=addEnt o.dst (c k) (rd k) (φ k) (E k)∧(∀t∈rd k,waitsB ops o t=true)∧(k < n0→∀W vals,PreK Ws C A k w0 W→knowsK Ws C A w0 vals k (o.looksAt ops++rd k) W (E k)→opOk P (StpK Ws C A k) ops (fill vals (E k) a0) o (entOf (c k) (φ k ((rd k).map vals))) W))∧Q (E n0):=by
 obtain⟨E,c,rd,φ,e0,hs,hq⟩:=wpLooseK_table _ _ h;have hlen:(l.take n0).length=n0:=by rw[List.length_take];omega
 rw[hlen]at hq
 let more:Nat→List Ent:=fun k=>Nat.rec (motive:=fun _=>List Ent) (E n0) (fun j e=>addEnt ((l[n0+j]?).bind (·.dst)) none [] (fun _ _ _=>True) e) k
 refine⟨fun k=>if k≤n0 then E k else more (k - n0),fun k=>if k < n0 then c k else none,fun k=>if k < n0 then rd k else [],fun k=>if k < n0 then φ k else fun _ _ _=>True,by simp[e0], ?len, ?_,by simp[hq]⟩
 case len=>
  have h1:∀k,k≤n0→(E k).length=k:=by
   intro k
   induction k with
   | zero=>intro _;rw[e0];rfl
   | succ k ih=>
    intro hk;have ho:(l.take n0)[k]? =some ((l.take n0)[k]'(by omega)):=List.getElem?_eq_getElem (by omega);rw[(hs k _ ho).1];simp[addEnt,ih (by omega)]
  have h2:∀k,(more k).length=n0+k:=by
   intro k
   induction k with
   | zero=>exact h1 n0 (Nat.le_refl _)
   | succ k ih=>
    show(addEnt _ _ _ _ (more k)).length=_;simp[addEnt,ih];omega
  intro k hk
  by_cases hkn:k≤n0
  ·simp only[hkn,if_true];exact h1 k hkn
  ·simp only[hkn,if_false];rw[h2];omega
 intro k o ho
 by_cases hk:k < n0
 ·have ho' :(l.take n0)[k]? =some o:=by rw[List.getElem?_take_of_lt hk];exact ho
  obtain⟨h1,h2,h3⟩:=hs k o ho';simp only[List.length_nil,Nat.zero_add]at h3;simp only[hk,if_true,show k+1≤n0 from hk,show k≤n0 from Nat.le_of_lt hk];exact⟨h1,h2,fun _=>h3⟩
 ·simp only[hk,if_false,show¬k+1≤n0 by omega]
  refine⟨?_,(fun _ h=>nomatch h),fun h=>h.elim⟩;have hm:more (k+1 - n0)=addEnt o.dst none [] (fun _ _ _=>True) (more (k - n0)):=by
   rw[show k+1 - n0=(k - n0)+1 by omega];show addEnt ((l[n0+(k - n0)]?).bind (·.dst)) none [] (fun _ _ _=>True) (more (k - n0))=_;rw[show n0+(k - n0)=k by omega,ho];rfl
  rw[hm]
  by_cases hk2:k≤n0
  ·have:k=n0:=by omega
   subst this;simp only[Nat.le_refl,if_true,Nat.sub_self];rfl
  ·simp only[hk2,if_false]

theorem wp_region_writers {id:Nat}{Q:Exit→Act→World→Prop}{a:Act}{w:World}{l:List Oper}(Ws:List Wr)(C:World→World→Prop)(A:Nat→World→World→Prop)(n n0:Nat)(hF:FitK C A)(hm:P.follows .mixedOrders=true)(hn:a.tmps.size=n)
  (hB:(looseB n l.toArray && wrB l.toArray Ws && (decide (n0=l.length) || Region.sinkB .any l.toArray n0 && Region.chainB .any l.toArray n0) && decide (n0≤l.length) && Region.seqB .any l.toArray (l.drop n0).length n0 ((Array.range l.toArray.size).map fun k=>decide (k < n0)) && decide (unlisted ((Array.range l.toArray.size).map fun k=>decide (k < n0))=(l.drop n0).length))=true)
  (h0c:C w w.drew) (h0a:∀i,A i w w.drew)
  (h:wpLooseK P Ws C A w l.toArray a (fun env=>∀W vals,C w W→knowsAllK Ws C A w vals W env→wpList P l.toArray Q (l.drop n0) (fill vals env a) W) (l.take n0) []):(Code.region id l.toArray true).wp P Q a w:=by
 simp only[Bool.and_eq_true,Bool.or_eq_true,decide_eq_true_eq]at hB;obtain⟨⟨⟨⟨⟨h1,hwr⟩,h2⟩,h4⟩,h5⟩,h6⟩:=hB;obtain⟨E,c,rd,φ,e0,hlen,hs,hq⟩:=wpLooseK_table_more n0 l (by omega) h;refine wp_region_any hm (loose_tail_soundK (w0:=w) (n0:=n0) (lt:=l.drop n0) hF hwr h1 (fun hlt=>h2.resolve_left (fun e=>by rw[List.size_toArray]at hlt;omega)) (by simpa using h4) (fun j=>by simp) h5 h6 hn e0 (fun k hk=>hlen k (by simpa using hk)) (fun k o ho=>hs k o (by simpa using ho)) hq _ _ _ _ ?_ (fun t ht ht' => ?_) ⟨h0c,fun x _ _=>h0a _,rfl,rfl,by simp,fun _ _=>rfl,fun k o d ho _ hk=> ?_,fun k o ho _ hk=> ?_,fun k o ho hk=> ?_⟩)
 ·unfold unlisted
  simp
 ·simp only[List.size_toArray]at ht'
  simp[ht']
 all_goals
  exfalso
  by_cases h' :k < l.length <;> simp[h']at hk
end
section
variable {P:Program} {Ws:List Wr} {C:World→World→Prop} {A:Nat→World→World→Prop} {w0:World} {ops:Array Oper} {a0:Act} {Q:List Ent→Prop} {o:Oper} {rest:List Oper} {env:List Ent}
theorem loosek_nil (h:Q env):wpLooseK P Ws C A w0 ops a0 Q [] env:=h
theorem loosek_is (k:Nat)(v:Value)(he:env.length=k)(h:∀W vals,PreK Ws C A k w0 W→knowsK Ws C A w0 vals k (o.looksAt ops) W env→opOk P (StpK Ws C A k) ops (fill vals env a0) o (fun u _=>u=v) W)
  (hk:wpLooseK P Ws C A w0 ops a0 Q rest (addEnt o.dst (some v) [] (fun _ _ _=>True) env)):wpLooseK P Ws C A w0 ops a0 Q (o::rest) env:=by
 subst he;exact⟨some v, [],_,(fun _ h=>nomatch h),fun W vals hW hkn=>h W vals hW (by rwa [List.append_nil]at hkn),hk⟩
theorem loosek_had (k:Nat)(rd:List Tmp)(φ:List Value→Value→World→Prop)(he:env.length=k)(hrd:rd.all (waitsB ops o)=true)(h:∀W vals,PreK Ws C A k w0 W→knowsK Ws C A w0 vals k (o.looksAt ops++rd) W env→∀φ' :Value→World→Prop,Hid (∀u w,φ (rd.map vals) u w→φ' u w)→opOk P (StpK Ws C A k) ops (fill vals env a0) o φ' W)
  (hk:wpLooseK P Ws C A w0 ops a0 Q rest (addEnt o.dst none rd φ env)):wpLooseK P Ws C A w0 ops a0 Q (o::rest) env:=by
 subst he;exact⟨none,rd,φ,fun t ht=>List.all_eq_true.1 hrd t ht,fun W vals hW hkn=>h W vals hW hkn _ (zh fun _ _ h=>h),hk⟩
theorem loosek_has (k:Nat)(φ:Value→World→Prop)(he:env.length=k)(h:∀W vals,PreK Ws C A k w0 W→knowsK Ws C A w0 vals k (o.looksAt ops) W env→∀φ' :Value→World→Prop,Hid (∀u w,φ u w→φ' u w)→opOk P (StpK Ws C A k) ops (fill vals env a0) o φ' W)
  (hk:wpLooseK P Ws C A w0 ops a0 Q rest (addEnt o.dst none [] (fun _=>φ) env)):wpLooseK P Ws C A w0 ops a0 Q (o::rest) env:=by
 subst he;exact⟨none, [],fun _=>φ,(fun _ h=>nomatch h),fun W vals hW hkn=>h W vals hW (by rwa [List.append_nil]at hkn) φ (zh fun _ _ h=>h),hk⟩
/-- What allocations do to all of it. -/
structure LightK (Ws:List Wr)(C:World→World→Prop)(A:Nat→World→World→Prop):Prop where
 fit:FitK C A
 c:∀{w w'},Keeps w w' []→C w w'
 a:∀{i w w'},Keeps w w' []→A i w w'
theorem LightK.stp (h:LightK Ws C A){k:Nat}{w w' :World}(hk:Keeps w w' []):StpK Ws C A k w w' :=⟨h.c hk,fun _ _ _=>h.a hk⟩
theorem loosek_calls_has (hL:LightK Ws C A){k:Nat}{W:World}{φ φ' :Value→World→Prop}(hφ:Hid (∀u w,φ u w→φ' u w)){f:FuncId}{args:Array Value}(h:Calls P f args W (fun e w'' =>∃v,e= .returned v∧Keeps W w'' []∧φ v w'')):
  looseUpon P (StpK Ws C A k) W φ' (.ok (.enter f args) W):=⟨hL.stp (Keeps.refl _ _),h.mono fun _ _ ⟨v,he,hk,hv⟩=>⟨v,he,hL.stp hk,hφ.out _ _ hv⟩⟩
/-- A call that writes. -/
theorem loosek_writes (hL:LightK Ws C A){k:Nat}{W:World}{φ φ' :Value→World→Prop}(hφ:Hid (∀u w,φ u w→φ' u w)){f:FuncId}{args:Array Value}(h:Calls P f args W (fun e w'' =>∃v,e= .returned v∧StpK Ws C A k W w'' ∧φ v w'')):
  looseUpon P (StpK Ws C A k) W φ' (.ok (.enter f args) W):=⟨hL.stp (Keeps.refl _ _),h.mono fun _ _ ⟨v,he,hk,hv⟩=>⟨v,he,hk,hφ.out _ _ hv⟩⟩
theorem wp_region_writersL {id:Nat}{Q:Exit→Act→World→Prop}{a:Act}{w:World}{l:List Oper}(Ws:List Wr)(C:World→World→Prop)(A:Nat→World→World→Prop)(n n0:Nat)(hF:LightK Ws C A)(hm:P.follows .mixedOrders=true)(hn:a.tmps.size=n)
  (hB:(looseB n l.toArray && wrB l.toArray Ws && (decide (n0=l.length) || Region.sinkB .any l.toArray n0 && Region.chainB .any l.toArray n0) && decide (n0≤l.length) && Region.seqB .any l.toArray (l.drop n0).length n0 ((Array.range l.toArray.size).map fun k=>decide (k < n0)) && decide (unlisted ((Array.range l.toArray.size).map fun k=>decide (k < n0))=(l.drop n0).length))=true)
  (h:wpLooseK P Ws C A w l.toArray a (fun env=>∀W vals,C w W→knowsAllK Ws C A w vals W env→wpList P l.toArray Q (l.drop n0) (fill vals env a) W) (l.take n0) []):(Code.region id l.toArray true).wp P Q a w:=
 wp_region_writers Ws C A n n0 hF.fit hm hn hB (hF.c (Keeps.drew _)) (fun _=>hF.a (Keeps.drew _)) h
end

/-- Of the worlds ahead and behind. -/
structure RelOk (R:World→World→Prop):Prop where
 keeps:∀{w w'},Keeps w w' []→R w w'
 trans:∀{x y z},R x y→R y z→R x z
def oneA (i:Nat)(R1:World→World→Prop):Nat→World→World→Prop:=fun k=>if k=i then R1 else fun _ _=>True
def twoA (i:Nat)(R1:World→World→Prop)(j:Nat)(R2:World→World→Prop):Nat→World→World→Prop:=fun k=>if k=i then R1 else if k=j then R2 else fun _ _=>True
section
variable {C R1 R2:World→World→Prop} {Ws:List Wr} {i j k m:Nat} {w w' :World} {p1 a1 p2 a2:List Nat}
theorem LightK.one (hC:RelOk C)(h1:RelOk R1):LightK Ws C (oneA i R1):=by
 refine⟨⟨fun x=>hC.keeps (Keeps.refl _ _),fun _ _ _ h k=>hC.trans h k,fun k x=> ?_,fun k x y z h h' => ?_⟩,fun h=>hC.keeps h,fun{k w w'} h=> ?_⟩
 ·unfold oneA;split
  ·exact h1.keeps (Keeps.refl _ _)
  ·trivial
 ·unfold oneA at*;split at h
  ·rw[if_pos (by assumption)]at h' ⊢;exact h1.trans h h'
  ·rw[if_neg (by assumption)];trivial
 ·unfold oneA;split
  ·exact h1.keeps h
  ·trivial
theorem oneA_1 (h:oneA i R1 i w w'):R1 w w' :=by unfold oneA at h;rwa [if_pos rfl]at h
theorem StpK.one (hc:C w w')(h1:i≠k→R1 w w'):StpK [⟨i,p1,a1⟩] C (oneA i R1) k w w' :=by
 refine⟨hc,fun x hx hne=> ?_⟩;obtain rfl:=List.mem_singleton.1 hx;unfold oneA;rw[if_pos rfl];exact h1 hne
theorem PreK.one (h:PreK [⟨i,p1,a1⟩] C (oneA i R1) k w w')(hk:i=k∨k∈p1):R1 w w' :=oneA_1 (h.a ⟨i,p1,a1⟩ (by simp) hk)
theorem BtwK.one (h:BtwK [⟨i,p1,a1⟩] C (oneA i R1) m k w w')(hk:i=m∨m∈a1∨i=k∨k∈p1):R1 w w' :=oneA_1 (h.a ⟨i,p1,a1⟩ (by simp) hk)
theorem PostK.one (h:PostK [⟨i,p1,a1⟩] C (oneA i R1) k w w')(hk:i=k∨k∈a1):R1 w w' :=oneA_1 (h.a ⟨i,p1,a1⟩ (by simp) hk)
/-- What was there at w0 stays. -/
def KeepsOld (w0 w w' :World):Prop:=Keeps w0 w []→Keeps w0 w' []
theorem KeepsOld.ok (w0:World):RelOk (KeepsOld w0):=⟨fun h k=>k.then_ h,fun h k x=>k (h x)⟩
theorem keepsAll_ok:RelOk KeepsAll:=⟨fun h=>h,fun h k=>h.trans k (by simp)⟩
end

/-- How an element lies: in k cells. -/
structure Enc {α:Type}(k:Nat)(f:α→List Value):Prop where
 pos:0 < k
 len:∀a,(f a).length=k
 one:∀a,∀u∈f a,u.oneCell' =true
/-- A slice type, its elements. -/
structure ElemN (P:Program)(t e:TypeId)(k:Nat):Prop where
 out:∃(i:TypeInfo) (z:Value) (bytes:Nat),P.underlying t=some (.slice e)∧P.info? e=some i∧i.zero=some z∧i.size=k∧i.bytes=bytes∧bytes≤100000∧z.cells.size=k
theorem elemN_of {P:Program}{t e:TypeId}{k bytes:Nat}{z:Value}(ht:P.underlying t=some (.slice e))(hi:(P.info? e).map (fun i=>(i.zero,i.size,i.bytes))=some (some z,k,bytes))(hb:bytes≤100000)(hz:z.cells.size=k):ElemN P t e k:=by
 obtain⟨i,h1,h2,h3,h4⟩:=info_parts hi;exact⟨i,z,bytes,ht,h1,h2,h3,h4,hb,hz⟩
section
variable {α:Type} {k:Nat} {f:α→List Value} {w w' :World} {e t:TypeId} {A:Option Addr} {l:List α} {B:Nat}
theorem flat_length (E:Enc k f)(l:List α):(l.flatMap f).length=l.length*k:=by
 induction l with
 | nil=>simp
 | cons a l ih=>rw[List.flatMap_cons,List.length_append,E.len,ih,List.length_cons];rw[Nat.add_mul];omega
theorem flat_get (E:Enc k f){l:List α}{i j:Nat}(hi:i < l.length)(hj:j < k):(l.flatMap f)[i*k+j]? =(f l[i])[j]? :=by
 induction l generalizing i with
 | nil=>simp at hi
 | cons a l ih=>
  rw[List.flatMap_cons]
  cases i with
  | zero=>rw[Nat.zero_mul,Nat.zero_add,List.getElem?_append_left (by rw[E.len];exact hj)];rfl
  | succ i=>
   rw[List.getElem?_append_right (by rw[E.len,Nat.succ_mul];omega),E.len,show(i+1)*k+j - k=i*k+j by rw[Nat.succ_mul];omega,ih (by simpa using hi)];rfl
theorem flat_one (E:Enc k f)(l:List α):∀u∈l.flatMap f,u.oneCell' =true:=fun u hu=>by
 obtain⟨a,_,ha⟩:=List.mem_flatMap.1 hu;exact E.one a u ha
/-- A list in a block of cells. -/
def ListAt (w:World)(e:TypeId)(k:Nat)(f:α→List Value)(A:Option Addr)(l:List α):Prop:=
 0 < l.length→∃b o cs,A=some ⟨b,o,none⟩∧Row w b e cs∧∀i (h:i < l.length) j,j < k→cs[o+i*k+j]? =(f l[i])[j]?
theorem ListAt.keep {S:List Nat}(h:ListAt w e k f A l)(hk:Keeps w w' S)(hS:∀x∈S,∀cs,¬Row w x e cs):ListAt w' e k f A l:=fun hp=>by
 obtain⟨b,o,cs,ea,hr,hc⟩:=h hp;exact⟨b,o,cs,ea,hr.keep hk (fun hm=>hS b hm cs hr),hc⟩
theorem ListAt.keeps (h:ListAt w e k f A l)(hk:Keeps w w' []):ListAt w' e k f A l:=h.keep hk (by simp)
theorem ListAt.box {b:Nat}{t:TypeId}{cs:Array Value}(h:ListAt w e k f A l)(hk:Keeps w w' [b])(hr:Row w b t cs)(ht:e≠t):ListAt w' e k f A l:=h.keep hk fun x hx cs' hr' =>by
 obtain rfl:=List.mem_singleton.1 hx;exact Row.ne_type hr' hr ht rfl
theorem ListAt.lies (E:Enc k f)(h:ListAt w e k f A l):Lies w w.heap.size A (l.flatMap f):=fun hp=>by
 rw[flat_length E]at hp;have hl:0 < l.length:=by
  rcases Nat.eq_zero_or_pos l.length with h0 | h0
  ·rw[h0,Nat.zero_mul]at hp;omega
  ·exact h0
 obtain⟨b,o,cs,ea,hr,hc⟩:=h hl;refine⟨b,o,ea,hr.lt,fun i u hu=> ?_⟩;have hi:i < l.length*k:=by
  rw[←flat_length E];exact(List.getElem?_eq_some_iff.1 hu).1
 have hk:=E.pos;have h1:i / k < l.length:=(Nat.div_lt_iff_lt_mul hk).2 hi;have h2:i % k < k:=Nat.mod_lt _ hk;have h3:i / k*k+i % k=i:=by rw[Nat.mul_comm];exact Nat.div_add_mod i k
 have h4:=hc _ h1 _ h2;rw[Nat.add_assoc,h3]at h4;rw[hr.cell,h4,←flat_get E h1 h2,h3,hu]
theorem ListAt.nil (w:World)(e:TypeId)(k:Nat)(f:α→List Value)(A:Option Addr):ListAt w e k f A []:=fun h=>absurd h (by simp)
/-- A list of the call's own. -/
abbrev OwnN (w:World)(B:Nat)(e:TypeId)(k:Nat)(f:α→List Value)(v:Value)(l:List α):Prop:=w.ownsRow B e k v l.length (l.flatMap f)
theorem OwnN.slice {v:Value}(h:OwnN w B e k f v l):∃A c,v= .slice A l.length c:=by
 obtain⟨A,c,rfl,_⟩:=ownN_slice h;exact⟨A,c,rfl⟩
theorem OwnN.nil (w:World)(B:Nat)(e:TypeId)(k:Nat)(f:α→List Value):OwnN w B e k f (.slice none 0 0) []:=⟨by simp,.inl ⟨rfl,rfl⟩⟩
theorem OwnN.keep {S:List Nat}{v:Value}(h:OwnN w B e k f v l)(hk:Keeps w w' S)(hS:∀x∈S,x < B∨∀cs,¬Row w x e cs):OwnN w' B e k f v l:=ownN_keep h hk fun g hg hm=>by
 obtain⟨h1,cs,hr⟩:=ownN_row h g hg
 rcases hS g hm with h2 | h2
 ·omega
 ·exact h2 cs hr
theorem OwnN.keeps {v:Value}(h:OwnN w B e k f v l)(hk:Keeps w w' []):OwnN w' B e k f v l:=h.keep hk (by simp)
theorem OwnN.rows {v:Value}(h:OwnN w B e k f v l):∀g∈v.ownBlock.toList,B≤g∧∃cs,Row w g e cs:=fun g hg=>ownN_row h g (by simpa using hg)
theorem OwnN.at_ {c:Nat}(h:OwnN w B e k f (.slice A l.length c) l)(E:Enc k f):ListAt w e k f A l:=fun hp=>by
 rcases h.2 with⟨hv,h0⟩ | ⟨gb,cap,cur,hv,e2,hh,h1,h2,h3,h4⟩
 ·omega
 ·injection hv with hv
  refine⟨gb,0,cur,hv,hh,fun i hi j hj=> ?_⟩;rw[Nat.zero_add,←flat_get E hi hj,←h4,List.getElem?_take,if_pos,Array.getElem?_toList];have:i*k+k≤l.length*k:=by rw[←Nat.succ_mul];exact Nat.mul_le_mul_right _ hi
  omega
theorem run_append_N {P:Program}(T:ElemN P t e k)(E:Enc k f)(v:Value)(A:Option Addr)(c:Nat)(l1 l2:List α)(ty:TypeId)(hown:OwnN w B e k f v l1)(hb:Lies w w.heap.size A (l2.flatMap f))(hlen:l1.length+l2.length≤1000000)(hbase:B≤w.heap.size):
  ∃A' c' w',(Builtin.append_ #[t,t] ty #[v,.slice A l2.length c]).run P w= .ok (.slice A' (l1++l2).length c') w' ∧OwnN w' B e k f (.slice A' (l1++l2).length c') (l1++l2)∧Keeps w w' v.ownBlock.toList∧
   ((Value.slice A' (l1++l2).length c').ownBlock=v.ownBlock∨(Value.slice A' (l1++l2).length c').ownBlock=some w.heap.size):=by
 obtain⟨i0,z,bytes,ht,hi,hz0,hz1,hz2,hz3,hz4⟩:=T.out;have hbb:(l1.length+l2.length)*bytes≤1000000*100000:=Nat.mul_le_mul hlen hz3;obtain⟨v',w',hrun,h2,h3,h4⟩:=run_append_liesN (P:=P) w B t ty e i0 z k bytes ht hi hz0 hz1 hz2 hz4 E.pos v l1.length (l1.flatMap f) hown w.heap.size A l2.length c (l2.flatMap f) (flat_length E l2) hb (flat_one E l2) (by unfold maxLen;omega) (by omega) hbase;have h5:(l1++l2).length=l1.length+l2.length:=List.length_append;have h6:OwnN w' B e k f v' (l1++l2):=by unfold OwnN;rw[h5,List.flatMap_append];exact h2
 obtain⟨A',c',rfl⟩:=OwnN.slice h6;exact⟨A',c',w',hrun,h6,Keeps.of_grown h3,h4⟩
theorem wpList_append_N {P:Program}{ops:Array Oper}{rest:List Oper}{o:Oper}{a:Act}{Q:Exit→Act→World→Prop}(T:ElemN P t e k)(E:Enc k f)(hgd:o.guard=none)(s x:Operand)
  (ho:o.op= .call {callee:= .builtin .append,args:= #[s,x],argTypes:= #[t,t]})
  (B:Nat) (v:Value) (A:Option Addr) (n c:Nat) (l1 l2:List α) (hn:l2.length=n) (hs:a.eval s=v) (hx:a.eval x= .slice A n c) (hown:OwnN w B e k f v l1) (hb:Lies w w.heap.size A (l2.flatMap f)) (hlen:l1.length+l2.length≤1000000) (hbase:B≤w.heap.size)
  (h:∀A c w' l,Hid (l=l1++l2)→(l.length≤l1.length+l2.length∧l1.length+l2.length≤l.length)→OwnN w' B e k f (.slice A l.length c) l→Keeps w w' v.ownBlock.toList→((Value.slice A l.length c).ownBlock=v.ownBlock∨(Value.slice A l.length c).ownBlock=some w.heap.size)→
   wpList P ops Q rest (a.put o.dst (.slice A l.length c)) w'):wpList P ops Q (o::rest) a w:=by
 subst hn;refine wpList_plain hgd fun K hK=> ?_
 obtain⟨A,c,w',hrun,h2,h3,h4⟩:=run_append_N T E v A c l1 l2 o.type hown hb hlen hbase;unfold Oper.wp execOp;simp only[ho,resolve,invoke,builtin,Sem.run_bind,Sem.run_pure,Result.andThen_ok,List.map_toArray,List.map_cons,List.map_nil,hs,hx,hrun];exact hK _ _ (h A c w' _ (zh rfl) ⟨by simp,by simp⟩ h2 h3 h4)
/-- A list laid out by the call: one block. -/
theorem listAt_row (E:Enc k f){b:Nat}(hr:Row w b e (l.flatMap f).toArray):ListAt w e k f (some ⟨b,0,none⟩) l:=fun _=>
 ⟨b,0,_,rfl,hr,fun i hi j hj=>by rw[Nat.zero_add,zga,flat_get E hi hj]⟩
theorem lies_of_row {b:Nat}{cs:Array Value}{xs:List Value}(hr:Row w b e cs)(h:cs.toList=xs):Lies w w.heap.size (some ⟨b,0,none⟩) xs:=fun _=>by
 refine⟨b,0,rfl,hr.lt,fun i u hu=> ?_⟩;subst h;rw[Nat.zero_add,hr.cell,←hu,Array.getElem?_toList]
end
/-- An element of one cell, at its place in a list of the call's own. -/
theorem OwnN.one {α:Type}{f:α→List Value}{q:α→Value}{w:World}{B:Nat}{e:TypeId}{A:Option Addr}{n c m:Nat}{l:List α}(hq:∀a,f a= [q a])(h:OwnN w B e 1 f (.slice A n c) l)(hm:m < l.length):
  ∃g cur,A=some ⟨g,0,none⟩∧n=l.length∧B≤g∧Row w g e cur∧cur[m]? =some (q l[m])∧∀a,OwnN (w.setCell ⟨g,m,none⟩ (q a)) B e 1 f (.slice A n c) (l.set m a):=by
 have hfl:∀l:List α,l.flatMap f=l.map q:=fun l=>by
  induction l with
  | nil=>rfl
  | cons a l ih=>rw[List.flatMap_cons,ih,hq];rfl
 rcases h.2 with⟨hv,h0⟩ | ⟨g,cap,cur,hv,hg,hh,h1,h2,h3,h4⟩
 ·omega
 ·injection hv with e1 e2 e3
  subst e1 e2 e3;rw[hfl,Nat.mul_one]at h4;have hsz:m < cur.size:=by rw[h3];omega
  refine⟨g,cur,rfl,rfl,hg,hh, ?_,fun a=>⟨by rw[hfl];simp,.inr ⟨g,c,cur.setIfInBounds m (q a),by simp,hg,(show Row w g e cur from hh).store m (q a),by simpa using h1,h2,by simpa using h3, ?_⟩⟩⟩
  ·have e:=congrArg (fun l=>l[m]?) h4
   simp only[List.getElem?_take,hm,if_true,List.getElem?_map,Array.getElem?_toList]at e;rw[e,List.getElem?_eq_getElem hm];rfl
  ·rw[hfl,Nat.mul_one,Array.toList_setIfInBounds,List.length_set,List.take_set,h4,List.map_set]
/-- Texts. -/
def txtV (l:List UInt8):List Value:= [.string ⟨l.toArray⟩]
theorem encTxt:Enc 1 txtV:=⟨by omega,fun _=>rfl,fun a u hu=>by obtain rfl:=List.mem_singleton.1 hu;rfl⟩
end Go.Proofs.YtahbikfbjenfpaaGreatDoor
