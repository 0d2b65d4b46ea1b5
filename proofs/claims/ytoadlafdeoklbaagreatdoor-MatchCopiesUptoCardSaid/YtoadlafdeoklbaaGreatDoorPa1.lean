/- The cell that holds the greatest length of a needle. Layer 14: a law's row and card out of its walk. A region that draws its order and whose operations may hand back new memory, each operation met once: what it finds is told of the temporaries that it reads alone. -/
import Derived.Test.YtoadlafdeoklbaaGreatDoorPa0
import Derived.Test.YtoadlafdeoklbaaGreatDoorRows
import Derived.Test.YtoadlafdeoklbaaGreatDoorCards
import Derived.Test.YtoadlafdeoklbaaGreatDoorTie
import Derived.Deep.DeepHandedRow
import Derived.Deep.DeepWitnessRowRef
import Derived.Lib.LaidIn
import Derived.Lib.LaidU8
import Derived.Shelf.Vars
import Derived.SizedLaws
import Derived.SevenTiedAt
import Derived.ProofKit
import Derived.Orders
import Derived.Calls
import Derived.Deep.Draws

namespace Go.Proofs.YtoadlafdeoklbaaGreatDoor
open Go.RowKit

/-- The greatest length's cell holds some number. -/
def MaxL (w:World):Prop:=∃m:Int,w.cell? ⟨0,0,none⟩=some (.int .i64 m)
theorem MaxL.keep {w w' :World}{S:List Nat}(h:MaxL w)(hk:Keeps w w' S)(hs:0∉S):MaxL w' :=by
 obtain⟨m,hm⟩:=h;exact⟨m,(hk.cell (p:=⟨0,0,none⟩) (by
  show 0 < w.heap.size
  rcases Nat.lt_or_ge 0 w.heap.size with h | h
  ·exact h
  ·simp[World.cell?,Array.getElem?_eq_none h]at hm) hs).trans hm⟩
theorem MaxL.keeps {w w' :World}(h:MaxL w)(hk:Keeps w w' []):MaxL w' :=h.keep hk (by simp)
end Go.Proofs.YtoadlafdeoklbaaGreatDoor

namespace Go.Proofs.YtoadlafdeoklbaaGreatDoor
open Go.ChangeShapes Go.WideShapes Go.ChangeAt Go.RowKit

theorem Tryz.own:ownKnob Tryz.prog.godebug=none:=by kernel_rfl
theorem undBool:Tryz.prog.underlying 4=some .bool:=by kernel_rfl

/-- The world's shape tells that MaxLen holds some number. -/
theorem maxL_of_shaped {W:World}(h:W.ShapedOpen Tryz.prog):MaxL W:=
 cell_of_shapedOpen_int (g:=0) (t:=3) (zero:= #[.int .i64 0]) (k:= .i64) h (by decide+kernel) (by kernel_rfl) rfl (by kernel_rfl) (by kernel_rfl) (by kernel_rfl)

/-- The witness: the settled world, the two tables holding what their initialisers lay. -/
noncomputable def laidWorld (os:Os):World:=
 let w0:=World.holding Tryz.prog os ⟨#[], #[], []⟩
 let put (h:Array Obj) (g:Nat) (cs:Array Value):Array Obj:=h.modify g fun
  | .cells _ t frozen=> .cells cs t frozen
  | o=>o
 let h1:=put w0.heap 1 (Lib.firstTab.map fun z=>Value.int .u8 z).toArray
 let h2:=put h1 2 ((List.range 16).flatMap fun i=> [Value.int .u8 (Lib.accLo i),Value.int .u8 (Lib.accHi i)]).toArray
 {w0 with heap:=h2}
theorem laid_met (os:Os)(args:Array Value):laidMet Tryz.prog Rows.matchNilRow.laid ((laidWorld os).forCall (fun _ _=>0) ⟨#[],args, []⟩).memory:=
 (LaidIn.of_run [2,1] 8 (by kernel_rfl) (by kernel_rfl) (by kernel_rfl) (by kernel_rfl)).met
end Go.Proofs.YtoadlafdeoklbaaGreatDoor

namespace Go.Proofs.YtoadlafdeoklbaaGreatDoor

/-- What is known of a temporary of a region: its very value, or something that held in the world in which it came up. -/
structure Ent where
 t:Option Tmp
 c:Option Value
 rd:List Tmp
 φ:List Value→Value→World→Prop

section
variable (P:Program) (R:World→World→Prop) (w0:World) (ops:Array Oper) (vals:Tmp→Value)

def fill:List Ent→Act→Act
 | [],a=>a
 | ⟨some t,some v,_,_⟩::l,a=>(fill l a).put (some t) v
 | ⟨some t,none,_,_⟩::l,a=>(fill l a).put (some t) (vals t)
 | ⟨none,_,_,_⟩::l,a=>fill l a

def knows (rs:List Tmp)(W:World):List Ent→Prop
 | []=>True
 | ⟨_,some _,_,_⟩::l=>knows rs W l
 | ⟨none,none,_,_⟩::l=>knows rs W l
 | ⟨some t,none,rd,φ⟩::l=>(t∈rs→∃W0,R w0 W0∧R W0 W∧φ (rd.map vals) (vals t) W0)∧knows rs W l

def knowsAll (W:World):List Ent→Prop
 | []=>True
 | ⟨_,some _,_,_⟩::l=>knowsAll W l
 | ⟨none,none,rd,φ⟩::l=>(∃u W0,R w0 W0∧R W0 W∧φ (rd.map vals) u W0)∧knowsAll W l
 | ⟨some t,none,rd,φ⟩::l=>(∃W0,R w0 W0∧R W0 W∧φ (rd.map vals) (vals t) W0)∧knowsAll W l

def looseUpon (w:World)(φ:Value→World→Prop):Result Next→Prop
 | .ok (.value u) w' =>R w w' ∧φ u w'
 | .ok .skip w' =>R w w' ∧φ undef w'
 | .ok (.enter f args) w' =>R w w' ∧Calls P f args w' (fun e w'' =>∃v,e= .returned v∧R w' w'' ∧φ v w'')
 | .ok (.row row args) w' =>R w w' ∧Rows P row args w' (fun v w'' =>R w' w'' ∧φ v w'')
 | _=>False

structure opOk (a:Act)(o:Oper)(φ:Value→World→Prop)(W:World):Prop where
 out:if Region.wanted o (yielded ops a.tmps)then looseUpon P R W φ ((execOp a.eval o).run P W)else φ undef W

def entOf (c:Option Value)(φ:Value→World→Prop):Value→World→Prop:=match c with
 | some v=>fun u _=>u=v
 | none=>φ
def addEnt (d:Option Tmp)(c:Option Value)(rd:List Tmp)(φ:List Value→Value→World→Prop)(env:List Ent):List Ent:=⟨d,c,rd,φ⟩::env

/-- A temporary whose every writer an operation waits for. -/
def waitsB (ops:Array Oper)(o:Oper)(t:Tmp):Bool:=(List.range ops.size).all fun k=>match ops[k]? with
 | some o' =>o'.dst !=some t || o.after.any (fun e=>Region.binds .any e && e.on==k)
 | none=>true
theorem waitsB_spec {ops:Array Oper}{o:Oper}{t:Tmp}(h:waitsB ops o t=true){k:Nat}{o' :Oper}(ho:ops[k]? =some o')(hd:o'.dst=some t):∃e∈o.after,Region.binds .any e=true∧e.on=k:=by
 unfold waitsB at h;have:=List.all_eq_true.1 h k (List.mem_range.2 (Array.getElem?_eq_some_iff.1 ho).1);simp only[ho,hd,bne_self_eq_false,Bool.false_or]at this;obtain⟨e,he,hb⟩:=Array.any_eq_true'.1 this;simp only[Bool.and_eq_true,beq_iff_eq]at hb;exact⟨e,he,hb.1,hb.2⟩

def wpLoose (a0:Act)(Q:List Ent→Prop):List Oper→List Ent→Prop
 | [],env=>Q env
 | o::rest,env=>∃c rd φ,(∀t∈rd,waitsB ops o t=true)∧(∀W vals,R w0 W→knows R w0 vals (o.looksAt ops) W env→opOk P R ops (fill vals env a0) o (entOf c (φ (rd.map vals))) W)∧wpLoose a0 Q rest (addEnt o.dst c rd φ env)

/-- Each operation's temporaries come up ahead of it, by an edge; no two have one place. -/
def looseB (n:Nat)(ops:Array Oper):Bool:=
 Region.noSelect ops &&
 (List.range ops.size).all fun i=>match ops[i]? with
  | none=>true
  | some o=>
   (match o.dst with
    | some d=>decide (d < n) && (List.range ops.size).all (fun j=>j==i || (match ops[j]? with | some o' =>o'.dst !=some d | none=>true))
    | none=>true) &&
   o.after.all (fun e=> !Region.binds .any e || decide (e.on < i)) &&
   (o.looksAt ops).all (fun t=>(List.range ops.size).all fun k=>match ops[k]? with
    | some o' =>o'.dst !=some t || (decide (k < i) && o.after.any (fun e=>Region.binds .any e && e.on==k)) || (decide (i < k) && o'.after.any (fun e=>Region.binds .any e && e.on==i))
    | none=>true)
end

section
variable {P:Program} {R:World→World→Prop} {w0:World} {ops:Array Oper} {vals:Tmp→Value}

theorem looseB_spec {n:Nat}(h:looseB n ops=true):
  Region.noSelect ops=true∧
  (∀(i:Nat) (o:Oper) (d:Tmp),ops[i]? =some o→o.dst=some d→d < n)∧
  (∀(i j:Nat) (o o' :Oper) (d:Tmp),ops[i]? =some o→ops[j]? =some o' →o.dst=some d→o'.dst=some d→i=j)∧
  (∀(i:Nat) (o:Oper),ops[i]? =some o→∀e∈o.after,Region.binds .any e=true→e.on < i)∧
  (∀(i:Nat) (o:Oper) (t:Tmp) (k:Nat) (o' :Oper),ops[i]? =some o→t∈o.looksAt ops→ops[k]? =some o' →o'.dst=some t→(k < i∧∃e∈o.after,Region.binds .any e=true∧e.on=k)∨(i < k∧∃e∈o'.after,Region.binds .any e=true∧e.on=i)):=by
 unfold looseB at h;simp only[Bool.and_eq_true,List.all_eq_true,List.mem_range]at h;obtain⟨h0,h⟩:=h;have lt:∀{i:Nat} {o:Oper},ops[i]? =some o→i < ops.size:=fun ho=>(Array.getElem?_eq_some_iff.1 ho).1
 refine⟨h0, ?_, ?_, ?_, ?_⟩
 ·intro i o d ho hd
  have:=h i (lt ho);simp only[ho,hd,Bool.and_eq_true,decide_eq_true_eq]at this;exact this.1.1.1
 ·intro i j o o' d ho ho' hd hd'
  have:=h i (lt ho);simp only[ho,hd,Bool.and_eq_true,List.all_eq_true,List.mem_range]at this;have:=this.1.1.2 j (lt ho');simp only[ho',hd',Bool.or_eq_true,beq_iff_eq,bne_self_eq_false,Bool.false_eq_true,or_false]at this;exact this.symm
 ·intro i o ho e he hb
  have:=h i (lt ho);simp only[ho,Bool.and_eq_true]at this;have:=(Array.all_eq_true_iff_forall_mem.1 this.1.2) e he
  simpa [hb]using this
 ·intro i o t k o' ho ht ho' hd
  have:=h i (lt ho);simp only[ho,Bool.and_eq_true,List.all_eq_true,List.mem_range]at this;have:=this.2 t ht k (lt ho');simp only[ho',hd,bne_self_eq_false,Bool.false_or,Bool.or_eq_true,Bool.and_eq_true,decide_eq_true_eq]at this
  rcases this with⟨hk,ha⟩ | ⟨hk,ha⟩
  ·obtain⟨e,he,hb⟩:=Array.any_eq_true'.1 ha
   simp only[Bool.and_eq_true,beq_iff_eq]at hb;exact .inl ⟨hk,e,he,hb.1,hb.2⟩
  ·obtain⟨e,he,hb⟩:=Array.any_eq_true'.1 ha
   simp only[Bool.and_eq_true,beq_iff_eq]at hb;exact .inr ⟨hk,e,he,hb.1,hb.2⟩

/-- The lexical walk's findings, told by number. -/
theorem wpLoose_table {a0:Act}{Q:List Ent→Prop}:∀(l:List Oper) (env:List Ent),wpLoose P R w0 ops a0 Q l env→
  ∃(E:Nat→List Ent) (c:Nat→Option Value) (rd:Nat→List Tmp) (φ:Nat→List Value→Value→World→Prop),E 0=env∧
   (∀k o,l[k]? =some o→E (k+1)=addEnt o.dst (c k) (rd k) (φ k) (E k)∧(∀t∈rd k,waitsB ops o t=true)∧∀W vals,R w0 W→knows R w0 vals (o.looksAt ops) W (E k)→opOk P R ops (fill vals (E k) a0) o (entOf (c k) (φ k ((rd k).map vals))) W)∧Q (E l.length)
 | [],env,h=>⟨fun _=>env,fun _=>none,fun _=> [],fun _ _ _ _=>True,rfl,fun k o ho=>by simp at ho,h⟩
 | o::rest,env,h=>by
  obtain⟨c,rd,φ,h0,h1,h2⟩:=h;obtain⟨E,c',rd',φ',e0,hs,hq⟩:=wpLoose_table rest _ h2;refine⟨fun | 0=>env | k+1=>E k,fun | 0=>c | k+1=>c' k,fun | 0=>rd | k+1=>rd' k,fun | 0=>φ | k+1=>φ' k,rfl, ?_,hq⟩;intro k o' ho'
  cases k with
  | zero=>
   simp only[zgz,Option.some.injEq]at ho';subst ho';exact⟨e0,h0,h1⟩
  | succ k=>exact hs k o' (by simpa using ho')

theorem put_get_ne {a:Act}{d t:Tmp}{v:Value}(h:d≠t):(a.put (some d) v).tmps[t]? =a.tmps[t]? :=by simp[Act.put,Array.getElem?_setIfInBounds_ne h]
theorem put_get_eq {a:Act}{d:Tmp}{v:Value}(h:d < a.tmps.size):(a.put (some d) v).tmps[d]? =some v:=by simp[Act.put,h]
theorem put_size (a:Act)(d:Option Tmp)(v:Value):(a.put d v).tmps.size=a.tmps.size:=by cases d <;> simp[Act.put]
theorem put_defs (a:Act)(d:Option Tmp)(v:Value):(a.put d v).defers=a.defers:=by cases d <;> simp[Act.put]
theorem fill_size:∀(l:List Ent) (a:Act),(fill vals l a).tmps.size=a.tmps.size∧(fill vals l a).defers=a.defers
 | [],a=>⟨rfl,rfl⟩
 | ⟨some t,some v,_,φ⟩::l,a=>by simp only[fill,put_size,put_defs];exact fill_size l a
 | ⟨some t,none,_,φ⟩::l,a=>by simp only[fill,put_size,put_defs];exact fill_size l a
 | ⟨none,_,_,φ⟩::l,a=>by simp only[fill];exact fill_size l a

theorem fill_far (a0:Act){E:Nat→List Ent}{c:Nat→Option Value}{rd:Nat→List Tmp}{φ:Nat→List Value→Value→World→Prop}(e0:E 0= [])
  (hs:∀k o,ops[k]? =some o→E (k+1)=addEnt o.dst (c k) (rd k) (φ k) (E k)) (t:Tmp):∀k,k≤ops.size→(∀j o,j < k→ops[j]? =some o→o.dst≠some t)→(fill vals (E k) a0).tmps[t]? =a0.tmps[t]?
 | 0,_,_=>by rw[e0];rfl
 | k+1,hk,h=>by
  have ih:=fill_far a0 e0 hs t k (by omega) (fun j o hj ho=>h j o (by omega) ho);have ho:ops[k]? =some ops[k]:=Array.getElem?_eq_getElem (by omega);rw[hs k _ ho];have hne:=h k _ (by omega) ho;unfold addEnt
  cases hd:ops[k].dst with
  | none=>simp only[fill];exact ih
  | some d=>
   have:d≠t:=fun e=>hne (by rw[hd,e])
   cases c k <;> simp only[fill,put_get_ne this,ih]

theorem fill_near (a0:Act){E:Nat→List Ent}{c:Nat→Option Value}{rd:Nat→List Tmp}{φ:Nat→List Value→Value→World→Prop}
  (hs:∀k o,ops[k]? =some o→E (k+1)=addEnt o.dst (c k) (rd k) (φ k) (E k)) (hd:∀(i j:Nat) (o o' :Oper) (d:Tmp),ops[i]? =some o→ops[j]? =some o' →o.dst=some d→o'.dst=some d→i=j) (t:Tmp) (ht:t < a0.tmps.size)
  (j:Nat) (o:Oper) (ho:ops[j]? =some o) (hdst:o.dst=some t):∀k,k≤ops.size→j < k→(fill vals (E k) a0).tmps[t]? =some (match c j with | some v=>v | none=>vals t)
 | 0,_,h=>by omega
 | k+1,hk,hj=>by
  have hok:ops[k]? =some ops[k]:=Array.getElem?_eq_getElem (by omega);rw[hs k _ hok]
  by_cases hjk:j=k
  ·subst hjk
   obtain rfl:ops[j]=o:=by rw[hok]at ho;exact Option.some.inj ho
   unfold addEnt;simp only[hdst]
   cases c j <;> simp only[fill] <;> exact put_get_eq (by rw[(fill_size _ _).1];exact ht)
  ·have ih:=fill_near a0 hs hd t ht j o ho hdst k (by omega) (by omega)
   unfold addEnt
   cases hdk:ops[k].dst with
   | none=>simp only[fill];exact ih
   | some d=>
    have:d≠t:=fun e=>hjk (hd j k o _ t ho hok hdst (by rw[hdk,e]))
    cases c k <;> simp only[fill,put_get_ne this,ih]

theorem knows_table {E:Nat→List Ent}{c:Nat→Option Value}{rd:Nat→List Tmp}{φ:Nat→List Value→Value→World→Prop}(e0:E 0= []){W:World}
  (hs:∀k o,ops[k]? =some o→E (k+1)=addEnt o.dst (c k) (rd k) (φ k) (E k)) (rs:List Tmp):∀k,k≤ops.size→(∀j o t,j < k→ops[j]? =some o→o.dst=some t→t∈rs→c j=none→∃W0,R w0 W0∧R W0 W∧φ j ((rd j).map vals) (vals t) W0)→knows R w0 vals rs W (E k)
 | 0,_,_=>by rw[e0];trivial
 | k+1,hk,h=>by
  have ih:=knows_table e0 hs rs k (by omega) (fun j o t hj=>h j o t (by omega));have hok:ops[k]? =some ops[k]:=Array.getElem?_eq_getElem (by omega);rw[hs k _ hok];unfold addEnt
  cases hdk:ops[k].dst with
  | none=>cases hc:c k <;> exact ih
  | some d=>
   cases hc:c k with
   | some v=>exact ih
   | none=>exact⟨fun hm=>h k _ d (by omega) hok hdk hm hc,ih⟩
theorem knowsAll_table {E:Nat→List Ent}{c:Nat→Option Value}{rd:Nat→List Tmp}{φ:Nat→List Value→Value→World→Prop}(e0:E 0= []){W:World}
  (hs:∀k o,ops[k]? =some o→E (k+1)=addEnt o.dst (c k) (rd k) (φ k) (E k)):∀k,k≤ops.size→(∀j o t,j < k→ops[j]? =some o→o.dst=some t→c j=none→∃W0,R w0 W0∧R W0 W∧φ j ((rd j).map vals) (vals t) W0)→
  (∀j o,j < k→ops[j]? =some o→o.dst=none→c j=none→∃u W0,R w0 W0∧R W0 W∧φ j ((rd j).map vals) u W0)→knowsAll R w0 vals W (E k)
 | 0,_,_,_=>by rw[e0];trivial
 | k+1,hk,h,hn=>by
  have ih:=knowsAll_table e0 hs k (by omega) (fun j o t hj=>h j o t (by omega)) (fun j o hj=>hn j o (by omega));have hok:ops[k]? =some ops[k]:=Array.getElem?_eq_getElem (by omega);rw[hs k _ hok];unfold addEnt
  cases hdk:ops[k].dst with
  | none=>
   cases hc:c k with
   | some v=>exact ih
   | none=>exact⟨hn k _ (by omega) hok hdk hc,ih⟩
  | some d=>
   cases hc:c k with
   | some v=>exact ih
   | none=>exact⟨h k _ d (by omega) hok hdk hc,ih⟩

/-- Two frames that agree where an operation looks. -/
theorem opOk_congr {a a' :Act}{o:Oper}{φ:Value→World→Prop}{W:World}(hsel:∀cs b,o.op≠ .select cs b)(h:∀t∈o.looksAt ops,a.tmps[t]? =a'.tmps[t]?)(hh:opOk P R ops a o φ W):opOk P R ops a' o φ W:=by
 have he:execOp a.eval o=execOp a'.eval o:=execOp_congr o hsel fun x hx=>by
  cases x with
  | tmp t=>
   have:=h t (List.mem_append_left _ (List.mem_filterMap.2 ⟨.tmp t,by simpa using hx,rfl⟩));simp[Act.eval,this]
  | _=>rfl
 have hy:Region.wanted o (yielded ops a.tmps)=Region.wanted o (yielded ops a'.tmps):=by
  unfold Region.wanted
  cases hg:o.guard with
  | none=>rfl
  | some gw=>
   obtain⟨g,want⟩:=gw;have:yielded ops a.tmps g=yielded ops a'.tmps g:=by
    unfold yielded
    cases ht:(ops[g]?).bind (·.dst)with
    | none=>rfl
    | some t=>
     have:=h t (List.mem_append_right _ (by simp[hg,ht]));simp[this]
   simp only[this]
 obtain⟨hh⟩:=hh;rw[he,hy]at hh;exact⟨hh⟩

def unlisted (listed:Array Bool):Nat:=listed.toList.count false
theorem unlisted_set {listed:Array Bool}{i:Nat}(h:listed.getD i true=false):unlisted (listed.setIfInBounds i true)+1=unlisted listed∧i < listed.size:=by
 have hi:i < listed.size:=by
  rcases Nat.lt_or_ge i listed.size with h' | h'
  ·exact h'
  ·simp[Array.getElem?_eq_none h']at h
 refine⟨?_,hi⟩;have hv:listed.toList[i]'(by simpa using hi)=false:=by simpa [hi]using h
 unfold unlisted;have hpos:0 < listed.toList.count false:=List.count_pos_iff.2 (hv▸List.getElem_mem _);rw[Array.toList_setIfInBounds,List.count_set (by simpa using hi),hv];simp;have:0 < Array.count false listed:=by simpa using hpos
 omega

/-- What stands while the region runs. -/
structure LooseInv (R:World→World→Prop)(w0:World)(ops:Array Oper)(a0:Act)(c:Nat→Option Value)(rd:Nat→List Tmp)(φ:Nat→List Value→Value→World→Prop)(listed:Array Bool)(a:Act)(W:World):Prop where
 world:R w0 W
 defers:a.defers=a0.defers
 size:a.tmps.size=a0.tmps.size
 lsize:listed.size=ops.size
 off:∀t,(∀k o,ops[k]? =some o→o.dst=some t→listed.getD k false=false)→a.tmps[t]? =a0.tmps[t]?
 on:∀k o d,ops[k]? =some o→o.dst=some d→listed.getD k false=true→∃v,a.tmps[d]? =some v∧∃W0,R w0 W0∧R W0 W∧entOf (c k) (φ k ((rd k).map fun t=>a.tmps.getD t undef)) v W0
 onn:∀k o,ops[k]? =some o→o.dst=none→listed.getD k false=true→∃u W0,R w0 W0∧R W0 W∧entOf (c k) (φ k ((rd k).map fun t=>a.tmps.getD t undef)) u W0
 dep:∀k o,ops[k]? =some o→listed.getD k false=true→∀e∈o.after,Region.binds .any e=true→listed.getD e.on false=true

theorem looseInv_next {n:Nat}{a0:Act}{c:Nat→Option Value}{rd:Nat→List Tmp}{φ:Nat→List Value→Value→World→Prop}{listed:Array Bool}{a:Act}{W W' :World}(htr:∀x y z,R x y→R y z→R x z)(hrf:∀x,R x x)
  (hB:looseB n ops=true) (hrd:∀k o,ops[k]? =some o→∀t∈rd k,waitsB ops o t=true) (hn:a0.tmps.size=n) (hI:LooseInv R w0 ops a0 c rd φ listed a W) {i:Nat} {o:Oper} (ho:ops[i]? =some o) (hl:listed.getD i true=false) (hall:∀e∈o.after,Region.binds .any e=true→listed.getD e.on false=true) (v:Value) (hR:R W W') (hv:entOf (c i) (φ i ((rd i).map fun t=>a.tmps.getD t undef)) v W'):
  LooseInv R w0 ops a0 c rd φ (listed.setIfInBounds i true) (a.put o.dst v) W' :=by
 obtain⟨_,b1,b2,b3,b4⟩:=looseB_spec hB;have hil:listed.getD i false=false:=by
  have hi:=(unlisted_set hl).2
  simpa [hi]using hl
 -- what an operation that is listed reads stays
 have keep:∀k o',ops[k]? =some o' →(k=i∨listed.getD k false=true)→((rd k).map fun t=>(a.put o.dst v).tmps.getD t undef)=(rd k).map fun t=>a.tmps.getD t undef:=by
  intro k o' ho' hk;refine List.map_congr_left fun t ht=> ?_
  replace ht:=hrd k o' ho' t ht
  cases hd:o.dst with
  | none=>rfl
  | some d=>
   have hne:d≠t:=by
    rintro rfl;obtain⟨e,he,hb,hon⟩:=waitsB_spec ht ho hd
    rcases hk with rfl | hk
    ·rw[ho]at ho'
     injection ho' with ho'
     subst ho';have:=hall e he hb;rw[hon,hil]at this
     cases this
    ·have:=hI.dep k o' ho' hk e he hb
     rw[hon,hil]at this
     cases this
   have:=put_get_ne (a:=a) (v:=v) hne;simp only[Array.getD_eq_getD_getElem?,this]
 refine⟨htr _ _ _ hI.world hR,by rw[put_defs,hI.defers],by rw[put_size,hI.size],by simp[hI.lsize], ?_, ?_, ?_, ?_⟩
 ·intro t h
  have hne:o.dst≠some t:=fun hd=>by
   have:=h i o ho hd;have hi:=(unlisted_set hl).2;simp[hi]at this
  have e:(a.put o.dst v).tmps[t]? =a.tmps[t]? :=by
   cases hd:o.dst with
   | none=>rfl
   | some d=>exact put_get_ne (fun e=>hne (by rw[hd,e]))
  rw[e];refine hI.off t (fun k o' ho' hd' => ?_);have:=h k o' ho' hd';have hki:i≠k:=fun e=>by subst e;rw[ho]at ho';injection ho' with ho';subst ho';exact hne hd'
  rwa [getD_set_ne _ hki]at this
 ·intro k o' d ho' hd' hk
  by_cases hki:i=k
  ·subst hki
   rw[ho]at ho';injection ho' with ho'
   subst ho';rw[keep i o ho (.inl rfl)];rw[hd'];exact⟨v,put_get_eq (by rw[hI.size,hn];exact b1 i o d ho hd'),W',htr _ _ _ hI.world hR,hrf _,hv⟩
  ·rw[getD_set_ne _ hki]at hk
   obtain⟨u,hu,W0,h1,h2,h3⟩:=hI.on k o' d ho' hd' hk;rw[keep k o' ho' (.inr hk)];refine⟨u, ?_,W0,h1,htr _ _ _ h2 hR,h3⟩
   cases hd:o.dst with
   | none=>exact hu
   | some d2=>
    rw[put_get_ne (fun e=>hki (b2 i k o o' d ho ho' (by rw[hd,e]) hd'))];exact hu
 ·intro k o' ho' hd' hk
  by_cases hki:i=k
  ·subst hki
   rw[ho]at ho';injection ho' with ho'
   subst ho';rw[keep i o ho (.inl rfl)];exact⟨v,W',htr _ _ _ hI.world hR,hrf _,hv⟩
  ·rw[getD_set_ne _ hki]at hk
   obtain⟨u,W0,h1,h2,h3⟩:=hI.onn k o' ho' hd' hk;rw[keep k o' ho' (.inr hk)];exact⟨u,W0,h1,htr _ _ _ h2 hR,h3⟩
 ·intro k o' ho' hk e he hb
  have hmono:∀m,listed.getD m false=true→(listed.setIfInBounds i true).getD m false=true:=by
   intro m hm
   by_cases hmi:i=m
   ·subst hmi
    rw[hil]at hm
    cases hm
   ·rw[getD_set_ne _ hmi];exact hm
  by_cases hki:i=k
  ·subst hki
   rw[ho]at ho';injection ho' with ho'
   subst ho';exact hmono _ (hall e he hb)
  ·rw[getD_set_ne _ hki]at hk
   exact hmono _ (hI.dep k o' ho' hk e he hb)

theorem loose_sound {n:Nat}{a0:Act}{c:Nat→Option Value}{rd:Nat→List Tmp}{φ:Nat→List Value→Value→World→Prop}{E:Nat→List Ent}{Q:Exit→Act→World→Prop}(htr:∀x y z,R x y→R y z→R x z)(hrf:∀x,R x x)
  (hB:looseB n ops=true) (hn:a0.tmps.size=n) (e0:E 0= [])
  (hs:∀k o,ops[k]? =some o→E (k+1)=addEnt o.dst (c k) (rd k) (φ k) (E k)∧(∀t∈rd k,waitsB ops o t=true)∧∀W vals,R w0 W→knows R w0 vals (o.looksAt ops) W (E k)→opOk P R ops (fill vals (E k) a0) o (entOf (c k) (φ k ((rd k).map vals))) W)
  (hq:∀W vals,R w0 W→knowsAll R w0 vals W (E ops.size)→Q .normal (fill vals (E ops.size) a0) W):
  ∀(fuel:Nat) (listed:Array Bool) (a:Act) (W:World),unlisted listed≤fuel→LooseInv R w0 ops a0 c rd φ listed a W→wpAny P .any ops Q fuel listed a W:=by
 obtain⟨b0,b1,b2,b3,b4⟩:=looseB_spec hB;have hs1:=fun k o ho=>(hs k o ho).1
 have hrd:=fun k o ho=>(hs k o ho).2.1
 have fin:∀(listed:Array Bool) (a:Act) (W:World),LooseInv R w0 ops a0 c rd φ listed a W→Region.ready .any ops listed= []→Q .normal a W:=by
  intro listed a W hI hr;have hall:∀m k,k < m→k < ops.size→listed.getD k false=true:=by
   intro m
   induction m with
   | zero=>intro k h;omega
   | succ m ih=>
    intro k hk hks
    cases hl:listed.getD k false with
    | true=>rfl
    | false=>
     exfalso
     have ho:ops[k]? =some ops[k]:=Array.getElem?_eq_getElem hks;have hl' :listed.getD k true=false:=by
      have:k < listed.size:=by rw[hI.lsize];exact hks
      simpa [this]using hl
     have:k∈Region.ready .any ops listed:=mem_ready.2 ⟨hl',_,ho,fun e he hb=>by
      have hlt:=b3 k _ ho e he hb;exact ih e.on (by omega) (by omega)⟩
     rw[hr]at this
     cases this
  have hq:=hq W (fun t=>a.tmps.getD t undef) hI.world (knowsAll_table e0 hs1 ops.size (Nat.le_refl _) (fun j o t hj ho hd hc=>by
   obtain⟨v,hv,W0,h1,h2,h3⟩:=hI.on j o t ho hd (hall (j+1) j (by omega) hj);refine⟨W0,h1,h2, ?_⟩;have:a.tmps.getD t undef=v:=by simp[hv]
   show φ j _ (a.tmps.getD t undef) W0;rw[this]
   simpa [entOf,hc]using h3) (fun j o hj ho hd hc=>by
   obtain⟨u,W0,h1,h2,h3⟩:=hI.onn j o ho hd (hall (j+1) j (by omega) hj);exact⟨u,W0,h1,h2,by simpa [entOf,hc]using h3⟩))
  have hea:fill (fun t=>a.tmps.getD t undef) (E ops.size) a0=a:=by
   obtain⟨s1,s2⟩:=fill_size (vals:=fun t=>a.tmps.getD t undef) (E ops.size) a0;have ht:(fill (fun t=>a.tmps.getD t undef) (E ops.size) a0).tmps=a.tmps:=by
    refine Array.ext_getElem? fun t=> ?_
    by_cases hd:∃(k:Nat) (o:Oper),ops[k]? =some o∧o.dst=some t
    ·obtain⟨k,o,ho,hd⟩:=hd
     have hk:=(Array.getElem?_eq_some_iff.1 ho).1;rw[fill_near a0 hs1 b2 t (by rw[hn];exact b1 k o t ho hd) k o ho hd ops.size (Nat.le_refl _) hk];obtain⟨v,hv,W0,_,_,h3⟩:=hI.on k o t ho hd (hall (k+1) k (by omega) hk);rw[hv]
     cases hc:c k with
     | none=>simp[hv]
     | some u=>simp[entOf,hc]at h3;simp[h3]
    ·rw[fill_far a0 e0 hs1 t ops.size (Nat.le_refl _) (fun j o _ ho hdd=>hd ⟨j,o,ho,hdd⟩)]
     exact(hI.off t (fun k o ho hdd=>absurd ⟨k,o,ho,hdd⟩ hd)).symm
   have hd' :(fill (fun t=>a.tmps.getD t undef) (E ops.size) a0).defers=a.defers:=by rw[s2,hI.defers]
   generalize fill (fun t=>a.tmps.getD t undef) (E ops.size) a0=b at*
   obtain⟨bt,bd⟩:=b;obtain⟨at_,ad⟩:=a;simp only at ht hd';rw[ht,hd']
  rwa [hea]at hq
 intro fuel
 induction fuel with
 | zero=>
  intro listed a W hu hI;have hr:Region.ready .any ops listed= []:=by
   cases h:Region.ready .any ops listed with
   | nil=>rfl
   | cons i l=>
    have hm:i∈Region.ready .any ops listed:=by rw[h];exact List.mem_cons_self
    have:=(unlisted_set (mem_ready.1 hm).1).1;omega
  exact⟨hr,fin listed a W hI hr⟩
 | succ fuel ih=>
  intro listed a W hu hI;refine⟨fin listed a W hI,fun i hi=> ?_⟩;obtain⟨hl,o,ho,hall⟩:=mem_ready.1 hi;have hus:=(unlisted_set hl).1;have hi' :i < ops.size:=(Array.getElem?_eq_some_iff.1 ho).1;have hop:=(hs i o ho).2.2 W (fun t=>a.tmps.getD t undef) hI.world (knows_table e0 hs1 (o.looksAt ops) i (by omega) (fun j o' t hj ho' hd ht hc=>by
   obtain⟨_,e,he,hb,hon⟩:=(b4 i o t j o' ho ht ho' hd).resolve_right (fun h=>absurd h.1 (by omega));obtain⟨v,hv,W0,h1,h2,h3⟩:=hI.on j o' t ho' hd (hon▸hall e he hb);refine⟨W0,h1,h2, ?_⟩;have:a.tmps.getD t undef=v:=by simp[hv]
   show φ j _ (a.tmps.getD t undef) W0;rw[this]
   simpa [entOf,hc]using h3))
  have hop:=opOk_congr (a' :=a) (Region.noSelect_spec b0 i o · · ho) (fun t ht=>by
   by_cases hd:∃(k:Nat) (o' :Oper),ops[k]? =some o' ∧o'.dst=some t
   ·obtain⟨k,o',ho',hd⟩:=hd
    rcases b4 i o t k o' ho ht ho' hd with⟨hk,e,he,hb,hon⟩ | ⟨hk,e,he,hb,hon⟩
    case inr=>
     rw[fill_far a0 e0 hs1 t i (by omega) (fun j o2 hj ho2 hdd=>by have:=b2 j k o2 o' t ho2 ho' hdd hd;omega)];refine(hI.off t (fun k2 o2 ho2 hdd=> ?_)).symm;obtain rfl:=b2 k2 k o2 o' t ho2 ho' hdd hd
     cases hlk:listed.getD k2 false with
     | false=>rfl
     | true=>
      have:=hI.dep k2 o' ho' hlk e he hb;rw[hon]at this;have hil:listed.getD i false=false:=by
       have hi:=(unlisted_set hl).2
       simpa [hi]using hl
      rw[hil]at this
      cases this
    rw[fill_near a0 hs1 b2 t (by rw[hn];exact b1 k o' t ho' hd) k o' ho' hd i (by omega) hk];obtain⟨v,hv,W0,_,_,h3⟩:=hI.on k o' t ho' hd (hon▸hall e he hb);rw[hv]
    cases hc:c k with
    | none=>simp[hv]
    | some u=>simp[entOf,hc]at h3;simp[h3]
   ·rw[fill_far a0 e0 hs1 t i (by omega) (fun j o' _ ho' hdd=>hd ⟨j,o',ho',hdd⟩)]
    exact(hI.off t (fun k o' ho' hdd=>absurd ⟨k,o',ho',hdd⟩ hd)).symm) hop
  have next:∀v W',R W W' →entOf (c i) (φ i ((rd i).map fun t=>a.tmps.getD t undef)) v W' →wpAny P .any ops Q fuel (listed.setIfInBounds i true) (a.put o.dst v) W' :=fun v W' hR hv=>
   ih _ _ _ (by omega) (looseInv_next htr hrf hB hrd hn hI ho hl hall v hR hv)
  unfold wpOp;simp only[ho];replace hop:=hop.out
  split
  ·rename_i hw
   simp only[hw,if_true]at hop
   left
   unfold Oper.wp
   generalize (execOp a.eval o).run P W=r at*
   cases r with
   | ok x w' =>
    cases x <;> simp only[looseUpon]at hop <;> simp only[Oper.upon]
    ·exact next _ _ hop.1 hop.2
    ·exact next _ _ hop.1 hop.2
    ·exact hop.2.mono fun e w'' ⟨v,he,hR,hv⟩=>by subst he;exact next _ _ (htr _ _ _ hop.1 hR) hv
    ·exact hop.2.mono fun v w'' ⟨hR,hv⟩=>next _ _ (htr _ _ _ hop.1 hR) hv
   | halt x w' =>simp only[looseUpon]at hop
  ·rename_i hw
   simp only[hw]at hop;exact next _ _ (hrf _) hop

/-- **Each operation met once serves every order.** -/
theorem wp_region_loose {id:Nat}{Q:Exit→Act→World→Prop}{a:Act}{w:World}{l:List Oper}(R:World→World→Prop)(w0:World)(n:Nat)(hm:P.follows .mixedOrders=true)(hn:a.tmps.size=n)(hB:looseB n l.toArray=true)
  (hrf:∀x,R x x) (htr:∀x y z,R x y→R y z→R x z) (h0:R w0 w.drew)
  (h:wpLoose P R w0 l.toArray a (fun env=>∀W vals,R w0 W→knowsAll R w0 vals W env→Q .normal (fill vals env a) W) l []):(Code.region id l.toArray true).wp P Q a w:=by
 obtain⟨E,c,rd,φ,e0,hs,hq⟩:=wpLoose_table l [] h;refine wp_region_any hm (loose_sound (w0:=w0) htr hrf hB hn e0 (fun k o ho=>hs k o (by simpa using ho)) (by simpa using hq) _ _ _ _ (by unfold unlisted;simp) ⟨h0,rfl,rfl,by simp,fun _ _=>rfl,fun k o d ho _ hk=> ?_,fun k o ho _ hk=> ?_,fun k o ho hk=> ?_⟩) <;>
 ·exfalso
  by_cases h' :k < l.length <;> simp[h']at hk
end
end Go.Proofs.YtoadlafdeoklbaaGreatDoor
