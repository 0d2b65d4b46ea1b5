/- Small words: a callee that leaves the world as it was, met inside a region; what is kept over draws. Walks: a copy of bytes. Facts on the types of bytes in this program. A region whose operations each keep what was there, each operation met once. A region that draws its order, inside a fence (a round of a range over a function): each operation met once. Maps whose elements are any values: what is looked up is told by value. -/
import Derived.Test.YtoadlafdeoklbaaGreatDoorPa0
import Derived.StillTailTactics
import Derived.Deep.Quiet
import Derived.Test.YtoadlafdeoklbaaGreatDoorProg
import Derived.Test.YtoadlafdeoklbaaGreatDoorPa1
import Derived.OrdersIn
import Derived.OwnWalkIn
import Derived.Maps.Own

namespace Go.Proofs.YtoadlafdeoklbaaGreatDoor
open Go.RowKit

theorem Keeps.then_alloc {w w' :World}{S:List Nat}(h:Keeps w w' S)(o:Obj):Keeps w (w'.alloc o) S:=h.trans (Keeps.alloc _ _) (by simp)
theorem Keeps.then_set {w w' :World}{S:List Nat}(h:Keeps w w' S)(p:Addr)(u:Value)(hp:w.heap.size≤p.block):Keeps w (w'.setCell p u) S:=
 h.trans (Keeps.setCell _ _ _) (fun x hx hl=>by simp at hx;omega)
theorem Keeps.then_ {w w' w'' :World}{S:List Nat}(h:Keeps w w' S)(k:Keeps w' w'' []):Keeps w w'' S:=h.trans k (by simp)
section
variable {P:Program}
end

theorem infoByte:(Tryz.prog.info? 5).map (fun i=>(i.zero,i.size,i.bytes))=some (some (.int .u8 0),1,1):=by kernel_rfl
theorem undBytes:Tryz.prog.underlying 151=some (.slice 5):=by kernel_rfl

/-- The slice value v reads as the bytes l. -/
def Bytes (w:World)(B:Nat)(v:Value)(l:List UInt8):Prop:=
 ∃A c,v= .slice A l.length c∧l.length≤c∧(A=none→c=0)∧c≤maxLen∧l.length≤140737488351232∧Lies w B A (l.map byteV)

/-- v is a row of the call's own (from block base on) that reads as the bytes l. -/
abbrev Owned (w:World)(base:Nat)(v:Value)(l:List UInt8):Prop:=w.ownsRow base 5 1 v l.length (l.map byteV)

end Go.Proofs.YtoadlafdeoklbaaGreatDoor

namespace Go.Proofs.YtoadlafdeoklbaaGreatDoor

/-- All that was there stays. -/
abbrev KeepsAll (w w' :World):Prop:=Keeps w w' []

theorem Row.keeps {w w' :World}{g:Nat}{t:TypeId}{cs:Array Value}(h:Row w g t cs)(hk:Keeps w w' []):Row w' g t cs:=h.keep hk (by simp)

section
variable {P:Program} {R:World→World→Prop} {w0:World} {ops:Array Oper} {a0:Act} {Q:List Ent→Prop} {o:Oper} {rest:List Oper} {env:List Ent}

theorem loose_nil (h:Q env):wpLoose P R w0 ops a0 Q [] env:=h
/-- One operation whose value is known. -/
theorem loose_is (v:Value)(h:∀W vals,R w0 W→knows R w0 vals (o.looksAt ops) W env→opOk P R ops (fill vals env a0) o (fun u _=>u=v) W)
  (hk:wpLoose P R w0 ops a0 Q rest (addEnt o.dst (some v) [] (fun _ _ _=>True) env)):wpLoose P R w0 ops a0 Q (o::rest) env:=
 ⟨some v, [],_,(fun _ h=>nomatch h),h,hk⟩
/-- One operation of whose value something is known. -/
theorem loose_has (φ:Value→World→Prop)(h:∀W vals,R w0 W→knows R w0 vals (o.looksAt ops) W env→∀φ' :Value→World→Prop,RowKit.Hid (∀u w,φ u w→φ' u w)→opOk P R ops (fill vals env a0) o φ' W)
  (hk:wpLoose P R w0 ops a0 Q rest (addEnt o.dst none [] (fun _=>φ) env)):wpLoose P R w0 ops a0 Q (o::rest) env:=
 ⟨none, [],fun _=>φ,(fun _ h=>nomatch h),fun W vals hW hkn=>h W vals hW hkn φ (zh fun _ _ h=>h),hk⟩
/-- One operation of whose value, and of what it read, something is known. -/
theorem loose_had (rd:List Tmp)(φ:List Value→Value→World→Prop)(hrd:rd.all (waitsB ops o)=true)(h:∀W vals,R w0 W→knows R w0 vals (o.looksAt ops) W env→∀φ' :Value→World→Prop,RowKit.Hid (∀u w,φ (rd.map vals) u w→φ' u w)→opOk P R ops (fill vals env a0) o φ' W)
  (hk:wpLoose P R w0 ops a0 Q rest (addEnt o.dst none rd φ env)):wpLoose P R w0 ops a0 Q (o::rest) env:=
 ⟨none,rd,φ,fun t ht=>List.all_eq_true.1 hrd t ht,fun W vals hW hkn=>h W vals hW hkn _ (zh fun _ _ h=>h),hk⟩
/-- One operation that is not wanted. -/
theorem loose_off (hw:∀vals:Tmp→Value,Region.wanted o (yielded ops (fill vals env a0).tmps)=false)(hk:wpLoose P R w0 ops a0 Q rest (addEnt o.dst (some undef) [] (fun _ _ _=>True) env)):wpLoose P R w0 ops a0 Q (o::rest) env:=
 ⟨some undef, [],fun _ _ _=>True,(fun _ h=>nomatch h),fun W vals _ _=>⟨by rw[hw vals];exact rfl⟩,hk⟩
theorem looseUpon_calls {W:World}{φ:Value→World→Prop}{f:FuncId}{args:Array Value}(h:Calls P f args W (fun e w'' =>∃v,e= .returned v∧Keeps W w'' []∧φ v w'')):
  looseUpon P KeepsAll W φ (.ok (.enter f args) W):=⟨Keeps.refl _ _,h⟩
theorem looseUpon_has {W:World}{φ φ' :Value→World→Prop}{f:FuncId}{args:Array Value}(hφ:RowKit.Hid (∀u w,φ u w→φ' u w))(h:Calls P f args W (fun e w'' =>∃v,e= .returned v∧Keeps W w'' []∧φ v w'')):
  looseUpon P KeepsAll W φ' (.ok (.enter f args) W):=⟨Keeps.refl _ _,h.mono fun _ _ ⟨v,he,hk,hv⟩=>⟨v,he,hk,hφ.out _ _ hv⟩⟩
theorem wp_region_keeps {id:Nat}{Q:Exit→Act→World→Prop}{a:Act}{w:World}{l:List Oper}(n:Nat)(hm:P.follows .mixedOrders=true)(hn:a.tmps.size=n)(hB:looseB n l.toArray=true)
  (h:wpLoose P KeepsAll w l.toArray a (fun env=>∀W vals,Keeps w W []→knowsAll KeepsAll w vals W env→Q .normal (fill vals env a) W) l []):(Code.region id l.toArray true).wp P Q a w:=
 wp_region_loose KeepsAll w n hm hn hB (fun _=>Keeps.refl _ _) (fun _ _ _ h k=>h.trans k (by simp)) (Keeps.drew _) h
end
section
variable {P:Program} {w0:World} {ops:Array Oper} {a0:Act} {Q:List Ent→Prop} {o:Oper} {rest:List Oper} {env:List Ent}
/-- One whose value the walk finds. -/
theorem ls {v:Value}(hk:wpLoose P KeepsAll w0 ops a0 Q rest (addEnt o.dst (some v) [] (fun _ _ _=>True) env))
  (h:∀W vals,KeepsAll w0 W→knows KeepsAll w0 vals (o.looksAt ops) W env→opOk P KeepsAll ops (fill vals env a0) o (fun u _=>u=v) W:=by
   intro W vals hW hkn;clear hkn;refine⟨?_⟩;simp only[fill];go_simp
   first | exact⟨Keeps.refl _ _,rfl⟩ | exact⟨Keeps.alloc _ _,rfl⟩):wpLoose P KeepsAll w0 ops a0 Q (o::rest) env:=loose_is v h hk
end
section
variable {P:Program} {R:World→World→Prop} {w0:World} {ops:Array Oper} {a0:Act} {Q:List Ent→Prop} {o:Oper} {rest:List Oper} {env:List Ent}
/-- One that its guard passes over. -/
theorem lo (hk:wpLoose P R w0 ops a0 Q rest (addEnt o.dst (some undef) [] (fun _ _ _=>True) env))(hw:∀vals:Tmp→Value,Region.wanted o (yielded ops (fill vals env a0).tmps)=false:=by intro _;kernel_rfl):wpLoose P R w0 ops a0 Q (o::rest) env:=loose_off hw hk
end

theorem callsIn_of {F:Fence}(hF:F.plain=Fence.wide){k:Nat}{P:Program}{f:FuncId}{args:Array Value}{w:World}{S:Ending→World→Prop}(h:Calls P f args w S):CallsIn F k P f args w S:=by
 have h1:CallsIn F.plain k P f args w S:=by rw[hF];exact callsIn_wide.2 h
 exact h1
theorem rowsIn_of {F:Fence}(hF:F.plain=Fence.wide){k:Nat}{P:Program}{row:String}{args:Array Value}{w:World}{S:Value→World→Prop}(h:Rows P row args w S):RowsIn F k P row args w S:=by
 have h1:RowsIn F.plain k P row args w S:=by
  rw[hF];exact fun c cs _=>let⟨v,w',r,s⟩:=h c cs;⟨v,w',r,stepsIn_wide.2 s⟩
 exact h1
def deferless (ops:Array Oper):Bool:=ops.all fun o=>match o.op with | .defer _=>false | _=>true
theorem deferless_spec {ops:Array Oper}(h:deferless ops=true){i:Nat}{o:Oper}(ho:ops[i]? =some o)(c:Call):o.op≠ .defer c:=by
 intro heq;have:=Array.all_eq_true_iff_forall_mem.1 h o (Array.mem_of_getElem? ho);simp[heq]at this

section
variable {P:Program} {R:World→World→Prop} {w0:World} {ops:Array Oper} {vals:Tmp→Value}
theorem looseIn_sound {F:Fence}{m n:Nat}(hF:F.plain=Fence.wide)(hnd:deferless ops=true){a0:Act}{c:Nat→Option Value}{rd:Nat→List Tmp}{φ:Nat→List Value→Value→World→Prop}{E:Nat→List Ent}{Q:Exit→Act→World→Prop}(htr:∀x y z,R x y→R y z→R x z)(hrf:∀x,R x x)
  (hB:looseB n ops=true) (hn:a0.tmps.size=n) (e0:E 0= [])
  (hs:∀k o,ops[k]? =some o→E (k+1)=addEnt o.dst (c k) (rd k) (φ k) (E k)∧(∀t∈rd k,waitsB ops o t=true)∧∀W vals,R w0 W→knows R w0 vals (o.looksAt ops) W (E k)→opOk P R ops (fill vals (E k) a0) o (entOf (c k) (φ k ((rd k).map vals))) W)
  (hq:∀W vals,R w0 W→knowsAll R w0 vals W (E ops.size)→Q .normal (fill vals (E ops.size) a0) W):
  ∀(fuel:Nat) (listed:Array Bool) (a:Act) (W:World),unlisted listed≤fuel→LooseInv R w0 ops a0 c rd φ listed a W→wpAnyIn F m P .any ops Q fuel listed a W:=by
 obtain⟨b0,b1,b2,b3,b4⟩:=looseB_spec hB;have hs1:=fun k o ho=>(hs k o ho).1
 have hrd:=fun k o ho=>(hs k o ho).2.1
 have fin:∀(listed:Array Bool) (a:Act) (W:World),LooseInv R w0 ops a0 c rd φ listed a W→Region.ready .any ops listed= []→Q .normal a W:=by
  intro listed a W hI hr;have hall:∀m k,k < m→k < ops.size→listed.getD k false=true:=by
   intro m
   induction m with
   | zero=>intro k h;omega
   | succ m ih=>
    intro k hk hks
    cases hl:listed.getD k false with
    | true=>rfl
    | false=>
     exfalso
     have ho:ops[k]? =some ops[k]:=Array.getElem?_eq_getElem hks;have hl' :listed.getD k true=false:=by
      have:k < listed.size:=by rw[hI.lsize];exact hks
      simpa [this]using hl
     have:k∈Region.ready .any ops listed:=mem_ready.2 ⟨hl',_,ho,fun e he hb=>by
      have hlt:=b3 k _ ho e he hb;exact ih e.on (by omega) (by omega)⟩
     rw[hr]at this
     cases this
  have hq:=hq W (fun t=>a.tmps.getD t undef) hI.world (knowsAll_table e0 hs1 ops.size (Nat.le_refl _) (fun j o t hj ho hd hc=>by
   obtain⟨v,hv,W0,h1,h2,h3⟩:=hI.on j o t ho hd (hall (j+1) j (by omega) hj);refine⟨W0,h1,h2, ?_⟩;have:a.tmps.getD t undef=v:=by simp[hv]
   show φ j _ (a.tmps.getD t undef) W0;rw[this]
   simpa [entOf,hc]using h3) (fun j o hj ho hd hc=>by
   obtain⟨u,W0,h1,h2,h3⟩:=hI.onn j o ho hd (hall (j+1) j (by omega) hj);exact⟨u,W0,h1,h2,by simpa [entOf,hc]using h3⟩))
  have hea:fill (fun t=>a.tmps.getD t undef) (E ops.size) a0=a:=by
   obtain⟨s1,s2⟩:=fill_size (vals:=fun t=>a.tmps.getD t undef) (E ops.size) a0;have ht:(fill (fun t=>a.tmps.getD t undef) (E ops.size) a0).tmps=a.tmps:=by
    refine Array.ext_getElem? fun t=> ?_
    by_cases hd:∃(k:Nat) (o:Oper),ops[k]? =some o∧o.dst=some t
    ·obtain⟨k,o,ho,hd⟩:=hd
     have hk:=(Array.getElem?_eq_some_iff.1 ho).1;rw[fill_near a0 hs1 b2 t (by rw[hn];exact b1 k o t ho hd) k o ho hd ops.size (Nat.le_refl _) hk];obtain⟨v,hv,W0,_,_,h3⟩:=hI.on k o t ho hd (hall (k+1) k (by omega) hk);rw[hv]
     cases hc:c k with
     | none=>simp[hv]
     | some u=>simp[entOf,hc]at h3;simp[h3]
    ·rw[fill_far a0 e0 hs1 t ops.size (Nat.le_refl _) (fun j o _ ho hdd=>hd ⟨j,o,ho,hdd⟩)]
     exact(hI.off t (fun k o ho hdd=>absurd ⟨k,o,ho,hdd⟩ hd)).symm
   have hd' :(fill (fun t=>a.tmps.getD t undef) (E ops.size) a0).defers=a.defers:=by rw[s2,hI.defers]
   generalize fill (fun t=>a.tmps.getD t undef) (E ops.size) a0=b at*
   obtain⟨bt,bd⟩:=b;obtain⟨at_,ad⟩:=a;simp only at ht hd';rw[ht,hd']
  rwa [hea]at hq
 intro fuel
 induction fuel with
 | zero=>
  intro listed a W hu hI;have hr:Region.ready .any ops listed= []:=by
   cases h:Region.ready .any ops listed with
   | nil=>rfl
   | cons i l=>
    have hm:i∈Region.ready .any ops listed:=by rw[h];exact List.mem_cons_self
    have:=(unlisted_set (mem_ready.1 hm).1).1;omega
  exact⟨hr,fin listed a W hI hr⟩
 | succ fuel ih=>
  intro listed a W hu hI;refine⟨fin listed a W hI,fun i hi=> ?_⟩;obtain⟨hl,o,ho,hall⟩:=mem_ready.1 hi;have hus:=(unlisted_set hl).1;have hi' :i < ops.size:=(Array.getElem?_eq_some_iff.1 ho).1;have hop:=(hs i o ho).2.2 W (fun t=>a.tmps.getD t undef) hI.world (knows_table e0 hs1 (o.looksAt ops) i (by omega) (fun j o' t hj ho' hd ht hc=>by
   obtain⟨_,e,he,hb,hon⟩:=(b4 i o t j o' ho ht ho' hd).resolve_right (fun h=>absurd h.1 (by omega));obtain⟨v,hv,W0,h1,h2,h3⟩:=hI.on j o' t ho' hd (hon▸hall e he hb);refine⟨W0,h1,h2, ?_⟩;have:a.tmps.getD t undef=v:=by simp[hv]
   show φ j _ (a.tmps.getD t undef) W0;rw[this]
   simpa [entOf,hc]using h3))
  have hop:=opOk_congr (a' :=a) (Region.noSelect_spec b0 i o · · ho) (fun t ht=>by
   by_cases hd:∃(k:Nat) (o' :Oper),ops[k]? =some o' ∧o'.dst=some t
   ·obtain⟨k,o',ho',hd⟩:=hd
    rcases b4 i o t k o' ho ht ho' hd with⟨hk,e,he,hb,hon⟩ | ⟨hk,e,he,hb,hon⟩
    case inr=>
     rw[fill_far a0 e0 hs1 t i (by omega) (fun j o2 hj ho2 hdd=>by have:=b2 j k o2 o' t ho2 ho' hdd hd;omega)];refine(hI.off t (fun k2 o2 ho2 hdd=> ?_)).symm;obtain rfl:=b2 k2 k o2 o' t ho2 ho' hdd hd
     cases hlk:listed.getD k2 false with
     | false=>rfl
     | true=>
      have:=hI.dep k2 o' ho' hlk e he hb;rw[hon]at this;have hil:listed.getD i false=false:=by
       have hi:=(unlisted_set hl).2
       simpa [hi]using hl
      rw[hil]at this
      cases this
    rw[fill_near a0 hs1 b2 t (by rw[hn];exact b1 k o' t ho' hd) k o' ho' hd i (by omega) hk];obtain⟨v,hv,W0,_,_,h3⟩:=hI.on k o' t ho' hd (hon▸hall e he hb);rw[hv]
    cases hc:c k with
    | none=>simp[hv]
    | some u=>simp[entOf,hc]at h3;simp[h3]
   ·rw[fill_far a0 e0 hs1 t i (by omega) (fun j o' _ ho' hdd=>hd ⟨j,o',ho',hdd⟩)]
    exact(hI.off t (fun k o' ho' hdd=>absurd ⟨k,o',ho',hdd⟩ hd)).symm) hop
  have next:∀v W',R W W' →entOf (c i) (φ i ((rd i).map fun t=>a.tmps.getD t undef)) v W' →wpAnyIn F m P .any ops Q fuel (listed.setIfInBounds i true) (a.put o.dst v) W' :=fun v W' hR hv=>
   ih _ _ _ (by omega) (looseInv_next htr hrf hB hrd hn hI ho hl hall v hR hv)
  have hfn:∀f,F.fn f:=fun f=>by
   have:F.plain.fn f:=by rw[hF];trivial
   exact this
  have hdp:¬(F.depth.isSome=true):=by
   have:F.plain.depth=none:=by rw[hF];rfl
   rw[Fence.plain_depth]at this;simp[this]
  have hse:o.semAt F.round a.eval=execOp a.eval o:=Oper.semAt_plain F a.eval o (deferless_spec hnd ho);have hcalls:∀{k:Nat} {f:FuncId} {args:Array Value} {w:World} {S:Ending→World→Prop},Calls P f args w S→CallsIn F k P f args w S:=fun h=>callsIn_of hF h
  unfold wpOpIn;simp only[ho];replace hop:=hop.out
  split
  ·rename_i hw
   simp only[hw,if_true]at hop;refine⟨fun f _=>hfn f, ?_⟩;rw[hse]
   generalize (execOp a.eval o).run P W=r at*
   cases r with
   | ok x w' =>
    cases x <;> simp only[looseUpon]at hop <;> simp only[Oper.uponIn]
    ·exact next _ _ hop.1 hop.2
    ·exact next _ _ hop.1 hop.2
    ·exact⟨fun h=>absurd h hdp,hcalls (hop.2.mono fun e w'' ⟨v,he,hR,hv⟩=>by subst he;exact next _ _ (htr _ _ _ hop.1 hR) hv)⟩
    ·exact⟨fun h=>absurd h hdp,rowsIn_of hF (hop.2.mono fun v w'' ⟨hR,hv⟩=>next _ _ (htr _ _ _ hop.1 hR) hv)⟩
   | halt x w' =>simp only[looseUpon]at hop
  ·rename_i hw
   simp only[hw]at hop;exact⟨fun f _=>hfn f,next _ _ (hrf _) hop⟩

/-- **Each operation met once serves every order**, inside a fence as well. -/
theorem wpIn_region_keeps {F:Fence}{m:Nat}{id:Nat}{Q:Exit→Act→World→Prop}{a:Act}{w:World}{l:List Oper}(hF:F.plain=Fence.wide)(n:Nat)(hm:P.follows .mixedOrders=true)(hn:a.tmps.size=n)(hB:looseB n l.toArray=true)(hnd:deferless l.toArray=true)
  (h:wpLoose P KeepsAll w l.toArray a (fun env=>∀W vals,Keeps w W []→knowsAll KeepsAll w vals W env→Q .normal (fill vals env a) W) l []):(Code.region id l.toArray true).wpIn F m P Q a w:=by
 obtain⟨E,c,rd,φ,e0,hs,hq⟩:=wpLoose_table l [] h;refine wpIn_region_any hm (looseIn_sound (w0:=w) hF hnd (fun _ _ _ h k=>h.trans k (by simp)) (fun _=>Keeps.refl _ _) hB hn e0 (fun k o ho=>hs k o (by simpa using ho)) (by simpa using hq) _ _ _ _ (by unfold unlisted;simp) ⟨Keeps.drew _,rfl,rfl,by simp,fun _ _=>rfl,fun k o d ho _ hk=> ?_,fun k o ho _ hk=> ?_,fun k o ho hk=> ?_⟩) <;>
 ·exfalso
  by_cases h' :k < l.length <;> simp[h']at hk
end
end Go.Proofs.YtoadlafdeoklbaaGreatDoor

namespace Go.Proofs.YtoadlafdeoklbaaGreatDoor
open Go.RowKit Go.Maps
open Go.WideElems (Fit rd rg pl rd_val)

/-- An element as it is. -/
def heldR (v:Value):Option (DataW Value×List MemPlace):=some (.held v, [])

section
variable {P:Program} {k e t:TypeId} {w w' :World} {b n:Nat} {D:DataW Value}
/-- Block b is a map of at most n entries whose elements D tells. -/
abbrev HMap (w:World)(P:Program)(k:TypeId)(b n:Nat)(D:DataW Value):Prop:=w.ownsMap P k heldR b n D
theorem HMap.keep {S:List Nat}(h:HMap w P k b n D)(hk:Keeps w w' S)(hb:b∉S):HMap w' P k b n D:=by
 have hlt:=h.lt;obtain⟨es,clock,hb',F,hs,hD⟩:=h;exact⟨es,clock,(hk.block b hlt hb).trans hb',F,hs,hD⟩

/-- An element that is there. -/
theorem HMap.there (h:HMap w P k b n D)(K:Keyed P k)(ht:P.underlying t=some (.map k e)){z:Value}(hz:(zeroValue e).run P w= .ok z w){key v:Value}{kl:Lit}(hkey:keyOf P k key=some kl)
  (hat:∀zd,D.atKey kl zd= .held v) (c:Bool):(Instr.lookup t (.map (some b)) key c).run P w= .ok (if c then .tuple #[v,.bool true]else v) w:=by
 obtain⟨es,clock,hb,F,_,rfl⟩:=h
 rcases fit_look c K ht hz hb F hkey with⟨_,_,h2⟩ | ⟨e0,y,_,_,hrun,hR,h2,_⟩
 ·have:=h2 .nil
  rw[hat]at this
  cases this
 ·have h3:=h2 .nil
  rw[hat]at h3;simp only[heldR,Option.some.injEq]at hR;subst hR;injection h3 with h3
  rw[hrun,h3]
/-- One that is not there. -/
theorem HMap.missing (h:HMap w P k b n D)(K:Keyed P k)(ht:P.underlying t=some (.map k e)){z:Value}(hz:(zeroValue e).run P w= .ok z w){key:Value}{kl:Lit}(hkey:keyOf P k key=some kl)
  (hat:∀zd,D.atKey kl zd=zd) (c:Bool):(Instr.lookup t (.map (some b)) key c).run P w= .ok (if c then .tuple #[z,.bool false]else z) w:=by
 obtain⟨es,clock,hb,F,_,rfl⟩:=h
 rcases fit_look c K ht hz hb F hkey with⟨hrun,_,_⟩ | ⟨e0,y,_,_,hrun,hR,h2,_⟩
 ·exact hrun
 ·have h3:=h2 .nil
  rw[hat]at h3;simp only[heldR,Option.some.injEq]at hR;subst hR
  cases h3

end
end Go.Proofs.YtoadlafdeoklbaaGreatDoor
