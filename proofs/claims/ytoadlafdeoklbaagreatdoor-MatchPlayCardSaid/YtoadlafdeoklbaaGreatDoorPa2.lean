/- Small words: a callee that leaves the world as it was, met inside a region; what is kept over draws. Walks: a copy of bytes. Facts on the types of bytes in this program. A region whose operations each keep what was there, each operation met once. A region that draws its order, inside a fence (a round of a range over a function): each operation met once. Maps whose elements are any values: what is looked up is told by value. -/
import Derived.Test.YtoadlafdeoklbaaGreatDoorPa0
import Derived.StillTailTactics
import Derived.Deep.Quiet
import Derived.Test.YtoadlafdeoklbaaGreatDoorProg
import Derived.Test.YtoadlafdeoklbaaGreatDoorPa1
import Derived.OrdersIn
import Derived.OwnWalkIn
import Derived.Maps.Own

namespace Go.Proofs.YtoadlafdeoklbaaGreatDoor
open Go.RowKit

theorem Keeps.then_alloc {w w' :World}{S:List Nat}(h:Keeps w w' S)(o:Obj):Keeps w (w'.alloc o) S:=h.trans (Keeps.alloc _ _) (by simp)
theorem Keeps.then_ {w w' w'' :World}{S:List Nat}(h:Keeps w w' S)(k:Keeps w' w'' []):Keeps w w'' S:=h.trans k (by simp)
section
variable {P:Program}
end

theorem infoByte:(Tryz.prog.info? 5).map (fun i=>(i.zero,i.size,i.bytes))=some (some (.int .u8 0),1,1):=by kernel_rfl
theorem undBytes:Tryz.prog.underlying 151=some (.slice 5):=by kernel_rfl

/-- The slice value v reads as the bytes l. -/
def Bytes (w:World)(B:Nat)(v:Value)(l:List UInt8):Prop:=
 ∃A c,v= .slice A l.length c∧l.length≤c∧(A=none→c=0)∧c≤maxLen∧l.length≤140737488351232∧Lies w B A (l.map byteV)

/-- v is a row of the call's own (from block base on) that reads as the bytes l. -/
abbrev Owned (w:World)(base:Nat)(v:Value)(l:List UInt8):Prop:=w.ownsRow base 5 1 v l.length (l.map byteV)

end Go.Proofs.YtoadlafdeoklbaaGreatDoor

namespace Go.Proofs.YtoadlafdeoklbaaGreatDoor

/-- All that was there stays. -/
abbrev KeepsAll (w w' :World):Prop:=Keeps w w' []

theorem Row.keeps {w w' :World}{g:Nat}{t:TypeId}{cs:Array Value}(h:Row w g t cs)(hk:Keeps w w' []):Row w' g t cs:=h.keep hk (by simp)

section
variable {P:Program} {R:World→World→Prop} {w0:World} {ops:Array Oper} {a0:Act} {Q:List Ent→Prop} {o:Oper} {rest:List Oper} {env:List Ent}

theorem loose_nil (h:Q env):wpLoose P R w0 ops a0 Q [] env:=h
/-- One operation whose value is known. -/
theorem loose_is (v:Value)(h:∀W vals,R w0 W→knows R w0 vals (o.looksAt ops) W env→opOk P R ops (fill vals env a0) o (fun u _=>u=v) W)
  (hk:wpLoose P R w0 ops a0 Q rest (addEnt o.dst (some v) [] (fun _ _ _=>True) env)):wpLoose P R w0 ops a0 Q (o::rest) env:=
 ⟨some v, [],_,(fun _ h=>nomatch h),h,hk⟩
/-- One operation of whose value something is known. -/
theorem loose_has (φ:Value→World→Prop)(h:∀W vals,R w0 W→knows R w0 vals (o.looksAt ops) W env→∀φ' :Value→World→Prop,RowKit.Hid (∀u w,φ u w→φ' u w)→opOk P R ops (fill vals env a0) o φ' W)
  (hk:wpLoose P R w0 ops a0 Q rest (addEnt o.dst none [] (fun _=>φ) env)):wpLoose P R w0 ops a0 Q (o::rest) env:=
 ⟨none, [],fun _=>φ,(fun _ h=>nomatch h),fun W vals hW hkn=>h W vals hW hkn φ (zh fun _ _ h=>h),hk⟩
/-- One operation of whose value, and of what it read, something is known. -/
theorem loose_had (rd:List Tmp)(φ:List Value→Value→World→Prop)(hrd:rd.all (waitsB ops o)=true)(h:∀W vals,R w0 W→knows R w0 vals (o.looksAt ops) W env→∀φ' :Value→World→Prop,RowKit.Hid (∀u w,φ (rd.map vals) u w→φ' u w)→opOk P R ops (fill vals env a0) o φ' W)
  (hk:wpLoose P R w0 ops a0 Q rest (addEnt o.dst none rd φ env)):wpLoose P R w0 ops a0 Q (o::rest) env:=
 ⟨none,rd,φ,fun t ht=>List.all_eq_true.1 hrd t ht,fun W vals hW hkn=>h W vals hW hkn _ (zh fun _ _ h=>h),hk⟩
/-- One operation that is not wanted. -/
theorem loose_off (hw:∀vals:Tmp→Value,Region.wanted o (yielded ops (fill vals env a0).tmps)=false)(hk:wpLoose P R w0 ops a0 Q rest (addEnt o.dst (some undef) [] (fun _ _ _=>True) env)):wpLoose P R w0 ops a0 Q (o::rest) env:=
 ⟨some undef, [],fun _ _ _=>True,(fun _ h=>nomatch h),fun W vals _ _=>⟨by rw[hw vals];exact rfl⟩,hk⟩
theorem looseUpon_calls {W:World}{φ:Value→World→Prop}{f:FuncId}{args:Array Value}(h:Calls P f args W (fun e w'' =>∃v,e= .returned v∧Keeps W w'' []∧φ v w'')):
  looseUpon P KeepsAll W φ (.ok (.enter f args) W):=⟨Keeps.refl _ _,h⟩
theorem looseUpon_has {W:World}{φ φ' :Value→World→Prop}{f:FuncId}{args:Array Value}(hφ:RowKit.Hid (∀u w,φ u w→φ' u w))(h:Calls P f args W (fun e w'' =>∃v,e= .returned v∧Keeps W w'' []∧φ v w'')):
  looseUpon P KeepsAll W φ' (.ok (.enter f args) W):=⟨Keeps.refl _ _,h.mono fun _ _ ⟨v,he,hk,hv⟩=>⟨v,he,hk,hφ.out _ _ hv⟩⟩
theorem wp_region_keeps {id:Nat}{Q:Exit→Act→World→Prop}{a:Act}{w:World}{l:List Oper}(n:Nat)(hm:P.follows .mixedOrders=true)(hn:a.tmps.size=n)(hB:looseB n l.toArray=true)
  (h:wpLoose P KeepsAll w l.toArray a (fun env=>∀W vals,Keeps w W []→knowsAll KeepsAll w vals W env→Q .normal (fill vals env a) W) l []):(Code.region id l.toArray true).wp P Q a w:=
 wp_region_loose KeepsAll w n hm hn hB (fun _=>Keeps.refl _ _) (fun _ _ _ h k=>h.trans k (by simp)) (Keeps.drew _) h
end
section
variable {P:Program} {w0:World} {ops:Array Oper} {a0:Act} {Q:List Ent→Prop} {o:Oper} {rest:List Oper} {env:List Ent}
/-- One whose value the walk finds. -/
theorem ls {v:Value}(hk:wpLoose P KeepsAll w0 ops a0 Q rest (addEnt o.dst (some v) [] (fun _ _ _=>True) env))
  (h:∀W vals,KeepsAll w0 W→knows KeepsAll w0 vals (o.looksAt ops) W env→opOk P KeepsAll ops (fill vals env a0) o (fun u _=>u=v) W:=by
   intro W vals hW hkn;clear hkn;refine⟨?_⟩;simp only[fill];go_simp
   first | exact⟨Keeps.refl _ _,rfl⟩ | exact⟨Keeps.alloc _ _,rfl⟩):wpLoose P KeepsAll w0 ops a0 Q (o::rest) env:=loose_is v h hk
end
section
variable {P:Program} {R:World→World→Prop} {w0:World} {ops:Array Oper} {a0:Act} {Q:List Ent→Prop} {o:Oper} {rest:List Oper} {env:List Ent}
/-- One that its guard passes over. -/
theorem lo (hk:wpLoose P R w0 ops a0 Q rest (addEnt o.dst (some undef) [] (fun _ _ _=>True) env))(hw:∀vals:Tmp→Value,Region.wanted o (yielded ops (fill vals env a0).tmps)=false:=by intro _;kernel_rfl):wpLoose P R w0 ops a0 Q (o::rest) env:=loose_off hw hk
end

theorem callsIn_of {F:Fence}(hF:F.plain=Fence.wide){k:Nat}{P:Program}{f:FuncId}{args:Array Value}{w:World}{S:Ending→World→Prop}(h:Calls P f args w S):CallsIn F k P f args w S:=by
 have h1:CallsIn F.plain k P f args w S:=by rw[hF];exact callsIn_wide.2 h
 exact h1
def deferless (ops:Array Oper):Bool:=ops.all fun o=>match o.op with | .defer _=>false | _=>true
section
variable {P:Program} {R:World→World→Prop} {w0:World} {ops:Array Oper} {vals:Tmp→Value}
end
end Go.Proofs.YtoadlafdeoklbaaGreatDoor

namespace Go.Proofs.YtoadlafdeoklbaaGreatDoor
open Go.RowKit Go.Maps
open Go.WideElems (Fit rd rg pl rd_val)

/-- An element as it is. -/
def heldR (v:Value):Option (DataW Value×List MemPlace):=some (.held v, [])

section
variable {P:Program} {k e t:TypeId} {w w' :World} {b n:Nat} {D:DataW Value}
/-- Block b is a map of at most n entries whose elements D tells. -/
abbrev HMap (w:World)(P:Program)(k:TypeId)(b n:Nat)(D:DataW Value):Prop:=w.ownsMap P k heldR b n D
theorem HMap.keep {S:List Nat}(h:HMap w P k b n D)(hk:Keeps w w' S)(hb:b∉S):HMap w' P k b n D:=by
 have hlt:=h.lt;obtain⟨es,clock,hb',F,hs,hD⟩:=h;exact⟨es,clock,(hk.block b hlt hb).trans hb',F,hs,hD⟩

/-- An element that is there. -/
theorem HMap.there (h:HMap w P k b n D)(K:Keyed P k)(ht:P.underlying t=some (.map k e)){z:Value}(hz:(zeroValue e).run P w= .ok z w){key v:Value}{kl:Lit}(hkey:keyOf P k key=some kl)
  (hat:∀zd,D.atKey kl zd= .held v) (c:Bool):(Instr.lookup t (.map (some b)) key c).run P w= .ok (if c then .tuple #[v,.bool true]else v) w:=by
 obtain⟨es,clock,hb,F,_,rfl⟩:=h
 rcases fit_look c K ht hz hb F hkey with⟨_,_,h2⟩ | ⟨e0,y,_,_,hrun,hR,h2,_⟩
 ·have:=h2 .nil
  rw[hat]at this
  cases this
 ·have h3:=h2 .nil
  rw[hat]at h3;simp only[heldR,Option.some.injEq]at hR;subst hR;injection h3 with h3
  rw[hrun,h3]
/-- One that is not there. -/
theorem HMap.missing (h:HMap w P k b n D)(K:Keyed P k)(ht:P.underlying t=some (.map k e)){z:Value}(hz:(zeroValue e).run P w= .ok z w){key:Value}{kl:Lit}(hkey:keyOf P k key=some kl)
  (hat:∀zd,D.atKey kl zd=zd) (c:Bool):(Instr.lookup t (.map (some b)) key c).run P w= .ok (if c then .tuple #[z,.bool false]else z) w:=by
 obtain⟨es,clock,hb,F,_,rfl⟩:=h
 rcases fit_look c K ht hz hb F hkey with⟨hrun,_,_⟩ | ⟨e0,y,_,_,hrun,hR,h2,_⟩
 ·exact hrun
 ·have h3:=h2 .nil
  rw[hat]at h3;simp only[heldR,Option.some.injEq]at hR;subst hR
  cases h3

end
end Go.Proofs.YtoadlafdeoklbaaGreatDoor
