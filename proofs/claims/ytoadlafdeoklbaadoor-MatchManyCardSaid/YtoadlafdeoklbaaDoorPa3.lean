/- Small words: a callee that leaves the world as it was, met inside a region; what is kept over draws. Walks: a copy of bytes. Facts on the types of bytes in this program. A region whose operations each keep what was there, each operation met once. -/
import Derived.Test.YtoadlafdeoklbaaDoorPa0
import Derived.StillTailTactics
import Derived.Deep.Quiet
import Derived.Test.YtoadlafdeoklbaaDoorProg
import Derived.Test.YtoadlafdeoklbaaDoorPa2

namespace Go.Proofs.YtoadlafdeoklbaaDoor
open Go.RowKit

theorem Keeps.then_alloc {w w' :World}{S:List Nat}(h:Keeps w w' S)(o:Obj):Keeps w (w'.alloc o) S:=h.trans (Keeps.alloc _ _) (by simp)
theorem Keeps.then_ {w w' w'' :World}{S:List Nat}(h:Keeps w w' S)(k:Keeps w' w'' []):Keeps w w'' S:=h.trans k (by simp)
section
variable {P:Program}
end

theorem infoByte:(Tryd.prog.info? 5).map (fun i=>(i.zero,i.size,i.bytes))=some (some (.int .u8 0),1,1):=by kernel_rfl
theorem undBytes:Tryd.prog.underlying 28=some (.slice 5):=by kernel_rfl

/-- The slice value v reads as the bytes l. -/
def Bytes (w:World)(B:Nat)(v:Value)(l:List UInt8):Prop:=
 ∃A c,v= .slice A l.length c∧l.length≤c∧(A=none→c=0)∧c≤maxLen∧l.length≤140737488351232∧Lies w B A (l.map byteV)

/-- v is a row of the call's own (from block base on) that reads as the bytes l. -/
abbrev Owned (w:World)(base:Nat)(v:Value)(l:List UInt8):Prop:=w.ownsRow base 5 1 v l.length (l.map byteV)

end Go.Proofs.YtoadlafdeoklbaaDoor

namespace Go.Proofs.YtoadlafdeoklbaaDoor

/-- All that was there stays. -/
abbrev KeepsAll (w w' :World):Prop:=Keeps w w' []

theorem Row.keeps {w w' :World}{g:Nat}{t:TypeId}{cs:Array Value}(h:Row w g t cs)(hk:Keeps w w' []):Row w' g t cs:=h.keep hk (by simp)

section
variable {P:Program} {R:World→World→Prop} {w0:World} {ops:Array Oper} {a0:Act} {Q:List Ent→Prop} {o:Oper} {rest:List Oper} {env:List Ent}

theorem loose_nil (h:Q env):wpLoose P R w0 ops a0 Q [] env:=h
/-- One operation whose value is known. -/
theorem loose_is (v:Value)(h:∀W vals,R w0 W→knows R w0 vals (o.looksAt ops) W env→opOk P R ops (fill vals env a0) o (fun u _=>u=v) W)
  (hk:wpLoose P R w0 ops a0 Q rest (addEnt o.dst (some v) [] (fun _ _ _=>True) env)):wpLoose P R w0 ops a0 Q (o::rest) env:=
 ⟨some v, [],_,(fun _ h=>nomatch h),h,hk⟩
/-- One operation of whose value something is known. -/
theorem loose_has (φ:Value→World→Prop)(h:∀W vals,R w0 W→knows R w0 vals (o.looksAt ops) W env→∀φ' :Value→World→Prop,RowKit.Hid (∀u w,φ u w→φ' u w)→opOk P R ops (fill vals env a0) o φ' W)
  (hk:wpLoose P R w0 ops a0 Q rest (addEnt o.dst none [] (fun _=>φ) env)):wpLoose P R w0 ops a0 Q (o::rest) env:=
 ⟨none, [],fun _=>φ,(fun _ h=>nomatch h),fun W vals hW hkn=>h W vals hW hkn φ (zh fun _ _ h=>h),hk⟩
/-- One operation of whose value, and of what it read, something is known. -/
theorem loose_had (rd:List Tmp)(φ:List Value→Value→World→Prop)(hrd:rd.all (waitsB ops o)=true)(h:∀W vals,R w0 W→knows R w0 vals (o.looksAt ops) W env→∀φ' :Value→World→Prop,RowKit.Hid (∀u w,φ (rd.map vals) u w→φ' u w)→opOk P R ops (fill vals env a0) o φ' W)
  (hk:wpLoose P R w0 ops a0 Q rest (addEnt o.dst none rd φ env)):wpLoose P R w0 ops a0 Q (o::rest) env:=
 ⟨none,rd,φ,fun t ht=>List.all_eq_true.1 hrd t ht,fun W vals hW hkn=>h W vals hW hkn _ (zh fun _ _ h=>h),hk⟩
/-- One operation that is not wanted. -/
theorem loose_off (hw:∀vals:Tmp→Value,Region.wanted o (yielded ops (fill vals env a0).tmps)=false)(hk:wpLoose P R w0 ops a0 Q rest (addEnt o.dst (some undef) [] (fun _ _ _=>True) env)):wpLoose P R w0 ops a0 Q (o::rest) env:=
 ⟨some undef, [],fun _ _ _=>True,(fun _ h=>nomatch h),fun W vals _ _=>⟨by rw[hw vals];exact rfl⟩,hk⟩
theorem looseUpon_calls {W:World}{φ:Value→World→Prop}{f:FuncId}{args:Array Value}(h:Calls P f args W (fun e w'' =>∃v,e= .returned v∧Keeps W w'' []∧φ v w'')):
  looseUpon P KeepsAll W φ (.ok (.enter f args) W):=⟨Keeps.refl _ _,h⟩
theorem looseUpon_has {W:World}{φ φ' :Value→World→Prop}{f:FuncId}{args:Array Value}(hφ:RowKit.Hid (∀u w,φ u w→φ' u w))(h:Calls P f args W (fun e w'' =>∃v,e= .returned v∧Keeps W w'' []∧φ v w'')):
  looseUpon P KeepsAll W φ' (.ok (.enter f args) W):=⟨Keeps.refl _ _,h.mono fun _ _ ⟨v,he,hk,hv⟩=>⟨v,he,hk,hφ.out _ _ hv⟩⟩
theorem wp_region_keeps {id:Nat}{Q:Exit→Act→World→Prop}{a:Act}{w:World}{l:List Oper}(n:Nat)(hm:P.follows .mixedOrders=true)(hn:a.tmps.size=n)(hB:looseB n l.toArray=true)
  (h:wpLoose P KeepsAll w l.toArray a (fun env=>∀W vals,Keeps w W []→knowsAll KeepsAll w vals W env→Q .normal (fill vals env a) W) l []):(Code.region id l.toArray true).wp P Q a w:=
 wp_region_loose KeepsAll w n hm hn hB (fun _=>Keeps.refl _ _) (fun _ _ _ h k=>h.trans k (by simp)) (Keeps.drew _) h
end
section
variable {P:Program} {w0:World} {ops:Array Oper} {a0:Act} {Q:List Ent→Prop} {o:Oper} {rest:List Oper} {env:List Ent}
/-- One whose value the walk finds. -/
theorem ls {v:Value}(hk:wpLoose P KeepsAll w0 ops a0 Q rest (addEnt o.dst (some v) [] (fun _ _ _=>True) env))
  (h:∀W vals,KeepsAll w0 W→knows KeepsAll w0 vals (o.looksAt ops) W env→opOk P KeepsAll ops (fill vals env a0) o (fun u _=>u=v) W:=by
   intro W vals hW hkn;clear hkn;refine⟨?_⟩;simp only[fill];go_simp
   first | exact⟨Keeps.refl _ _,rfl⟩ | exact⟨Keeps.alloc _ _,rfl⟩):wpLoose P KeepsAll w0 ops a0 Q (o::rest) env:=loose_is v h hk
end
section
variable {P:Program} {R:World→World→Prop} {w0:World} {ops:Array Oper} {a0:Act} {Q:List Ent→Prop} {o:Oper} {rest:List Oper} {env:List Ent}
/-- One that its guard passes over. -/
theorem lo (hk:wpLoose P R w0 ops a0 Q rest (addEnt o.dst (some undef) [] (fun _ _ _=>True) env))(hw:∀vals:Tmp→Value,Region.wanted o (yielded ops (fill vals env a0).tmps)=false:=by intro _;kernel_rfl):wpLoose P R w0 ops a0 Q (o::rest) env:=loose_off hw hk
end
end Go.Proofs.YtoadlafdeoklbaaDoor
