/- Operations of a region whose values are named: the kernel checks each. -/
import Derived.Test.YtahbikfbjenfpaaGreatDoorPa12
import Derived.Test.YtahbikfbjenfpaaGreatDoorPa3
import Derived.KernelRfl

namespace Go.Proofs.YtahbikfbjenfpaaGreatDoor
open Go.RowKit

section
variable {P:Program} {w0:World} {ops:Array Oper} {a0:Act} {Q:List Ent→Prop} {o:Oper} {rest:List Oper} {env:List Ent}
/-- One that computes. -/
theorem loose_q (v:Value)(hw:∀vals:Tmp→Value,Region.wanted o (yielded ops (fill vals env a0).tmps)=true)(h:∀(W:World) (vals:Tmp→Value),(execOp (fill vals env a0).eval o).run P W= .ok (.value v) W)
  (hk:wpLoose P KeepsAll w0 ops a0 Q rest (addEnt o.dst (some v) [] (fun _ _ _=>True) env)):wpLoose P KeepsAll w0 ops a0 Q (o::rest) env:=
 loose_is v (fun W vals _ _=>⟨by rw[if_pos (hw vals),h];exact⟨Keeps.refl _ _,rfl⟩⟩) hk
theorem run_load_one {t:TypeId}{ad:Addr}{v:Value}{W:World}(ht:∀W,(isAgg t).run P W= .ok false W)(hc:W.cell? ad=some v):(Instr.loadAt t (.pointer (some ad))).run P W= .ok v W:=by
 simp[Instr.loadAt,Instr.sureAddr,loadVar,ht,go_sem,hc]
/-- One that reads a cell. -/
theorem loose_ql (t:TypeId)(x:Operand)(ad:Addr)(v:Value)(ho:o.op= .load t x)(hw:∀vals:Tmp→Value,Region.wanted o (yielded ops (fill vals env a0).tmps)=true)(hx:∀vals,(fill vals env a0).eval x= .pointer (some ad))(ht:∀W,(isAgg t).run P W= .ok false W)(hc:∀W,KeepsAll w0 W→W.cell? ad=some v)
  (hk:wpLoose P KeepsAll w0 ops a0 Q rest (addEnt o.dst (some v) [] (fun _ _ _=>True) env)):wpLoose P KeepsAll w0 ops a0 Q (o::rest) env:=
 loose_is v (fun W vals hW _=>⟨by
  rw[if_pos (hw vals)];unfold execOp;simp only[ho,hx,Sem.run_bind,run_load_one ht (hc W hW),Result.andThen_ok,Sem.run_pure];exact⟨Keeps.refl _ _,rfl⟩⟩) hk
/-- One that calls, and whose answer is known. -/
theorem loose_qc (f:FuncId)(args:Array Value)(v:Value)(hw:∀vals:Tmp→Value,Region.wanted o (yielded ops (fill vals env a0).tmps)=true)(he:∀(W:World) (vals:Tmp→Value),(execOp (fill vals env a0).eval o).run P W= .ok (.enter f args) W)
  (hc:∀W,KeepsAll w0 W→Calls P f args W fun e w' =>e= .returned v∧Keeps W w' [])
  (hk:wpLoose P KeepsAll w0 ops a0 Q rest (addEnt o.dst (some v) [] (fun _ _ _=>True) env)):wpLoose P KeepsAll w0 ops a0 Q (o::rest) env:=
 loose_is v (fun W vals hW _=>⟨by rw[if_pos (hw vals),he];exact looseUpon_calls ((hc W hW).mono fun e w' ⟨h1,h2⟩=>⟨v,h1,h2,rfl⟩)⟩) hk
/-- One that calls a function that is no constant. -/
theorem loose_qv (i:FuncId)(cap args args' :Array Value)(v:Value)(ha:args++cap=args'){c:Call}(ho:o.op= .call c)(hr:∀(args:Array Value) (w:World),(callFunc i args).run P w= .ok (.enter i args) w)(hw:∀vals:Tmp→Value,Region.wanted o (yielded ops (fill vals env a0).tmps)=true)
  (he:∀(W:World) (vals:Tmp→Value),(resolve (fill vals env a0).eval c o.type).run P W= .ok {target:= .fn (.func i) cap,args:=args} W)
  (hc:∀W,KeepsAll w0 W→Calls P i args' W fun e w' =>e= .returned v∧Keeps W w' [])
  (hk:wpLoose P KeepsAll w0 ops a0 Q rest (addEnt o.dst (some v) [] (fun _ _ _=>True) env)):wpLoose P KeepsAll w0 ops a0 Q (o::rest) env:=
 loose_is v (fun W vals hW _=>⟨by
  subst ha;rw[if_pos (hw vals)];have e:(execOp (fill vals env a0).eval o).run P W= .ok (.enter i (args++cap)) W:=by
   unfold execOp;simp only[ho,Sem.run_bind,he,Result.andThen_ok];exact hr _ _
  rw[e];exact looseUpon_calls ((hc W hW).mono fun e w' ⟨h1,h2⟩=>⟨v,h1,h2,rfl⟩)⟩) hk
/-- One that reads a whole row. -/
theorem loose_qw (t:TypeId)(x:Operand)(g:Nat)(cs:List Value){d:TypeDesc}(ho:o.op= .load t x)(hu:P.underlying t=some d)(hd:d.isRow=true)(hi:(P.info? t).map (·.size)=some cs.length)(hw:∀vals:Tmp→Value,Region.wanted o (yielded ops (fill vals env a0).tmps)=true)(hx:∀vals,(fill vals env a0).eval x= .pointer (some ⟨g,0,none⟩))(hc:∀W,KeepsAll w0 W→W.rangeAt g 0 cs)
  (hk:wpLoose P KeepsAll w0 ops a0 Q rest (addEnt o.dst (some (.agg cs.toArray)) [] (fun _ _ _=>True) env)):wpLoose P KeepsAll w0 ops a0 Q (o::rest) env:=
 loose_is (.agg cs.toArray) (fun W vals hW _=>opOk_load (hw vals) ho (hx vals) (hc W hW) hu hd hi (Keeps.refl _ _) rfl) hk
/-- The same, the kernel's part filled in. -/
theorem lq (v:Value)(hk:wpLoose P KeepsAll w0 ops a0 Q rest (addEnt o.dst (some v) [] (fun _ _ _=>True) env))
  (hw:∀vals:Tmp→Value,Region.wanted o (yielded ops (fill vals env a0).tmps)=true:=by intro _;kernel_rfl) (h:∀(W:World) (vals:Tmp→Value),(execOp (fill vals env a0).eval o).run P W= .ok (.value v) W:=by intro _ _;kernel_rfl):wpLoose P KeepsAll w0 ops a0 Q (o::rest) env:=loose_q v hw h hk
theorem ll (t:TypeId)(x:Operand)(ad:Addr)(v:Value)(hc:∀W,KeepsAll w0 W→W.cell? ad=some v)(hk:wpLoose P KeepsAll w0 ops a0 Q rest (addEnt o.dst (some v) [] (fun _ _ _=>True) env))(ho:o.op= .load t x:=by rfl)
  (hw:∀vals:Tmp→Value,Region.wanted o (yielded ops (fill vals env a0).tmps)=true:=by intro _;kernel_rfl) (hx:∀vals,(fill vals env a0).eval x= .pointer (some ad):=by intro _;kernel_rfl) (ht:∀W,(isAgg t).run P W= .ok false W:=by intro _;kernel_rfl):wpLoose P KeepsAll w0 ops a0 Q (o::rest) env:=loose_ql t x ad v ho hw hx ht hc hk
theorem lw (t:TypeId)(x:Operand)(g:Nat)(cs:List Value){d:TypeDesc}(hu:P.underlying t=some d)(hc:∀W,KeepsAll w0 W→W.rangeAt g 0 cs)(hk:wpLoose P KeepsAll w0 ops a0 Q rest (addEnt o.dst (some (.agg cs.toArray)) [] (fun _ _ _=>True) env))(ho:o.op= .load t x:=by rfl)(hd:d.isRow=true:=by rfl)(hi:(P.info? t).map (·.size)=some cs.length:=by kernel_rfl)
  (hw:∀vals:Tmp→Value,Region.wanted o (yielded ops (fill vals env a0).tmps)=true:=by intro _;kernel_rfl) (hx:∀vals,(fill vals env a0).eval x= .pointer (some ⟨g,0,none⟩):=by intro _;kernel_rfl):wpLoose P KeepsAll w0 ops a0 Q (o::rest) env:=loose_qw t x g cs ho hu hd hi hw hx hc hk
end
end Go.Proofs.YtahbikfbjenfpaaGreatDoor
