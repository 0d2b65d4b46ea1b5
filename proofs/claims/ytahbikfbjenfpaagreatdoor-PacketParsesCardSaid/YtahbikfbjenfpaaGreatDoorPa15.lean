/- Operations of a region whose values are named: the kernel checks each. -/
import Derived.Test.YtahbikfbjenfpaaGreatDoorPa12
import Derived.Test.YtahbikfbjenfpaaGreatDoorPa3
import Derived.KernelRfl

namespace Go.Proofs.YtahbikfbjenfpaaGreatDoor
open Tryz Go.RowKit

section
variable {P:Program} {w0:au} {ops:Array Oper} {a0:Act} {Q:List fQ->Prop} {o:Oper} {rest:List Oper} {env:List fQ}
/-- One that computes. -/
theorem aK (v:Value)(hw:∀vals:Tmp->Value,Region.wanted o (yielded ops (fill vals env a0).tmps)=true)(h:∀(W:au) (vals:Tmp->Value),(execOp (fill vals env a0).eval o).run P W= .ok (.value v) W)
  (hk:ba P ax w0 ops a0 Q rest (af o.dst (some v) [] (λ_ _ _=>True) env)):ba P ax w0 ops a0 Q (o::rest) env:=
 ak v (λW vals _ _=>⟨by rw[aE (hw vals),h];exact⟨ae.refl _ _,rfl⟩⟩) hk
theorem nG {t:TypeId}{ad:Addr}{v:Value}{W:au}(ht:∀W,(isAgg t).run P W= .ok false W)(hc:W.cell? ad=some v):(Instr.loadAt t (.pointer (some ad))).run P W= .ok v W:=by
 simp[Instr.loadAt,Instr.sureAddr,loadVar,ht,go_sem,hc]
/-- One that reads a cell. -/
theorem GR (t:TypeId)(x:Operand)(ad:Addr)(v:Value)(ho:o.op= .load t x)(hw:∀vals:Tmp->Value,Region.wanted o (yielded ops (fill vals env a0).tmps)=true)(hx:∀vals,(fill vals env a0).eval x= .pointer (some ad))(ht:∀W,(isAgg t).run P W= .ok false W)(hc:∀W,ax w0 W->W.cell? ad=some v)
  (hk:ba P ax w0 ops a0 Q rest (af o.dst (some v) [] (λ_ _ _=>True) env)):ba P ax w0 ops a0 Q (o::rest) env:=
 ak v (λW vals hW _=>⟨by
  rw[aE (hw vals)];unfold execOp;simp only[ho,hx,fo,nG ht (hc W hW),fk,gq];exact⟨ae.refl _ _,rfl⟩⟩) hk
/-- One that calls, and whose answer is known. -/
theorem aT (f:FuncId)(args:Array Value)(v:Value)(hw:∀vals:Tmp->Value,Region.wanted o (yielded ops (fill vals env a0).tmps)=true)(he:∀(W:au) (vals:Tmp->Value),(execOp (fill vals env a0).eval o).run P W= .ok (.enter f args) W)
  (hc:∀W,ax w0 W->Calls P f args W λe w' =>e= .returned v/\ae W w' [])
  (hk:ba P ax w0 ops a0 Q rest (af o.dst (some v) [] (λ_ _ _=>True) env)):ba P ax w0 ops a0 Q (o::rest) env:=
 ak v (λW vals hW _=>⟨by rw[aE (hw vals),he];exact aC ((hc W hW).mono λe w' ⟨h1,h2⟩=>⟨v,h1,h2,rfl⟩)⟩) hk
/-- One that calls a function that is no constant. -/
theorem pg (i:FuncId)(cap args args' :Array Value)(v:Value)(ha:args++cap=args'){c:Call}(ho:o.op= .call c)(hr:∀(args:Array Value) (w:au),(callFunc i args).run P w= .ok (.enter i args) w)(hw:∀vals:Tmp->Value,Region.wanted o (yielded ops (fill vals env a0).tmps)=true)
  (he:∀(W:au) (vals:Tmp->Value),(resolve (fill vals env a0).eval c o.type).run P W= .ok {target:= .fn (.func i) cap,args:=args} W)
  (hc:∀W,ax w0 W->Calls P i args' W λe w' =>e= .returned v/\ae W w' [])
  (hk:ba P ax w0 ops a0 Q rest (af o.dst (some v) [] (λ_ _ _=>True) env)):ba P ax w0 ops a0 Q (o::rest) env:=
 ak v (λW vals hW _=>⟨by
  subst ha;rw[aE (hw vals)];have e:(execOp (fill vals env a0).eval o).run P W= .ok (.enter i (args++cap)) W:=by
   unfold execOp;simp only[ho,fo,he,fk];exact hr _ _
  rw[e];exact aC ((hc W hW).mono λe w' ⟨h1,h2⟩=>⟨v,h1,h2,rfl⟩)⟩) hk
/-- One that reads a whole row. -/
theorem Bf (t:TypeId)(x:Operand)(g:Nat)(cs:List Value){d:TypeDesc}(ho:o.op= .load t x)(hu:P.underlying t=some d)(hd:d.isRow=true)(hi:(P.info? t).map (·.size)=some cs.length)(hw:∀vals:Tmp->Value,Region.wanted o (yielded ops (fill vals env a0).tmps)=true)(hx:∀vals,(fill vals env a0).eval x= .pointer (some ⟨g,0,none⟩))(hc:∀W,ax w0 W->W.rangeAt g 0 cs)
  (hk:ba P ax w0 ops a0 Q rest (af o.dst (some (.agg cs.toArray)) [] (λ_ _ _=>True) env)):ba P ax w0 ops a0 Q (o::rest) env:=
 ak (.agg cs.toArray) (λW vals hW _=>kQ (hw vals) ho (hx vals) (hc W hW) hu hd hi (ae.refl _ _) rfl) hk
/-- The same, the kernel's part filled in. -/
theorem lq (v:Value)(hk:ba P ax w0 ops a0 Q rest (af o.dst (some v) [] (λ_ _ _=>True) env))
  (hw:∀vals:Tmp->Value,Region.wanted o (yielded ops (fill vals env a0).tmps)=true:=by intro _;kernel_rfl) (h:∀(W:au) (vals:Tmp->Value),(execOp (fill vals env a0).eval o).run P W= .ok (.value v) W:=by intro _ _;kernel_rfl):ba P ax w0 ops a0 Q (o::rest) env:=aK v hw h hk
theorem ll (t:TypeId)(x:Operand)(ad:Addr)(v:Value)(hc:∀W,ax w0 W->W.cell? ad=some v)(hk:ba P ax w0 ops a0 Q rest (af o.dst (some v) [] (λ_ _ _=>True) env))(ho:o.op= .load t x:=by rfl)
  (hw:∀vals:Tmp->Value,Region.wanted o (yielded ops (fill vals env a0).tmps)=true:=by intro _;kernel_rfl) (hx:∀vals,(fill vals env a0).eval x= .pointer (some ad):=by intro _;kernel_rfl) (ht:∀W,(isAgg t).run P W= .ok false W:=by intro _;kernel_rfl):ba P ax w0 ops a0 Q (o::rest) env:=GR t x ad v ho hw hx ht hc hk
theorem lw (t:TypeId)(x:Operand)(g:Nat)(cs:List Value){d:TypeDesc}(hu:P.underlying t=some d)(hc:∀W,ax w0 W->W.rangeAt g 0 cs)(hk:ba P ax w0 ops a0 Q rest (af o.dst (some (.agg cs.toArray)) [] (λ_ _ _=>True) env))(ho:o.op= .load t x:=by rfl)(hd:d.isRow=true:=by rfl)(hi:(P.info? t).map (·.size)=some cs.length:=by kernel_rfl)
  (hw:∀vals:Tmp->Value,Region.wanted o (yielded ops (fill vals env a0).tmps)=true:=by intro _;kernel_rfl) (hx:∀vals,(fill vals env a0).eval x= .pointer (some ⟨g,0,none⟩):=by intro _;kernel_rfl):ba P ax w0 ops a0 Q (o::rest) env:=Bf t x g cs ho hu hd hi hw hx hc hk
end
end Go.Proofs.YtahbikfbjenfpaaGreatDoor
