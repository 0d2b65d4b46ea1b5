/- A whole row is read, in a drawn region. Operations of a region whose values are named: the kernel checks each. Steps of a fixed region, one operation after the other. -/
import Derived.Test.YtoadlafdeoklbaaDoorPa0
import Derived.Test.YtoadlafdeoklbaaDoorPa3
import Derived.Deep.MidRow
import Derived.Laws.StructEq
import Derived.Test.YtoadlafdeoklbaaDoorPa22
import Derived.KernelRfl
import Derived.Test.YtoadlafdeoklbaaDoorPa11

namespace Go.Proofs.YtoadlafdeoklbaaDoor
open Go.RowKit

theorem opOk_load {P:Program}{R:World→World→Prop}{ops:Array Oper}{a:Act}{o:Oper}{φ:Value→World→Prop}{W:World}(hw:Region.wanted o (yielded ops a.tmps)=true){t:TypeId}{x:Operand}(ho:o.op= .load t x){g:Nat}{cs:List Value}{d:TypeDesc}(hx:a.eval x= .pointer (some ⟨g,0,none⟩))(hc:W.rangeAt g 0 cs)(hu:P.underlying t=some d)(hd:d.isRow=true)(hi:(P.info? t).map (·.size)=some cs.length)(hR:R W W)(hφ:φ (.agg cs.toArray) W):opOk P R ops a o φ W:=by
 refine⟨?_⟩;rw[if_pos hw];unfold execOp;simp only[ho,hx,Instr.loadAt,Instr.sureAddr,Sem.run_bind,Sem.run_pure,Result.andThen_ok,run_loadVar_mid W g 0 t cs d hc hu hd hi];exact⟨hR,hφ⟩

section
variable {P:Program} {w0:World} {ops:Array Oper} {a0:Act} {Q:List Ent→Prop} {o:Oper} {rest:List Oper} {env:List Ent}
/-- One that computes. -/
theorem loose_q (v:Value)(hw:∀vals:Tmp→Value,Region.wanted o (yielded ops (fill vals env a0).tmps)=true)(h:∀(W:World) (vals:Tmp→Value),(execOp (fill vals env a0).eval o).run P W= .ok (.value v) W)
  (hk:wpLoose P KeepsAll w0 ops a0 Q rest (addEnt o.dst (some v) [] (fun _ _ _=>True) env)):wpLoose P KeepsAll w0 ops a0 Q (o::rest) env:=
 loose_is v (fun W vals _ _=>⟨by rw[if_pos (hw vals),h];exact⟨Keeps.refl _ _,rfl⟩⟩) hk
theorem run_load_one {t:TypeId}{ad:Addr}{v:Value}{W:World}(ht:∀W,(isAgg t).run P W= .ok false W)(hc:W.cell? ad=some v):(Instr.loadAt t (.pointer (some ad))).run P W= .ok v W:=by
 simp[Instr.loadAt,Instr.sureAddr,loadVar,ht,go_sem,hc]
/-- One that reads a cell. -/
theorem loose_ql (t:TypeId)(x:Operand)(ad:Addr)(v:Value)(ho:o.op= .load t x)(hw:∀vals:Tmp→Value,Region.wanted o (yielded ops (fill vals env a0).tmps)=true)(hx:∀vals,(fill vals env a0).eval x= .pointer (some ad))(ht:∀W,(isAgg t).run P W= .ok false W)(hc:∀W,KeepsAll w0 W→W.cell? ad=some v)
  (hk:wpLoose P KeepsAll w0 ops a0 Q rest (addEnt o.dst (some v) [] (fun _ _ _=>True) env)):wpLoose P KeepsAll w0 ops a0 Q (o::rest) env:=
 loose_is v (fun W vals hW _=>⟨by
  rw[if_pos (hw vals)];unfold execOp;simp only[ho,hx,Sem.run_bind,run_load_one ht (hc W hW),Result.andThen_ok,Sem.run_pure];exact⟨Keeps.refl _ _,rfl⟩⟩) hk
/-- One that reads a whole row. -/
theorem loose_qw (t:TypeId)(x:Operand)(g:Nat)(cs:List Value){d:TypeDesc}(ho:o.op= .load t x)(hu:P.underlying t=some d)(hd:d.isRow=true)(hi:(P.info? t).map (·.size)=some cs.length)(hw:∀vals:Tmp→Value,Region.wanted o (yielded ops (fill vals env a0).tmps)=true)(hx:∀vals,(fill vals env a0).eval x= .pointer (some ⟨g,0,none⟩))(hc:∀W,KeepsAll w0 W→W.rangeAt g 0 cs)
  (hk:wpLoose P KeepsAll w0 ops a0 Q rest (addEnt o.dst (some (.agg cs.toArray)) [] (fun _ _ _=>True) env)):wpLoose P KeepsAll w0 ops a0 Q (o::rest) env:=
 loose_is (.agg cs.toArray) (fun W vals hW _=>opOk_load (hw vals) ho (hx vals) (hc W hW) hu hd hi (Keeps.refl _ _) rfl) hk
/-- The same, the kernel's part filled in. -/
theorem lq (v:Value)(hk:wpLoose P KeepsAll w0 ops a0 Q rest (addEnt o.dst (some v) [] (fun _ _ _=>True) env))
  (hw:∀vals:Tmp→Value,Region.wanted o (yielded ops (fill vals env a0).tmps)=true:=by intro _;kernel_rfl) (h:∀(W:World) (vals:Tmp→Value),(execOp (fill vals env a0).eval o).run P W= .ok (.value v) W:=by intro _ _;kernel_rfl):wpLoose P KeepsAll w0 ops a0 Q (o::rest) env:=loose_q v hw h hk
theorem ll (t:TypeId)(x:Operand)(ad:Addr)(v:Value)(hc:∀W,KeepsAll w0 W→W.cell? ad=some v)(hk:wpLoose P KeepsAll w0 ops a0 Q rest (addEnt o.dst (some v) [] (fun _ _ _=>True) env))(ho:o.op= .load t x:=by rfl)
  (hw:∀vals:Tmp→Value,Region.wanted o (yielded ops (fill vals env a0).tmps)=true:=by intro _;kernel_rfl) (hx:∀vals,(fill vals env a0).eval x= .pointer (some ad):=by intro _;kernel_rfl) (ht:∀W,(isAgg t).run P W= .ok false W:=by intro _;kernel_rfl):wpLoose P KeepsAll w0 ops a0 Q (o::rest) env:=loose_ql t x ad v ho hw hx ht hc hk
theorem lw (t:TypeId)(x:Operand)(g:Nat)(cs:List Value){d:TypeDesc}(hu:P.underlying t=some d)(hc:∀W,KeepsAll w0 W→W.rangeAt g 0 cs)(hk:wpLoose P KeepsAll w0 ops a0 Q rest (addEnt o.dst (some (.agg cs.toArray)) [] (fun _ _ _=>True) env))(ho:o.op= .load t x:=by rfl)(hd:d.isRow=true:=by rfl)(hi:(P.info? t).map (·.size)=some cs.length:=by kernel_rfl)
  (hw:∀vals:Tmp→Value,Region.wanted o (yielded ops (fill vals env a0).tmps)=true:=by intro _;kernel_rfl) (hx:∀vals,(fill vals env a0).eval x= .pointer (some ⟨g,0,none⟩):=by intro _;kernel_rfl):wpLoose P KeepsAll w0 ops a0 Q (o::rest) env:=loose_qw t x g cs ho hu hd hi hw hx hc hk
end

section
variable {P:Program} {Q:Exit→Act→World→Prop} {ops:Array Oper} {o:Oper} {rest:List Oper} {a:Act} {w:World}
theorem wpList_val (v:Value)(hg:o.guard=none)(h:(execOp a.eval o).run P w= .ok (.value v) w)(hk:wpList P ops Q rest (a.put o.dst v) w):wpList P ops Q (o::rest) a w:=
 wpList_plain hg fun K hK=>by unfold Oper.wp;rw[h];exact hK _ _ hk
end
theorem wpList_want {P:Program}{Q:Exit→Act→World→Prop}{ops:Array Oper}{o:Oper}{rest:List Oper}{a:Act}{w:World}(hw:Region.wanted o (yielded ops a.tmps)=true)(h:∀K:Act→World→Prop,(∀a w,wpList P ops Q rest a w→K a w)→o.wp P a w K Q):wpList P ops Q (o::rest) a w:=by
 unfold wpList;rw[if_pos hw];exact .inl (h _ (fun _ _ h=>h))
theorem wpList_callg {P:Program}{Q:Exit→Act→World→Prop}{ops:Array Oper}{o:Oper}{rest:List Oper}{a:Act}{w:World}(i:FuncId)(args:Array Value)(hw:Region.wanted o (yielded ops a.tmps)=true)(he:(execOp a.eval o).run P w= .ok (.enter i args) w)
  (hc:Calls P i args w fun e w' =>(∃v,e= .returned v∧wpList P ops Q rest (a.put o.dst v) w')∨(∃ps,e= .panicked ps∧Q (.panic ps) a w')):wpList P ops Q (o::rest) a w:=by
 refine wpList_want hw fun K hK=> ?_
 unfold Oper.wp;rw[he];refine hc.mono ?_;rintro e w' (⟨v,rfl,h⟩ | ⟨ps,rfl,h⟩)
 ·exact hK _ _ h
 ·exact h
end Go.Proofs.YtoadlafdeoklbaaDoor
