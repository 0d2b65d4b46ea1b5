/- Operations of a region that hang on a truth that is not known. The reference of packets: Same (printed by genpr1.py). -/
import Derived.Test.YtahbikfbjenfpaaGreatDoorPa15
import Derived.Test.YtahbikfbjenfpaaGreatDoorPa20

namespace Go.Proofs.YtahbikfbjenfpaaGreatDoor
open Go.RowKit

theorem wanted_true {ops:Array Oper}{tmps:Array Value}{o:Oper}{i:Nat}{acc:Bool}(hg:o.guard=some (i,true))(hy:yielded ops tmps i=some acc):Region.wanted o (yielded ops tmps)=acc:=by
 cases acc <;> simp[Region.wanted,hg,hy]
section
variable {P:Program} {w0:World} {ops:Array Oper} {a0:Act} {Q:List Ent→Prop} {o:Oper} {rest:List Oper} {env:List Ent} {acc:Bool}
/-- One that computes where acc is true. -/
theorem lg (V:Value)(hk:wpLoose P KeepsAll w0 ops a0 Q rest (addEnt o.dst (some (bif acc then V else undef)) [] (fun _ _ _=>True) env))(h:acc=true→∀(W:World) (vals:Tmp→Value),KeepsAll w0 W→(execOp (fill vals env a0).eval o).run P W= .ok (.value V) W:=by rintro rfl _ _ _;kernel_rfl)
  (hw:∀vals:Tmp→Value,Region.wanted o (yielded ops (fill vals env a0).tmps)=acc:=by intro _;exact wanted_true rfl (by kernel_rfl)):wpLoose P KeepsAll w0 ops a0 Q (o::rest) env:=
 loose_is _ (fun W vals hW _=>⟨by
  rw[hw vals]
  cases acc with
  | true=>rw[if_pos rfl,h rfl W vals hW];exact⟨Keeps.refl _ _,rfl⟩
  | false=>exact rfl⟩) hk
theorem exec_loadc {a:Act}{w:World}{t:TypeId}{x:Operand}{ad:Addr}{v:Value}(ho:o.op= .load t x)(hx:a.eval x= .pointer (some ad))(ht:∀W,(isAgg t).run P W= .ok false W)(hc:w.cell? ad=some v):(execOp a.eval o).run P w= .ok (.value v) w:=by
 unfold execOp;simp only[ho,hx,Sem.run_bind,run_load_one ht hc,Result.andThen_ok,Sem.run_pure]
theorem exec_loadX {a:Act}{w:World}{t:TypeId}{x:Operand}{b o0:Nat}{cs:List Value}{d:TypeDesc}(ho:o.op= .load t x)(hx:a.eval x= .pointer (some ⟨b,o0,none⟩))(hc:w.rangeAt b o0 cs)(hu:P.underlying t=some d)(hd:d.isRow=true)(hi:(P.info? t).map (·.size)=some cs.length):(execOp a.eval o).run P w= .ok (.value (.agg cs.toArray)) w:=by
 unfold execOp;simp only[ho,hx,Instr.loadAt,Instr.sureAddr,Sem.run_bind,Sem.run_pure,Result.andThen_ok,run_loadVar_mid w b o0 t cs d hc hu hd hi]
theorem exec_eqlX {a:Act}{w:World}{t t' :TypeId}{x y:Operand}{X Y:Array Value}{r:Bool}(ho:o.op= .binOp .eql t x y t')(hx:a.eval x= .agg X)(hy:a.eval y= .agg Y)(hm:P.eqGuardType P.depth t=false)(h:∀W,(Op.equalIn 10000 t (.agg X) (.agg Y)).run P W= .ok r W):(execOp a.eval o).run P w= .ok (.value (.bool r)) w:=by
 unfold execOp;simp only[ho,hx,hy,Sem.run_bind,Sem.run_pure,Result.andThen_ok,run_eqGuard_agg _ _ _ _ _ _ _ hm,run_eql_struct,h]
/-- A whole row, its cells hidden. -/
theorem lx {t:TypeId}{x:Operand}{g:Nat}{X:Array Value}{d:TypeDesc}(hr:∀W,KeepsAll w0 W→Row W g t X)(hu:P.underlying t=some d)(hi:(P.info? t).map (·.size)=some X.size)(hk:wpLoose P KeepsAll w0 ops a0 Q rest (addEnt o.dst (some (.agg X)) [] (fun _ _ _=>True) env))(ho:o.op= .load t x:=by rfl)(hd:d.isRow=true:=by rfl)
  (hw:∀vals:Tmp→Value,Region.wanted o (yielded ops (fill vals env a0).tmps)=true:=by intro _;kernel_rfl) (hx:∀vals,(fill vals env a0).eval x= .pointer (some ⟨g,0,none⟩):=by intro _;kernel_rfl):wpLoose P KeepsAll w0 ops a0 Q (o::rest) env:=
 loose_qw t x g X.toList ho hu hd (by rw[Array.length_toList];exact hi) hw hx (fun W hW=>range_row (hr W hW)) (by simpa using hk)
/-- A call whose answer is known, its part of the kernel filled in. -/
theorem lc (f:FuncId)(args:Array Value)(v:Value)(hc:∀W,KeepsAll w0 W→Calls P f args W fun e w' =>e= .returned v∧Keeps W w' [])(hk:wpLoose P KeepsAll w0 ops a0 Q rest (addEnt o.dst (some v) [] (fun _ _ _=>True) env))
  (hw:∀vals:Tmp→Value,Region.wanted o (yielded ops (fill vals env a0).tmps)=true:=by intro _;kernel_rfl) (he:∀(W:World) (vals:Tmp→Value),(execOp (fill vals env a0).eval o).run P W= .ok (.enter f args) W:=by intro _ _;kernel_rfl):wpLoose P KeepsAll w0 ops a0 Q (o::rest) env:=
 loose_qc f args v hw he hc hk
/-- One that reads a cell where acc is true. -/
theorem lgl {a i:Nat}{t' :TypeId}{X:Array Value}(t:TypeId)(x:Operand)(v:Value)(hr:∀W,KeepsAll w0 W→Row W a t' X)(hc:X[i]? =some v)(hk:wpLoose P KeepsAll w0 ops a0 Q rest (addEnt o.dst (some (bif acc then v else undef)) [] (fun _ _ _=>True) env))(ho:o.op= .load t x:=by rfl)
  (hx:acc=true→∀vals,(fill vals env a0).eval x= .pointer (some ⟨a,i,none⟩):=by rintro rfl _;kernel_rfl) (ht:∀W,(isAgg t).run P W= .ok false W:=by intro _;kernel_rfl) (hw:∀vals:Tmp→Value,Region.wanted o (yielded ops (fill vals env a0).tmps)=acc:=by intro _;exact wanted_true rfl (by kernel_rfl)):wpLoose P KeepsAll w0 ops a0 Q (o::rest) env:=
 lg v hk (fun hacc W vals hW=>exec_loadc ho (hx hacc vals) ht (((hr W hW).cell i).trans hc)) hw
/-- The same, of some cells. -/
theorem lgw {a i:Nat}{t' :TypeId}{X:Array Value}(t:TypeId)(x:Operand)(cs:List Value){d:TypeDesc}(hu:P.underlying t=some d)(hr:∀W,KeepsAll w0 W→Row W a t' X)(hc:∀j,j < cs.length→X[i+j]? =cs[j]?)(hk:wpLoose P KeepsAll w0 ops a0 Q rest (addEnt o.dst (some (bif acc then .agg cs.toArray else undef)) [] (fun _ _ _=>True) env))(ho:o.op= .load t x:=by rfl)(hd:d.isRow=true:=by rfl)(hi:(P.info? t).map (·.size)=some cs.length:=by kernel_rfl)
  (hx:acc=true→∀vals,(fill vals env a0).eval x= .pointer (some ⟨a,i,none⟩):=by rintro rfl _;kernel_rfl) (hw:∀vals:Tmp→Value,Region.wanted o (yielded ops (fill vals env a0).tmps)=acc:=by intro _;exact wanted_true rfl (by kernel_rfl)):wpLoose P KeepsAll w0 ops a0 Q (o::rest) env:=
 lg _ hk (fun hacc W vals hW=>exec_loadX ho (hx hacc vals) (fun j v hv=>by rw[(hr W hW).cell,hc j (List.getElem?_eq_some_iff.1 hv).1,hv]) hu hd hi) hw
end

/-- A packet's cells, one by one. -/
structure PkAt (p:Pk)(X:Array Value)(sw sc sf:Value):Prop where
 c0:X[0]? =some (.int .i64 p.k)
 c1:X[1]? =some (.bool p.dup)
 c2:X[2]? =some (.bool p.ret)
 c3:X[3]? =some (.int .i64 p.q)
 c4:X[4]? =some (.string ⟨p.t.toArray⟩)
 c5:X[5]? =some (.string ⟨p.b.toArray⟩)
 c6:X[6]? =some (.int .i64 p.id)
 c7:X[7]? =some (.string ⟨p.c.toArray⟩)
 c8:X[8]? =some (.bool p.cl)
 c9:X[9]? =some (.int .i64 p.keep)
 c10:X[10]? =some (.bool p.hw)
 c11:X[11]? =some (.string ⟨p.wt.toArray⟩)
 c12:X[12]? =some (.string ⟨p.wb.toArray⟩)
 c13:X[13]? =some (.int .i64 p.wq)
 c14:X[14]? =some (.bool p.wr)
 c15:X[15]? =some (.bool p.hu)
 c16:X[16]? =some (.bool p.hp)
 c17:X[17]? =some (.string ⟨p.u.toArray⟩)
 c18:X[18]? =some (.string ⟨p.pw.toArray⟩)
 c19:X[19]? =some (.bool p.pr)
 c20:X[20]? =some (.int .i64 p.code)
 c21:X[21]? =some sw
 c22:X[22]? =some sc
 c23:X[23]? =some sf
theorem PkAt.will {p:Pk}{X:Array Value}{sw sc sf:Value}(h:PkAt p X sw sc sf):∀j,j < 4→X[11+j]? =([.string ⟨p.wt.toArray⟩,.string ⟨p.wb.toArray⟩,.int .i64 p.wq,.bool p.wr]:List Value)[j]? :=fun j hj=>by
 obtain rfl | rfl | rfl | rfl:j=0∨j=1∨j=2∨j=3:=by omega
 ·exact h.c11
 ·exact h.c12
 ·exact h.c13
 ·exact h.c14
theorem PkAt.of (p:Pk)(sw sc sf:Value):∃X,pkV p sw sc sf= .agg X∧PkAt p X sw sc sf:=⟨_,rfl,by constructor <;> rfl⟩
theorem flatC_is {p q:Pk}(hw:p.wants=q.wants)(hc:p.codes=q.codes)(hf:p.fs=q.fs):((((((((((((((p.k==q.k) && (p.dup==q.dup)) && (p.ret==q.ret)) && (p.q==q.q)) && ((⟨p.t.toArray⟩:ByteArray).toList==(⟨q.t.toArray⟩:ByteArray).toList)) && ((⟨p.b.toArray⟩:ByteArray).toList==(⟨q.b.toArray⟩:ByteArray).toList)) && (p.id==q.id)) && ((((((⟨p.c.toArray⟩:ByteArray).toList==(⟨q.c.toArray⟩:ByteArray).toList) && (p.cl==q.cl)) && (p.keep==q.keep)) && (p.hw==q.hw)) && willB p q)) && (p.hu==q.hu)) && (p.hp==q.hp)) && ((⟨p.u.toArray⟩:ByteArray).toList==(⟨q.u.toArray⟩:ByteArray).toList)) && ((⟨p.pw.toArray⟩:ByteArray).toList==(⟨q.pw.toArray⟩:ByteArray).toList)) && (p.pr==q.pr)) && (p.code==q.code))=decide (p=q):=by
 obtain⟨k,dup,ret,q0,t,b,id,c,cl,keep,hw0,wt,wb,wq,wr,hu,hp,u,pw,pr,code,wants,codes,fs⟩:=p;obtain⟨k',dup',ret',q0',t',b',id',c',cl',keep',hw0',wt',wb',wq',wr',hu',hp',u',pw',pr',code',wants',codes',fs'⟩:=q;simp only at hw hc hf;subst hw hc hf;have hs:∀x y:List UInt8,((⟨x.toArray⟩:ByteArray).toList==(⟨y.toArray⟩:ByteArray).toList)=(x==y):=fun x y=>by
  rw[Lib.toList_data,Lib.toList_data]
 simp only[hs,willB];rw[Bool.eq_iff_iff];simp only[Bool.and_eq_true,beq_iff_eq,decide_eq_true_eq,Pk.mk.injEq,and_true]
 constructor
 ·rintro⟨⟨⟨⟨⟨⟨⟨⟨⟨⟨⟨⟨⟨h1,h2⟩,h3⟩,h4⟩,h5⟩,h6⟩,h7⟩,⟨⟨⟨⟨h8,h9⟩,h10⟩,h11⟩,h12⟩⟩,h13⟩,h14⟩,h15⟩,h16⟩,h17⟩,h18⟩
  simp_all
 ·intro h
  simp_all
set_option maxRecDepth 100000 in
set_option maxHeartbeats 8000000 in
theorem refSame_walk (p q:Pk)(X Y:Array Value)(A1 A2 A3 B1 B2 B3:Option Addr)(c1 c2 c3 d1 d2 d3:Nat)(w:World)(hX:PkAt p X (.slice A1 p.wants.length c1) (.slice A2 p.codes.length c2) (.slice A3 p.fs.length c3))(hY:PkAt q Y (.slice B1 q.wants.length d1) (.slice B2 q.codes.length d2) (.slice B3 q.fs.length d3))(h1:PkL w p (.slice A1 p.wants.length c1) (.slice A2 p.codes.length c2) (.slice A3 p.fs.length c3))(h2:PkL w q (.slice B1 q.wants.length d1) (.slice B2 q.codes.length d2) (.slice B3 q.fs.length d3))(hl:p.wants.length≤1000000∧p.codes.length≤1000000∧p.fs.length≤1000000):
  Calls Tryz.prog 16 #[.agg X,.agg Y] w (TruePost w (decide (p=q))):=by
 obtain⟨HG1,HG2,HG3⟩:(∀W,Keeps w W []→ListG W 2 wantC A1 p.wants∧ListG W 2 wantC B1 q.wants)∧(∀W,Keeps w W []→ListG W 1 intC A2 p.codes∧ListG W 1 intC B2 q.codes)∧(∀W,Keeps w W []→ListG W 1 txtV A3 p.fs∧ListG W 1 txtV B3 q.fs):=by
  obtain⟨⟨_,_,e1,g1⟩,⟨_,_,e2,g2⟩,⟨_,_,e3,g3⟩⟩:=h1;obtain⟨⟨_,_,e4,g4⟩,⟨_,_,e5,g5⟩,⟨_,_,e6,g6⟩⟩:=h2;injection e1 with e1
  injection e2 with e2
  injection e3 with e3
  injection e4 with e4
  injection e5 with e5
  injection e6 with e6
  subst e1 e2 e3 e4 e5 e6;exact⟨fun W hk=>⟨g1.keeps hk,g4.keeps hk⟩,fun W hk=>⟨g2.keeps hk,g5.keeps hk⟩,fun W hk=>⟨g3.keeps hk,g6.keeps hk⟩⟩
 obtain⟨w5,hw5⟩:∃W,(w.alloc (.cells X 29)).alloc (.cells Y 29)=W:=⟨_,rfl⟩;obtain⟨a,ha⟩:∃a,w.heap.size=a:=⟨_,rfl⟩;obtain⟨b,hb⟩:∃b,a+1=b:=⟨_,rfl⟩;have HB:=zh (show Keeps w w5 []∧Row w5 a 29 X∧Row w5 b 29 Y from by
  rw[←hw5,←hb,←ha];refine⟨(Keeps.alloc _ _).then_alloc _,(Row.new _ _ _).alloc _, ?_⟩;have:=Row.new (w.alloc (.cells X 29)) 29 Y
  rwa [World.size_alloc]at this)
 have HK:=zh (Keeps.refl w5 []);have HM:=zh hl;have XA:=zh hX;have XB:=zh hY;clear hX hY;have HQ1:=zh (HG1 w5 HB.out.1);have HQ2:=zh (HG2 w5 HB.out.1);have HQ3:=zh (HG3 w5 HB.out.1);clear HG1 HG2 HG3 h1 h2 hl;have x1:=(HB.out.2.1.cell 21).trans XA.out.c21;have x2:=(HB.out.2.1.cell 22).trans XA.out.c22;have x3:=(HB.out.2.1.cell 23).trans XA.out.c23;have y1:=(HB.out.2.2.cell 21).trans XB.out.c21;have y2:=(HB.out.2.2.cell 22).trans XB.out.c22;have y3:=(HB.out.2.2.cell 23).trans XB.out.c23
 go_enter Tryz.func16,Tryz.ntmps16
 go_upto_region 1 with fail
 try rw[hw5]
 try rw[hb]
 try rw[ha]
 clear hw5 ha hb
 by_cases hl1:(p.wants.length:Int)=(q.wants.length:Int)
 case neg=>
  have hb1:((p.wants.length:Int) !=(q.wants.length:Int))=true:=by simpa using hl1
  have HN:=zh (show decide (p=q)=false from decide_eq_false (fun h=>hl1 (by rw[h])));clear hl1
  go_wp2_with fail
  go_ret;exact⟨by rw[HN.out];rfl,HB.out.1⟩
 by_cases hl2:(p.codes.length:Int)=(q.codes.length:Int)
 case neg=>
  have hb1:((p.wants.length:Int) !=(q.wants.length:Int))=false:=by simpa using hl1
  have hb2:((p.codes.length:Int) !=(q.codes.length:Int))=true:=by simpa using hl2
  have HN:=zh (show decide (p=q)=false from decide_eq_false (fun h=>hl2 (by rw[h])));clear hl1 hl2
  go_wp2_with fail
  go_ret;exact⟨by rw[HN.out];rfl,HB.out.1⟩
 by_cases hl3:(p.fs.length:Int)=(q.fs.length:Int)
 case neg=>
  have hb1:((p.wants.length:Int) !=(q.wants.length:Int))=false:=by simpa using hl1
  have hb2:((p.codes.length:Int) !=(q.codes.length:Int))=false:=by simpa using hl2
  have hb3:((p.fs.length:Int) !=(q.fs.length:Int))=true:=by simpa using hl3
  have HN:=zh (show decide (p=q)=false from decide_eq_false (fun h=>hl3 (by rw[h])));clear hl1 hl2 hl3
  go_wp2_with fail
  go_ret;exact⟨by rw[HN.out];rfl,HB.out.1⟩
 have hb1:((p.wants.length:Int) !=(q.wants.length:Int))=false:=by simpa using hl1
 have hb2:((p.codes.length:Int) !=(q.codes.length:Int))=false:=by simpa using hl2
 have hb3:((p.fs.length:Int) !=(q.fs.length:Int))=false:=by simpa using hl3
 have HL1:=zh (show p.wants.length=q.wants.length by omega);have HL2:=zh (show p.codes.length=q.codes.length by omega);have HL3:=zh (show p.fs.length=q.fs.length by omega);have hm:=HM.out;clear hl1 hl2 hl3
 go_wp2_with fail
 clear hb1 hb2 hb3 x1 x2 x3 y1 y2 y3
 go_loopw [5] (fun i wr=>∃j:Nat,j≤(p.wants).length∧i= .int .i64 j∧Hid ((p.wants).take j=(q.wants).take j∧Keeps w5 wr [])) (fun i _=>(p.wants).length - (intOf i).toNat)
 case atStart=>exact⟨0,by omega,rfl,zh ⟨rfl,Keeps.refl _ _⟩⟩
 case round=>
  obtain⟨j,hj,rfl,HR⟩:=hrel;have HKR:=zh (HK.out.then_ HR.out.2);have xa:=((HB.out.2.1.keeps HKR.out).cell 21).trans XA.out.c21
  by_cases hjl:j < (p.wants).length
  ·have hjm:j < (q.wants).length:=by have:=HL1.out;omega
   have hjm2:(j:Int) < ((q.wants).length:Int):=by omega
   obtain⟨b1,o1,cs1,hA,hr1,hc1⟩:=HQ1.out.1 (by omega);obtain⟨b2,o2,cs2,hB,hr2,hc2⟩:=HQ1.out.2 (by omega);have MX:=fun(W' :World) (hW:Keeps wr W' [])=>((HB.out.2.1.keeps (HKR.out.then_ hW)).cell 21).trans (show _=some (Value.slice (some ⟨b1,o1,none⟩) (p.wants).length c1)by rw[←hA];exact XA.out.c21)
   have MY:=fun(W' :World) (hW:Keeps wr W' [])=>((HB.out.2.2.keeps (HKR.out.then_ hW)).cell 21).trans (show _=some (Value.slice (some ⟨b2,o2,none⟩) (q.wants).length d1)by rw[←hB];exact XB.out.c21)
   have HS:=zh (fun h=>take_same hjl hjm HR.out.1 h);have HNE:=zh (show(p.wants)[j]≠(q.wants)[j]→p≠q from fun h e=>h (by subst e;rfl));have hc1:=hc1 j hjl;have hc2:=hc2 j hjm
   generalize (p.wants)[j]=x at*
   generalize (q.wants)[j]=y at*
   obtain⟨x1,x2⟩:=x;obtain⟨y1,y2⟩:=y;have M1:=fun(W' :World) (hW:Keeps wr W' [])=>((hr1.keeps (HKR.out.then_ hW)).cell (o1+j*2+0)).trans (hc1 0 (by omega))
   have M2:=fun(W' :World) (hW:Keeps wr W' [])=>((hr2.keeps (HKR.out.then_ hW)).cell (o2+j*2+0)).trans (hc2 0 (by omega))
   have N1:=fun(W' :World) (hW:Keeps wr W' [])=>((hr1.keeps (HKR.out.then_ hW)).cell (o1+j*2+1)).trans (hc1 1 (by omega))
   have N2:=fun(W' :World) (hW:Keeps wr W' [])=>((hr2.keeps (HKR.out.then_ hW)).cell (o2+j*2+1)).trans (hc2 1 (by omega))
   simp only[wantC,zgz,zgs,Nat.add_zero]at M1 M2 N1 N2;clear hc1 hc2 hr1 hr2 hA hB
   by_cases hxy:x1=y1
   ·subst hxy
    by_cases hxy:x2=y2
    ·subst hxy
     go_wp2_with fail
     refine wp_region_keeps _ (by kernel_rfl) rfl (by kernel_rfl) ?_;refine ls ?_;simp only[addEnt];apply loose_is
     ·intro W vals hW hkn
      simp only[knows]at hkn
      try simp only[and_true]at hkn
      clear hkn;have m:=MX W hW;refine⟨?_⟩;simp only[fill];go_simp
      first | exact⟨Keeps.refl _ _,rfl⟩ | exact⟨Keeps.alloc _ _,rfl⟩
     iterate 2
      simp only[addEnt];refine ls ?_
     simp only[addEnt];apply loose_is
     ·intro W vals hW hkn
      simp only[knows]at hkn
      try simp only[and_true]at hkn
      clear hkn;have m0:=M1 W hW;have m1:=N1 W hW;refine⟨?_⟩;simp only[fill];go_simp
      first | exact⟨Keeps.refl _ _,rfl⟩ | exact⟨Keeps.alloc _ _,rfl⟩
     simp only[addEnt];refine ls ?_;simp only[addEnt];apply loose_is
     ·intro W vals hW hkn
      simp only[knows]at hkn
      try simp only[and_true]at hkn
      clear hkn;have m:=MY W hW;refine⟨?_⟩;simp only[fill];go_simp
      first | exact⟨Keeps.refl _ _,rfl⟩ | exact⟨Keeps.alloc _ _,rfl⟩
     iterate 2
      simp only[addEnt];refine ls ?_
     simp only[addEnt];apply loose_is
     ·intro W vals hW hkn
      simp only[knows]at hkn
      try simp only[and_true]at hkn
      clear hkn;have m0:=M2 W hW;have m1:=N2 W hW;refine⟨?_⟩;simp only[fill];go_simp
      first | exact⟨Keeps.refl _ _,rfl⟩ | exact⟨Keeps.alloc _ _,rfl⟩
     simp only[addEnt];refine ls ?_;simp only[addEnt];refine loose_nil (fun W vals hW hkn=> ?_);simp only[knowsAll]at hkn
     try simp only[and_true]at hkn
     simp only[fill,Act.put,zsa,zsc,zsz];clear hkn M1 M2 N1 N2 MX MY xa;have HKS:=zh (HR.out.2.then_ hW);clear hW
     go_wp2_with fail
     exact⟨⟨j+1,by omega,by go_num,zh ⟨HS.out (by first | rfl | trivial),HKS.out⟩⟩,by simp[intOf];omega⟩
    ·skip
     have HD:=zh (show decide (p=q)=false from decide_eq_false (HNE.out (fun e=>hxy (by injection e))))
     go_wp2_with fail
     refine wp_region_keeps _ (by kernel_rfl) rfl (by kernel_rfl) ?_;refine ls ?_;simp only[addEnt];apply loose_is
     ·intro W vals hW hkn
      simp only[knows]at hkn
      try simp only[and_true]at hkn
      clear hkn;have m:=MX W hW;refine⟨?_⟩;simp only[fill];go_simp
      first | exact⟨Keeps.refl _ _,rfl⟩ | exact⟨Keeps.alloc _ _,rfl⟩
     iterate 2
      simp only[addEnt];refine ls ?_
     simp only[addEnt];apply loose_is
     ·intro W vals hW hkn
      simp only[knows]at hkn
      try simp only[and_true]at hkn
      clear hkn;have m0:=M1 W hW;have m1:=N1 W hW;refine⟨?_⟩;simp only[fill];go_simp
      first | exact⟨Keeps.refl _ _,rfl⟩ | exact⟨Keeps.alloc _ _,rfl⟩
     simp only[addEnt];refine ls ?_;simp only[addEnt];apply loose_is
     ·intro W vals hW hkn
      simp only[knows]at hkn
      try simp only[and_true]at hkn
      clear hkn;have m:=MY W hW;refine⟨?_⟩;simp only[fill];go_simp
      first | exact⟨Keeps.refl _ _,rfl⟩ | exact⟨Keeps.alloc _ _,rfl⟩
     iterate 2
      simp only[addEnt];refine ls ?_
     simp only[addEnt];apply loose_is
     ·intro W vals hW hkn
      simp only[knows]at hkn
      try simp only[and_true]at hkn
      clear hkn;have m0:=M2 W hW;have m1:=N2 W hW;refine⟨?_⟩;simp only[fill];go_simp
      first | exact⟨Keeps.refl _ _,rfl⟩ | exact⟨Keeps.alloc _ _,rfl⟩
     simp only[addEnt];refine ls ?_;simp only[addEnt];refine loose_nil (fun W vals hW hkn=> ?_);simp only[knowsAll]at hkn
     try simp only[and_true]at hkn
     simp only[fill,Act.put,zsa,zsc,zsz];clear hkn M1 M2 N1 N2 MX MY xa;have HKS:=zh (HR.out.2.then_ hW);clear hW
     go_wp2_with fail
     go_ret;exact⟨by rw[HD.out];rfl,HB.out.1.then_ (HK.out.then_ HKS.out)⟩
   ·skip
    have HD:=zh (show decide (p=q)=false from decide_eq_false (HNE.out (fun e=>hxy (by injection e))))
    go_wp2_with fail
    refine wp_region_keeps _ (by kernel_rfl) rfl (by kernel_rfl) ?_;refine ls ?_;simp only[addEnt];apply loose_is
    ·intro W vals hW hkn
     simp only[knows]at hkn
     try simp only[and_true]at hkn
     clear hkn;have m:=MX W hW;refine⟨?_⟩;simp only[fill];go_simp
     first | exact⟨Keeps.refl _ _,rfl⟩ | exact⟨Keeps.alloc _ _,rfl⟩
    iterate 2
     simp only[addEnt];refine ls ?_
    simp only[addEnt];apply loose_is
    ·intro W vals hW hkn
     simp only[knows]at hkn
     try simp only[and_true]at hkn
     clear hkn;have m0:=M1 W hW;have m1:=N1 W hW;refine⟨?_⟩;simp only[fill];go_simp
     first | exact⟨Keeps.refl _ _,rfl⟩ | exact⟨Keeps.alloc _ _,rfl⟩
    simp only[addEnt];refine ls ?_;simp only[addEnt];apply loose_is
    ·intro W vals hW hkn
     simp only[knows]at hkn
     try simp only[and_true]at hkn
     clear hkn;have m:=MY W hW;refine⟨?_⟩;simp only[fill];go_simp
     first | exact⟨Keeps.refl _ _,rfl⟩ | exact⟨Keeps.alloc _ _,rfl⟩
    iterate 2
     simp only[addEnt];refine ls ?_
    simp only[addEnt];apply loose_is
    ·intro W vals hW hkn
     simp only[knows]at hkn
     try simp only[and_true]at hkn
     clear hkn;have m0:=M2 W hW;have m1:=N2 W hW;refine⟨?_⟩;simp only[fill];go_simp
     first | exact⟨Keeps.refl _ _,rfl⟩ | exact⟨Keeps.alloc _ _,rfl⟩
    simp only[addEnt];refine ls ?_;simp only[addEnt];refine loose_nil (fun W vals hW hkn=> ?_);simp only[knowsAll]at hkn
    try simp only[and_true]at hkn
    simp only[fill,Act.put,zsa,zsc,zsz];clear hkn M1 M2 N1 N2 MX MY xa;have HKS:=zh (HR.out.2.then_ hW);clear hW
    go_wp2_with fail
    go_ret;exact⟨by rw[HD.out];rfl,HB.out.1.then_ (HK.out.then_ HKS.out)⟩
  ·obtain rfl:j=(p.wants).length:=by omega
   have HE5:=zh (show(p.wants)=(q.wants)from by
    have:=HR.out.1;rw[List.take_length,HL1.out,List.take_length]at this;exact this)
   replace HK:=zh HKR.out;obtain⟨w6,hws⟩:∃w6,wr=w6:=⟨_,rfl⟩;rw[hws]at HK xa ⊢
   clear HR HKR hjl hj hws
   go_wp2_with fail
   clear xa
   go_loopw [6] (fun i wr=>∃j:Nat,j≤(p.codes).length∧i= .int .i64 j∧Hid ((p.codes).take j=(q.codes).take j∧Keeps w6 wr [])) (fun i _=>(p.codes).length - (intOf i).toNat)
   case atStart=>exact⟨0,by omega,rfl,zh ⟨rfl,Keeps.refl _ _⟩⟩
   case round=>
    obtain⟨j,hj,rfl,HR⟩:=hrel;have HKR:=zh (HK.out.then_ HR.out.2);have xa:=((HB.out.2.1.keeps HKR.out).cell 22).trans XA.out.c22
    by_cases hjl:j < (p.codes).length
    ·have hjm:j < (q.codes).length:=by have:=HL2.out;omega
     have hjm2:(j:Int) < ((q.codes).length:Int):=by omega
     obtain⟨b1,o1,cs1,hA,hr1,hc1⟩:=HQ2.out.1 (by omega);obtain⟨b2,o2,cs2,hB,hr2,hc2⟩:=HQ2.out.2 (by omega);have MX:=fun(W' :World) (hW:Keeps wr W' [])=>((HB.out.2.1.keeps (HKR.out.then_ hW)).cell 22).trans (show _=some (Value.slice (some ⟨b1,o1,none⟩) (p.codes).length c2)by rw[←hA];exact XA.out.c22)
     have MY:=fun(W' :World) (hW:Keeps wr W' [])=>((HB.out.2.2.keeps (HKR.out.then_ hW)).cell 22).trans (show _=some (Value.slice (some ⟨b2,o2,none⟩) (q.codes).length d2)by rw[←hB];exact XB.out.c22)
     have HS:=zh (fun h=>take_same hjl hjm HR.out.1 h);have HNE:=zh (show(p.codes)[j]≠(q.codes)[j]→p≠q from fun h e=>h (by subst e;rfl));have hc1:=hc1 j hjl;have hc2:=hc2 j hjm
     generalize (p.codes)[j]=x at*
     generalize (q.codes)[j]=y at*
     have M1:=fun(W' :World) (hW:Keeps wr W' [])=>((hr1.keeps (HKR.out.then_ hW)).cell (o1+j*1+0)).trans (hc1 0 (by omega))
     have M2:=fun(W' :World) (hW:Keeps wr W' [])=>((hr2.keeps (HKR.out.then_ hW)).cell (o2+j*1+0)).trans (hc2 0 (by omega))
     simp only[intC,zgz,Nat.mul_one,Nat.add_zero]at M1 M2;clear hc1 hc2 hr1 hr2 hA hB
     by_cases hxy:x=y
     ·subst hxy
      go_wp2_with fail
      refine wp_region_keeps _ (by kernel_rfl) rfl (by kernel_rfl) ?_;refine ls ?_;simp only[addEnt];apply loose_is
      ·intro W vals hW hkn
       simp only[knows]at hkn
       try simp only[and_true]at hkn
       clear hkn;have m:=MX W hW;refine⟨?_⟩;simp only[fill];go_simp
       first | exact⟨Keeps.refl _ _,rfl⟩ | exact⟨Keeps.alloc _ _,rfl⟩
      iterate 2
       simp only[addEnt];refine ls ?_
      simp only[addEnt];apply loose_is
      ·intro W vals hW hkn
       simp only[knows]at hkn
       try simp only[and_true]at hkn
       clear hkn;have m0:=M1 W hW;refine⟨?_⟩;simp only[fill];go_simp
       first | exact⟨Keeps.refl _ _,rfl⟩ | exact⟨Keeps.alloc _ _,rfl⟩
      simp only[addEnt];refine ls ?_;simp only[addEnt];apply loose_is
      ·intro W vals hW hkn
       simp only[knows]at hkn
       try simp only[and_true]at hkn
       clear hkn;have m:=MY W hW;refine⟨?_⟩;simp only[fill];go_simp
       first | exact⟨Keeps.refl _ _,rfl⟩ | exact⟨Keeps.alloc _ _,rfl⟩
      iterate 2
       simp only[addEnt];refine ls ?_
      simp only[addEnt];apply loose_is
      ·intro W vals hW hkn
       simp only[knows]at hkn
       try simp only[and_true]at hkn
       clear hkn;have m0:=M2 W hW;refine⟨?_⟩;simp only[fill];go_simp
       first | exact⟨Keeps.refl _ _,rfl⟩ | exact⟨Keeps.alloc _ _,rfl⟩
      simp only[addEnt];refine ls ?_;simp only[addEnt];refine loose_nil (fun W vals hW hkn=> ?_);simp only[knowsAll]at hkn
      try simp only[and_true]at hkn
      simp only[fill,Act.put,zsa,zsc,zsz];clear hkn M1 M2 MX MY xa;have HKS:=zh (HR.out.2.then_ hW);clear hW
      go_wp2_with fail
      exact⟨⟨j+1,by omega,by go_num,zh ⟨HS.out (by first | rfl | trivial),HKS.out⟩⟩,by simp[intOf];omega⟩
     ·have hq:(x !=y)=true:=by simpa using hxy
      have hq2:(x==y)=false:=by simpa using hxy
      have HD:=zh (show decide (p=q)=false from decide_eq_false (HNE.out hxy))
      go_wp2_with fail
      refine wp_region_keeps _ (by kernel_rfl) rfl (by kernel_rfl) ?_;refine ls ?_;simp only[addEnt];apply loose_is
      ·intro W vals hW hkn
       simp only[knows]at hkn
       try simp only[and_true]at hkn
       clear hkn;have m:=MX W hW;refine⟨?_⟩;simp only[fill];go_simp
       first | exact⟨Keeps.refl _ _,rfl⟩ | exact⟨Keeps.alloc _ _,rfl⟩
      iterate 2
       simp only[addEnt];refine ls ?_
      simp only[addEnt];apply loose_is
      ·intro W vals hW hkn
       simp only[knows]at hkn
       try simp only[and_true]at hkn
       clear hkn;have m0:=M1 W hW;refine⟨?_⟩;simp only[fill];go_simp
       first | exact⟨Keeps.refl _ _,rfl⟩ | exact⟨Keeps.alloc _ _,rfl⟩
      simp only[addEnt];refine ls ?_;simp only[addEnt];apply loose_is
      ·intro W vals hW hkn
       simp only[knows]at hkn
       try simp only[and_true]at hkn
       clear hkn;have m:=MY W hW;refine⟨?_⟩;simp only[fill];go_simp
       first | exact⟨Keeps.refl _ _,rfl⟩ | exact⟨Keeps.alloc _ _,rfl⟩
      iterate 2
       simp only[addEnt];refine ls ?_
      simp only[addEnt];apply loose_is
      ·intro W vals hW hkn
       simp only[knows]at hkn
       try simp only[and_true]at hkn
       clear hkn;have m0:=M2 W hW;refine⟨?_⟩;simp only[fill];go_simp
       first | exact⟨Keeps.refl _ _,rfl⟩ | exact⟨Keeps.alloc _ _,rfl⟩
      simp only[addEnt];refine ls ?_;simp only[addEnt];refine loose_nil (fun W vals hW hkn=> ?_);simp only[knowsAll]at hkn
      try simp only[and_true]at hkn
      simp only[fill,Act.put,zsa,zsc,zsz];clear hkn M1 M2 MX MY xa;have HKS:=zh (HR.out.2.then_ hW);clear hW
      go_wp2_with fail
      go_ret;exact⟨by rw[HD.out];rfl,HB.out.1.then_ (HK.out.then_ HKS.out)⟩
    ·obtain rfl:j=(p.codes).length:=by omega
     have HE6:=zh (show(p.codes)=(q.codes)from by
      have:=HR.out.1;rw[List.take_length,HL2.out,List.take_length]at this;exact this)
     replace HK:=zh HKR.out;obtain⟨w7,hws⟩:∃w7,wr=w7:=⟨_,rfl⟩;rw[hws]at HK xa ⊢
     clear HR HKR hjl hj hws
     go_wp2_with fail
     clear xa
     go_loopw [7] (fun i wr=>∃j:Nat,j≤(p.fs).length∧i= .int .i64 j∧Hid ((p.fs).take j=(q.fs).take j∧Keeps w7 wr [])) (fun i _=>(p.fs).length - (intOf i).toNat)
     case atStart=>exact⟨0,by omega,rfl,zh ⟨rfl,Keeps.refl _ _⟩⟩
     case round=>
      obtain⟨j,hj,rfl,HR⟩:=hrel;have HKR:=zh (HK.out.then_ HR.out.2);have xa:=((HB.out.2.1.keeps HKR.out).cell 23).trans XA.out.c23
      by_cases hjl:j < (p.fs).length
      ·have hjm:j < (q.fs).length:=by have:=HL3.out;omega
       have hjm2:(j:Int) < ((q.fs).length:Int):=by omega
       obtain⟨b1,o1,cs1,hA,hr1,hc1⟩:=HQ3.out.1 (by omega);obtain⟨b2,o2,cs2,hB,hr2,hc2⟩:=HQ3.out.2 (by omega);have MX:=fun(W' :World) (hW:Keeps wr W' [])=>((HB.out.2.1.keeps (HKR.out.then_ hW)).cell 23).trans (show _=some (Value.slice (some ⟨b1,o1,none⟩) (p.fs).length c3)by rw[←hA];exact XA.out.c23)
       have MY:=fun(W' :World) (hW:Keeps wr W' [])=>((HB.out.2.2.keeps (HKR.out.then_ hW)).cell 23).trans (show _=some (Value.slice (some ⟨b2,o2,none⟩) (q.fs).length d3)by rw[←hB];exact XB.out.c23)
       have HS:=zh (fun h=>take_same hjl hjm HR.out.1 h);have HNE:=zh (show(p.fs)[j]≠(q.fs)[j]→p≠q from fun h e=>h (by subst e;rfl));have hc1:=hc1 j hjl;have hc2:=hc2 j hjm
       generalize (p.fs)[j]=x at*
       generalize (q.fs)[j]=y at*
       have M1:=fun(W' :World) (hW:Keeps wr W' [])=>((hr1.keeps (HKR.out.then_ hW)).cell (o1+j*1+0)).trans (hc1 0 (by omega))
       have M2:=fun(W' :World) (hW:Keeps wr W' [])=>((hr2.keeps (HKR.out.then_ hW)).cell (o2+j*1+0)).trans (hc2 0 (by omega))
       simp only[txtV,zgz,Nat.mul_one,Nat.add_zero]at M1 M2;clear hc1 hc2 hr1 hr2 hA hB
       by_cases hxy:x=y
       ·subst hxy
        go_wp2_with fail
        refine wp_region_keeps _ (by kernel_rfl) rfl (by kernel_rfl) ?_;refine ls ?_;simp only[addEnt];apply loose_is
        ·intro W vals hW hkn
         simp only[knows]at hkn
         try simp only[and_true]at hkn
         clear hkn;have m:=MX W hW;refine⟨?_⟩;simp only[fill];go_simp
         first | exact⟨Keeps.refl _ _,rfl⟩ | exact⟨Keeps.alloc _ _,rfl⟩
        iterate 2
         simp only[addEnt];refine ls ?_
        simp only[addEnt];apply loose_is
        ·intro W vals hW hkn
         simp only[knows]at hkn
         try simp only[and_true]at hkn
         clear hkn;have m0:=M1 W hW;refine⟨?_⟩;simp only[fill];go_simp
         first | exact⟨Keeps.refl _ _,rfl⟩ | exact⟨Keeps.alloc _ _,rfl⟩
        simp only[addEnt];refine ls ?_;simp only[addEnt];apply loose_is
        ·intro W vals hW hkn
         simp only[knows]at hkn
         try simp only[and_true]at hkn
         clear hkn;have m:=MY W hW;refine⟨?_⟩;simp only[fill];go_simp
         first | exact⟨Keeps.refl _ _,rfl⟩ | exact⟨Keeps.alloc _ _,rfl⟩
        iterate 2
         simp only[addEnt];refine ls ?_
        simp only[addEnt];apply loose_is
        ·intro W vals hW hkn
         simp only[knows]at hkn
         try simp only[and_true]at hkn
         clear hkn;have m0:=M2 W hW;refine⟨?_⟩;simp only[fill];go_simp
         first | exact⟨Keeps.refl _ _,rfl⟩ | exact⟨Keeps.alloc _ _,rfl⟩
        simp only[addEnt];refine ls ?_;simp only[addEnt];refine loose_nil (fun W vals hW hkn=> ?_);simp only[knowsAll]at hkn
        try simp only[and_true]at hkn
        simp only[fill,Act.put,zsa,zsc,zsz];clear hkn M1 M2 MX MY xa;have HKS:=zh (HR.out.2.then_ hW);clear hW
        go_wp2_with fail
        exact⟨⟨j+1,by omega,by go_num,zh ⟨HS.out (by first | rfl | trivial),HKS.out⟩⟩,by simp[intOf];omega⟩
       ·have hq:(x !=y)=true:=by simpa using hxy
        have hq2:(x==y)=false:=by simpa using hxy
        have HD:=zh (show decide (p=q)=false from decide_eq_false (HNE.out hxy))
        go_wp2_with fail
        refine wp_region_keeps _ (by kernel_rfl) rfl (by kernel_rfl) ?_;refine ls ?_;simp only[addEnt];apply loose_is
        ·intro W vals hW hkn
         simp only[knows]at hkn
         try simp only[and_true]at hkn
         clear hkn;have m:=MX W hW;refine⟨?_⟩;simp only[fill];go_simp
         first | exact⟨Keeps.refl _ _,rfl⟩ | exact⟨Keeps.alloc _ _,rfl⟩
        iterate 2
         simp only[addEnt];refine ls ?_
        simp only[addEnt];apply loose_is
        ·intro W vals hW hkn
         simp only[knows]at hkn
         try simp only[and_true]at hkn
         clear hkn;have m0:=M1 W hW;refine⟨?_⟩;simp only[fill];go_simp
         first | exact⟨Keeps.refl _ _,rfl⟩ | exact⟨Keeps.alloc _ _,rfl⟩
        simp only[addEnt];refine ls ?_;simp only[addEnt];apply loose_is
        ·intro W vals hW hkn
         simp only[knows]at hkn
         try simp only[and_true]at hkn
         clear hkn;have m:=MY W hW;refine⟨?_⟩;simp only[fill];go_simp
         first | exact⟨Keeps.refl _ _,rfl⟩ | exact⟨Keeps.alloc _ _,rfl⟩
        iterate 2
         simp only[addEnt];refine ls ?_
        simp only[addEnt];apply loose_is
        ·intro W vals hW hkn
         simp only[knows]at hkn
         try simp only[and_true]at hkn
         clear hkn;have m0:=M2 W hW;refine⟨?_⟩;simp only[fill];go_simp
         first | exact⟨Keeps.refl _ _,rfl⟩ | exact⟨Keeps.alloc _ _,rfl⟩
        simp only[addEnt];refine ls ?_;simp only[addEnt];refine loose_nil (fun W vals hW hkn=> ?_);simp only[knowsAll]at hkn
        try simp only[and_true]at hkn
        simp only[fill,Act.put,zsa,zsc,zsz];clear hkn M1 M2 MX MY xa;have HKS:=zh (HR.out.2.then_ hW);clear hW
        go_wp2_with fail
        go_ret;exact⟨by rw[HD.out];rfl,HB.out.1.then_ (HK.out.then_ HKS.out)⟩
      ·obtain rfl:j=(p.fs).length:=by omega
       have HE7:=zh (show(p.fs)=(q.fs)from by
        have:=HR.out.1;rw[List.take_length,HL3.out,List.take_length]at this;exact this)
       replace HK:=zh HKR.out;obtain⟨w8,hws⟩:∃w8,wr=w8:=⟨_,rfl⟩;rw[hws]at HK xa ⊢
       clear HR HKR hjl hj hws
       go_upto_region 18 with fail
       clear xa hm;have RA:=zh (fun W hW=>HB.out.2.1.keeps (HK.out.then_ (w'' :=W) hW));have RB:=zh (fun W hW=>HB.out.2.2.keeps (HK.out.then_ (w'' :=W) hW));refine wp_region_line KeepsAll _ 47 rfl (by kernel_rfl) (by kernel_rfl) (fun _=>Keeps.refl _ _) (fun _ _ _ h k=>h.trans k (by simp)) ?_;simp only[zts,ztz,zds,zdz];refine lq (.pointer (some ⟨a,0,none⟩)) ?_;refine ll 22 (.tmp 89) ⟨a,0,none⟩ (.int .i64 p.k) (fun W hW=>((RA.out W hW).cell 0).trans XA.out.c0) ?_;refine lq (.pointer (some ⟨b,0,none⟩)) ?_;refine ll 22 (.tmp 91) ⟨b,0,none⟩ (.int .i64 q.k) (fun W hW=>((RB.out W hW).cell 0).trans XB.out.c0) ?_;refine lq (.bool (p.k==q.k)) ?_;obtain⟨z1,hz1⟩:∃z,((p.k==q.k))=z:=⟨_,rfl⟩;rw[hz1];have Z1:=zh hz1;clear hz1;refine lq (.bool z1) ?_;refine lg (acc:=z1) (.pointer (some ⟨a,1,none⟩)) ?_;refine lgl (acc:=z1) 4 (.tmp 95) (.bool p.dup) RA.out XA.out.c1 ?_;refine lg (acc:=z1) (.pointer (some ⟨b,1,none⟩)) ?_;refine lgl (acc:=z1) 4 (.tmp 97) (.bool q.dup) RB.out XB.out.c1 ?_;refine lg (acc:=z1) (.bool (p.dup==q.dup)) ?_;refine lq (.bool (z1 && (p.dup==q.dup))) ?_ (h:=by intro _ _;cases z1 <;> kernel_rfl);obtain⟨z2,hz2⟩:∃z,(z1 && (p.dup==q.dup))=z:=⟨_,rfl⟩;rw[hz2];have Z2:=zh hz2;clear hz2;refine lq (.bool z2) ?_;refine lg (acc:=z2) (.pointer (some ⟨a,2,none⟩)) ?_;refine lgl (acc:=z2) 4 (.tmp 102) (.bool p.ret) RA.out XA.out.c2 ?_;refine lg (acc:=z2) (.pointer (some ⟨b,2,none⟩)) ?_;refine lgl (acc:=z2) 4 (.tmp 104) (.bool q.ret) RB.out XB.out.c2 ?_;refine lg (acc:=z2) (.bool (p.ret==q.ret)) ?_;refine lq (.bool (z2 && (p.ret==q.ret))) ?_ (h:=by intro _ _;cases z2 <;> kernel_rfl);obtain⟨z3,hz3⟩:∃z,(z2 && (p.ret==q.ret))=z:=⟨_,rfl⟩;rw[hz3];have Z3:=zh hz3;clear hz3;refine lq (.bool z3) ?_;refine lg (acc:=z3) (.pointer (some ⟨a,3,none⟩)) ?_;refine lgl (acc:=z3) 3 (.tmp 109) (.int .i64 p.q) RA.out XA.out.c3 ?_;refine lg (acc:=z3) (.pointer (some ⟨b,3,none⟩)) ?_;refine lgl (acc:=z3) 3 (.tmp 111) (.int .i64 q.q) RB.out XB.out.c3 ?_;refine lg (acc:=z3) (.bool (p.q==q.q)) ?_;refine lq (.bool (z3 && (p.q==q.q))) ?_ (h:=by intro _ _;cases z3 <;> kernel_rfl);obtain⟨z4,hz4⟩:∃z,(z3 && (p.q==q.q))=z:=⟨_,rfl⟩;rw[hz4];have Z4:=zh hz4;clear hz4;refine lq (.bool z4) ?_;refine lg (acc:=z4) (.pointer (some ⟨a,4,none⟩)) ?_;refine lgl (acc:=z4) 9 (.tmp 116) (.string ⟨p.t.toArray⟩) RA.out XA.out.c4 ?_;refine lg (acc:=z4) (.pointer (some ⟨b,4,none⟩)) ?_;refine lgl (acc:=z4) 9 (.tmp 118) (.string ⟨q.t.toArray⟩) RB.out XB.out.c4 ?_;refine lg (acc:=z4) (.bool ((⟨p.t.toArray⟩:ByteArray).toList==(⟨q.t.toArray⟩:ByteArray).toList)) ?_;refine lq (.bool (z4 && ((⟨p.t.toArray⟩:ByteArray).toList==(⟨q.t.toArray⟩:ByteArray).toList))) ?_ (h:=by intro _ _;cases z4 <;> kernel_rfl);obtain⟨z5,hz5⟩:∃z,(z4 && ((⟨p.t.toArray⟩:ByteArray).toList==(⟨q.t.toArray⟩:ByteArray).toList))=z:=⟨_,rfl⟩;rw[hz5];have Z5:=zh hz5;clear hz5;refine lq (.bool z5) ?_;refine lg (acc:=z5) (.pointer (some ⟨a,5,none⟩)) ?_;refine lgl (acc:=z5) 9 (.tmp 123) (.string ⟨p.b.toArray⟩) RA.out XA.out.c5 ?_;refine lg (acc:=z5) (.pointer (some ⟨b,5,none⟩)) ?_
       refine lgl (acc:=z5) 9 (.tmp 125) (.string ⟨q.b.toArray⟩) RB.out XB.out.c5 ?_;refine lg (acc:=z5) (.bool ((⟨p.b.toArray⟩:ByteArray).toList==(⟨q.b.toArray⟩:ByteArray).toList)) ?_;refine lq (.bool (z5 && ((⟨p.b.toArray⟩:ByteArray).toList==(⟨q.b.toArray⟩:ByteArray).toList))) ?_ (h:=by intro _ _;cases z5 <;> kernel_rfl);obtain⟨z6,hz6⟩:∃z,(z5 && ((⟨p.b.toArray⟩:ByteArray).toList==(⟨q.b.toArray⟩:ByteArray).toList))=z:=⟨_,rfl⟩;rw[hz6];have Z6:=zh hz6;clear hz6;refine lq (.bool z6) ?_;refine lg (acc:=z6) (.pointer (some ⟨a,6,none⟩)) ?_;refine lgl (acc:=z6) 2 (.tmp 130) (.int .i64 p.id) RA.out XA.out.c6 ?_;refine lg (acc:=z6) (.pointer (some ⟨b,6,none⟩)) ?_;refine lgl (acc:=z6) 2 (.tmp 132) (.int .i64 q.id) RB.out XB.out.c6 ?_;refine lg (acc:=z6) (.bool (p.id==q.id)) ?_;refine lq (.bool (z6 && (p.id==q.id))) ?_ (h:=by intro _ _;cases z6 <;> kernel_rfl);obtain⟨z7,hz7⟩:∃z,(z6 && (p.id==q.id))=z:=⟨_,rfl⟩;rw[hz7];have Z7:=zh hz7;clear hz7;refine loose_nil (fun W vals hW hkn=> ?_);simp only[addEnt,knowsAll]at hkn
       try simp only[and_true]at hkn
       simp only[addEnt,fill,Act.put,zsa,zsc,zsz];clear hkn;replace HK:=zh (HK.out.then_ hW);clear RA RB;clear hW
       go_upto_region 19 with fail
       have RA:=zh (fun W hW=>HB.out.2.1.keeps (HK.out.then_ (w'' :=W) hW));have RB:=zh (fun W hW=>HB.out.2.2.keeps (HK.out.then_ (w'' :=W) hW));refine wp_region_line KeepsAll _ 33 rfl (by kernel_rfl) (by kernel_rfl) (fun _=>Keeps.refl _ _) (fun _ _ _ h k=>h.trans k (by simp)) ?_;simp only[zts,ztz,zds,zdz];refine lq (.pointer (some ⟨a,7,none⟩)) ?_;refine ll 9 (.tmp 136) ⟨a,7,none⟩ (.string ⟨p.c.toArray⟩) (fun W hW=>((RA.out W hW).cell 7).trans XA.out.c7) ?_;refine lq (.pointer (some ⟨b,7,none⟩)) ?_;refine ll 9 (.tmp 138) ⟨b,7,none⟩ (.string ⟨q.c.toArray⟩) (fun W hW=>((RB.out W hW).cell 7).trans XB.out.c7) ?_;refine lq (.bool ((⟨p.c.toArray⟩:ByteArray).toList==(⟨q.c.toArray⟩:ByteArray).toList)) ?_;obtain⟨z8,hz8⟩:∃z,(((⟨p.c.toArray⟩:ByteArray).toList==(⟨q.c.toArray⟩:ByteArray).toList))=z:=⟨_,rfl⟩;rw[hz8];have Z8:=zh hz8;clear hz8;refine lq (.bool z8) ?_;refine lg (acc:=z8) (.pointer (some ⟨a,8,none⟩)) ?_;refine lgl (acc:=z8) 4 (.tmp 142) (.bool p.cl) RA.out XA.out.c8 ?_;refine lg (acc:=z8) (.pointer (some ⟨b,8,none⟩)) ?_;refine lgl (acc:=z8) 4 (.tmp 144) (.bool q.cl) RB.out XB.out.c8 ?_;refine lg (acc:=z8) (.bool (p.cl==q.cl)) ?_;refine lq (.bool (z8 && (p.cl==q.cl))) ?_ (h:=by intro _ _;cases z8 <;> kernel_rfl);obtain⟨z9,hz9⟩:∃z,(z8 && (p.cl==q.cl))=z:=⟨_,rfl⟩;rw[hz9];have Z9:=zh hz9;clear hz9;refine lq (.bool z9) ?_;refine lg (acc:=z9) (.pointer (some ⟨a,9,none⟩)) ?_;refine lgl (acc:=z9) 2 (.tmp 149) (.int .i64 p.keep) RA.out XA.out.c9 ?_;refine lg (acc:=z9) (.pointer (some ⟨b,9,none⟩)) ?_;refine lgl (acc:=z9) 2 (.tmp 151) (.int .i64 q.keep) RB.out XB.out.c9 ?_;refine lg (acc:=z9) (.bool (p.keep==q.keep)) ?_;refine lq (.bool (z9 && (p.keep==q.keep))) ?_ (h:=by intro _ _;cases z9 <;> kernel_rfl);obtain⟨z10,hz10⟩:∃z,(z9 && (p.keep==q.keep))=z:=⟨_,rfl⟩;rw[hz10];have Z10:=zh hz10;clear hz10;refine lq (.bool z10) ?_;refine lg (acc:=z10) (.pointer (some ⟨a,10,none⟩)) ?_;refine lgl (acc:=z10) 4 (.tmp 156) (.bool p.hw) RA.out XA.out.c10 ?_;refine lg (acc:=z10) (.pointer (some ⟨b,10,none⟩)) ?_;refine lgl (acc:=z10) 4 (.tmp 158) (.bool q.hw) RB.out XB.out.c10 ?_;refine lg (acc:=z10) (.bool (p.hw==q.hw)) ?_;refine lq (.bool (z10 && (p.hw==q.hw))) ?_ (h:=by intro _ _;cases z10 <;> kernel_rfl);obtain⟨z11,hz11⟩:∃z,(z10 && (p.hw==q.hw))=z:=⟨_,rfl⟩;rw[hz11];have Z11:=zh hz11;clear hz11;refine lq (.bool z11) ?_;refine lg (acc:=z11) (.pointer (some ⟨a,11,none⟩)) ?_;refine lgw (acc:=z11) 24 (.tmp 163) [.string ⟨p.wt.toArray⟩,.string ⟨p.wb.toArray⟩,.int .i64 p.wq,.bool p.wr] Tryz.underlying24 RA.out XA.out.will ?_;refine lg (acc:=z11) (.pointer (some ⟨b,11,none⟩)) ?_;refine lgw (acc:=z11) 24 (.tmp 165) [.string ⟨q.wt.toArray⟩,.string ⟨q.wb.toArray⟩,.int .i64 q.wq,.bool q.wr] Tryz.underlying24 RB.out XB.out.will ?_;refine lg (acc:=z11) (.bool (willB p q)) ?_ (fun h W vals hW=>exec_eqlX rfl (by subst h;kernel_rfl) (by subst h;kernel_rfl) (by kernel_rfl) (fun W=>will_eq 9998 p q W));refine lq (.bool (z11 && willB p q)) ?_ (h:=by intro _ _;cases z11 <;> kernel_rfl);obtain⟨z12,hz12⟩:∃z,(z11 && willB p q)=z:=⟨_,rfl⟩
       rw[hz12];have Z12:=zh hz12;clear hz12;refine loose_nil (fun W vals hW hkn=> ?_);simp only[addEnt,knowsAll]at hkn
       try simp only[and_true]at hkn
       simp only[addEnt,fill,Act.put,zsa,zsc,zsz];clear hkn;replace HK:=zh (HK.out.then_ hW);clear RA RB;clear hW
       go_upto_region 20 with fail
       have RA:=zh (fun W hW=>HB.out.2.1.keeps (HK.out.then_ (w'' :=W) hW));have RB:=zh (fun W hW=>HB.out.2.2.keeps (HK.out.then_ (w'' :=W) hW));refine wp_region_line KeepsAll _ 46 rfl (by kernel_rfl) (by kernel_rfl) (fun _=>Keeps.refl _ _) (fun _ _ _ h k=>h.trans k (by simp)) ?_;simp only[zts,ztz,zds,zdz]
       iterate 2
        refine lq (.bool z7) ?_
       refine lg (acc:=z7) (.bool z12) ?_;refine lq (.bool (z7 && z12)) ?_ (h:=by intro _ _;cases z7 <;> kernel_rfl);obtain⟨z13,hz13⟩:∃z,(z7 && z12)=z:=⟨_,rfl⟩;rw[hz13];have Z13:=zh hz13;clear hz13;refine lq (.bool z13) ?_;refine lg (acc:=z13) (.pointer (some ⟨a,15,none⟩)) ?_;refine lgl (acc:=z13) 4 (.tmp 174) (.bool p.hu) RA.out XA.out.c15 ?_;refine lg (acc:=z13) (.pointer (some ⟨b,15,none⟩)) ?_;refine lgl (acc:=z13) 4 (.tmp 176) (.bool q.hu) RB.out XB.out.c15 ?_;refine lg (acc:=z13) (.bool (p.hu==q.hu)) ?_;refine lq (.bool (z13 && (p.hu==q.hu))) ?_ (h:=by intro _ _;cases z13 <;> kernel_rfl);obtain⟨z14,hz14⟩:∃z,(z13 && (p.hu==q.hu))=z:=⟨_,rfl⟩;rw[hz14];have Z14:=zh hz14;clear hz14;refine lq (.bool z14) ?_;refine lg (acc:=z14) (.pointer (some ⟨a,16,none⟩)) ?_;refine lgl (acc:=z14) 4 (.tmp 181) (.bool p.hp) RA.out XA.out.c16 ?_;refine lg (acc:=z14) (.pointer (some ⟨b,16,none⟩)) ?_;refine lgl (acc:=z14) 4 (.tmp 183) (.bool q.hp) RB.out XB.out.c16 ?_;refine lg (acc:=z14) (.bool (p.hp==q.hp)) ?_;refine lq (.bool (z14 && (p.hp==q.hp))) ?_ (h:=by intro _ _;cases z14 <;> kernel_rfl);obtain⟨z15,hz15⟩:∃z,(z14 && (p.hp==q.hp))=z:=⟨_,rfl⟩;rw[hz15];have Z15:=zh hz15;clear hz15;refine lq (.bool z15) ?_;refine lg (acc:=z15) (.pointer (some ⟨a,17,none⟩)) ?_;refine lgl (acc:=z15) 9 (.tmp 188) (.string ⟨p.u.toArray⟩) RA.out XA.out.c17 ?_;refine lg (acc:=z15) (.pointer (some ⟨b,17,none⟩)) ?_;refine lgl (acc:=z15) 9 (.tmp 190) (.string ⟨q.u.toArray⟩) RB.out XB.out.c17 ?_;refine lg (acc:=z15) (.bool ((⟨p.u.toArray⟩:ByteArray).toList==(⟨q.u.toArray⟩:ByteArray).toList)) ?_;refine lq (.bool (z15 && ((⟨p.u.toArray⟩:ByteArray).toList==(⟨q.u.toArray⟩:ByteArray).toList))) ?_ (h:=by intro _ _;cases z15 <;> kernel_rfl);obtain⟨z16,hz16⟩:∃z,(z15 && ((⟨p.u.toArray⟩:ByteArray).toList==(⟨q.u.toArray⟩:ByteArray).toList))=z:=⟨_,rfl⟩;rw[hz16];have Z16:=zh hz16;clear hz16;refine lq (.bool z16) ?_;refine lg (acc:=z16) (.pointer (some ⟨a,18,none⟩)) ?_;refine lgl (acc:=z16) 9 (.tmp 195) (.string ⟨p.pw.toArray⟩) RA.out XA.out.c18 ?_;refine lg (acc:=z16) (.pointer (some ⟨b,18,none⟩)) ?_;refine lgl (acc:=z16) 9 (.tmp 197) (.string ⟨q.pw.toArray⟩) RB.out XB.out.c18 ?_;refine lg (acc:=z16) (.bool ((⟨p.pw.toArray⟩:ByteArray).toList==(⟨q.pw.toArray⟩:ByteArray).toList)) ?_;refine lq (.bool (z16 && ((⟨p.pw.toArray⟩:ByteArray).toList==(⟨q.pw.toArray⟩:ByteArray).toList))) ?_ (h:=by intro _ _;cases z16 <;> kernel_rfl);obtain⟨z17,hz17⟩:∃z,(z16 && ((⟨p.pw.toArray⟩:ByteArray).toList==(⟨q.pw.toArray⟩:ByteArray).toList))=z:=⟨_,rfl⟩;rw[hz17];have Z17:=zh hz17;clear hz17;refine lq (.bool z17) ?_;refine lg (acc:=z17) (.pointer (some ⟨a,19,none⟩)) ?_;refine lgl (acc:=z17) 4 (.tmp 202) (.bool p.pr) RA.out XA.out.c19 ?_;refine lg (acc:=z17) (.pointer (some ⟨b,19,none⟩)) ?_;refine lgl (acc:=z17) 4 (.tmp 204) (.bool q.pr) RB.out XB.out.c19 ?_;refine lg (acc:=z17) (.bool (p.pr==q.pr)) ?_;refine lq (.bool (z17 && (p.pr==q.pr))) ?_ (h:=by intro _ _;cases z17 <;> kernel_rfl);obtain⟨z18,hz18⟩:∃z,(z17 && (p.pr==q.pr))=z:=⟨_,rfl⟩
       rw[hz18];have Z18:=zh hz18;clear hz18;refine lq (.bool z18) ?_;refine lg (acc:=z18) (.pointer (some ⟨a,20,none⟩)) ?_;refine lgl (acc:=z18) 3 (.tmp 209) (.int .i64 p.code) RA.out XA.out.c20 ?_;refine lg (acc:=z18) (.pointer (some ⟨b,20,none⟩)) ?_;refine lgl (acc:=z18) 3 (.tmp 211) (.int .i64 q.code) RB.out XB.out.c20 ?_;refine lg (acc:=z18) (.bool (p.code==q.code)) ?_;refine lq (.bool (z18 && (p.code==q.code))) ?_ (h:=by intro _ _;cases z18 <;> kernel_rfl);obtain⟨z19,hz19⟩:∃z,(z18 && (p.code==q.code))=z:=⟨_,rfl⟩;rw[hz19];have Z19:=zh hz19;clear hz19;refine loose_nil (fun W vals hW hkn=> ?_);simp only[addEnt,knowsAll]at hkn
       try simp only[and_true]at hkn
       simp only[addEnt,fill,Act.put,zsa,zsc,zsz];clear hkn;replace HK:=zh (HK.out.then_ hW);clear RA RB;clear hW
       go_wp2_with fail
       have HF:=zh (show z19=decide (p=q)from by
        rw[←Z19.out];rw[←Z18.out];rw[←Z17.out];rw[←Z16.out];rw[←Z15.out];rw[←Z14.out];rw[←Z13.out];rw[←Z12.out];rw[←Z11.out];rw[←Z10.out];rw[←Z9.out];rw[←Z8.out];rw[←Z7.out];rw[←Z6.out];rw[←Z5.out];rw[←Z4.out];rw[←Z3.out];rw[←Z2.out];rw[←Z1.out];exact flatC_is HE5.out HE6.out HE7.out)
       go_ret;exact⟨by rw[HF.out];rfl,HB.out.1.then_ HK.out⟩
theorem refSame_any (p q:Pk)(sw sc sf sw1 sc1 sf1:Value)(w:World)(h1:PkL w p sw sc sf)(h2:PkL w q sw1 sc1 sf1)(hl:p.wants.length≤1000000∧p.codes.length≤1000000∧p.fs.length≤1000000):
  Calls Tryz.prog 16 #[pkV p sw sc sf,pkV q sw1 sc1 sf1] w (TruePost w (decide (p=q))):=by
 obtain⟨A1,d1,A2,d2,A3,d3,rfl,rfl,rfl⟩:=h1.slices;obtain⟨B1,e1,B2,e2,B3,e3,rfl,rfl,rfl⟩:=h2.slices;exact refSame_walk p q _ _ A1 A2 A3 B1 B2 B3 d1 d2 d3 e1 e2 e3 w (by constructor <;> rfl) (by constructor <;> rfl) h1 h2 hl
end Go.Proofs.YtahbikfbjenfpaaGreatDoor
