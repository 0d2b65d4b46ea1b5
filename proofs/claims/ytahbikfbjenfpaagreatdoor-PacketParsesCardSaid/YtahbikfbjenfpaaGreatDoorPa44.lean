/- Operations of a region that hang on a truth that is not known. The reference of packets: Same (printed by genpr1.py). -/
import Derived.Test.YtahbikfbjenfpaaGreatDoorPa15
import Derived.Test.YtahbikfbjenfpaaGreatDoorPa20
set_option maxHeartbeats 8000000
set_option maxRecDepth 100000
namespace Go.Proofs.YtahbikfbjenfpaaGreatDoor
open Tryz Go.RowKit

theorem oO {ops:Array Oper}{tmps:Array Value}{o:Oper}{i:Nat}{acc:Bool}(hg:o.guard=some (i,true))(hy:yielded ops tmps i=some acc):Region.wanted o (yielded ops tmps)=acc:=by
 cases acc <;> simp[Region.wanted,hg,hy]
section
variable {P:Program} {w0:au} {ops:Array Oper} {a0:Act} {Q:List fQ->Prop} {o:Oper} {rest:List Oper} {env:List fQ} {acc:Bool}
/-- One that computes where acc is true. -/
theorem lg (V:Value)(hk:ba P ax w0 ops a0 Q rest (af o.dst (some (bif acc then V else undef)) [] (λ_ _ _=>True) env))(h:acc=true->∀(W:au) (vals:Tmp->Value),ax w0 W->(execOp (fill vals env a0).eval o).run P W= .ok (.value V) W:=by rintro rfl _ _ _;kernel_rfl)
  (hw:∀vals:Tmp->Value,Region.wanted o (yielded ops (fill vals env a0).tmps)=acc:=by intro _;exact oO rfl (by kernel_rfl)):ba P ax w0 ops a0 Q (o::rest) env:=
 ak _ (λW vals hW _=>⟨by
  rw[hw vals]
  cases acc with
  | true=>rw[aE rfl,h rfl W vals hW];exact⟨ae.refl _ _,rfl⟩
  | false=>exact rfl⟩) hk
theorem wk {a:Act}{w:au}{t:TypeId}{x:Operand}{ad:Addr}{v:Value}(ho:o.op= .load t x)(hx:a.eval x= .pointer (some ad))(ht:∀W,(isAgg t).run P W= .ok false W)(hc:w.cell? ad=some v):(execOp a.eval o).run P w= .ok (.value v) w:=by
 unfold execOp;simp only[ho,hx,fo,nG ht hc,fk,gq]
theorem wm {a:Act}{w:au}{t:TypeId}{x:Operand}{b o0:Nat}{cs:List Value}{d:TypeDesc}(ho:o.op= .load t x)(hx:a.eval x= .pointer (some ⟨b,o0,none⟩))(hc:w.rangeAt b o0 cs)(hu:P.underlying t=some d)(hd:d.isRow=true)(hi:(P.info? t).map (·.size)=some cs.length):(execOp a.eval o).run P w= .ok (.value (.agg cs.toArray)) w:=by
 unfold execOp;simp only[ho,hx,Instr.loadAt,Instr.sureAddr,fo,gq,fk,run_loadVar_mid w b o0 t cs d hc hu hd hi]
theorem FG {a:Act}{w:au}{t t' :TypeId}{x y:Operand}{X Y:Array Value}{r:Bool}(ho:o.op= .binOp .eql t x y t')(hx:a.eval x= .agg X)(hy:a.eval y= .agg Y)(hm:P.eqGuardType P.depth t=false)(h:∀W,(Op.equalIn 10000 t (.agg X) (.agg Y)).run P W= .ok r W):(execOp a.eval o).run P w= .ok (.value (.bool r)) w:=by
 unfold execOp;simp only[ho,hx,hy,fo,gq,fk,run_eqGuard_agg _ _ _ _ _ _ _ hm,run_eql_struct,h]
/-- A whole row, its cells hidden. -/
theorem lx {t:TypeId}{x:Operand}{g:Nat}{X:Array Value}{d:TypeDesc}(hr:∀W,ax w0 W->Row W g t X)(hu:P.underlying t=some d)(hi:(P.info? t).map (·.size)=some X.size)(hk:ba P ax w0 ops a0 Q rest (af o.dst (some (.agg X)) [] (λ_ _ _=>True) env))(ho:o.op= .load t x:=by rfl)(hd:d.isRow=true:=by rfl)
  (hw:∀vals:Tmp->Value,Region.wanted o (yielded ops (fill vals env a0).tmps)=true:=by intro _;kernel_rfl) (hx:∀vals,(fill vals env a0).eval x= .pointer (some ⟨g,0,none⟩):=by intro _;kernel_rfl):ba P ax w0 ops a0 Q (o::rest) env:=
 Bf t x g X.toList ho hu hd (by rw[xG];exact hi) hw hx (λW hW=>aD (hr W hW)) (by simpa using hk)
/-- A call whose answer is known, its part of the kernel filled in. -/
theorem lc (f:FuncId)(args:Array Value)(v:Value)(hc:∀W,ax w0 W->Calls P f args W λe w' =>e= .returned v/\ae W w' [])(hk:ba P ax w0 ops a0 Q rest (af o.dst (some v) [] (λ_ _ _=>True) env))
  (hw:∀vals:Tmp->Value,Region.wanted o (yielded ops (fill vals env a0).tmps)=true:=by intro _;kernel_rfl) (he:∀(W:au) (vals:Tmp->Value),(execOp (fill vals env a0).eval o).run P W= .ok (.enter f args) W:=by intro _ _;kernel_rfl):ba P ax w0 ops a0 Q (o::rest) env:=
 aT f args v hw he hc hk
/-- One that reads a cell where acc is true. -/
theorem rv {a i:Nat}{t' :TypeId}{X:Array Value}(t:TypeId)(x:Operand)(v:Value)(hr:∀W,ax w0 W->Row W a t' X)(hc:X[i]? =some v)(hk:ba P ax w0 ops a0 Q rest (af o.dst (some (bif acc then v else undef)) [] (λ_ _ _=>True) env))(ho:o.op= .load t x:=by rfl)
  (hx:acc=true->∀vals,(fill vals env a0).eval x= .pointer (some ⟨a,i,none⟩):=by rintro rfl _;kernel_rfl) (ht:∀W,(isAgg t).run P W= .ok false W:=by intro _;kernel_rfl) (hw:∀vals:Tmp->Value,Region.wanted o (yielded ops (fill vals env a0).tmps)=acc:=by intro _;exact oO rfl (by kernel_rfl)):ba P ax w0 ops a0 Q (o::rest) env:=
 lg v hk (λLY W vals hW=>wk ho (hx LY vals) ht (((hr W hW).cell i).trans hc)) hw
/-- The same, of some cells. -/
theorem SC {a i:Nat}{t' :TypeId}{X:Array Value}(t:TypeId)(x:Operand)(cs:List Value){d:TypeDesc}(hu:P.underlying t=some d)(hr:∀W,ax w0 W->Row W a t' X)(hc:∀j,j < cs.length->X[i+j]? =cs[j]?)(hk:ba P ax w0 ops a0 Q rest (af o.dst (some (bif acc then .agg cs.toArray else undef)) [] (λ_ _ _=>True) env))(ho:o.op= .load t x:=by rfl)(hd:d.isRow=true:=by rfl)(hi:(P.info? t).map (·.size)=some cs.length:=by kernel_rfl)
  (hx:acc=true->∀vals,(fill vals env a0).eval x= .pointer (some ⟨a,i,none⟩):=by rintro rfl _;kernel_rfl) (hw:∀vals:Tmp->Value,Region.wanted o (yielded ops (fill vals env a0).tmps)=acc:=by intro _;exact oO rfl (by kernel_rfl)):ba P ax w0 ops a0 Q (o::rest) env:=
 lg _ hk (λLY W vals hW=>wm ho (hx LY vals) (λj v hv=>by rw[(hr W hW).cell,hc j (List.getElem?_eq_some_iff.1 hv).1,hv]) hu hd hi) hw
end

/-- A packet's cells, one by one. -/
structure jA (p:Pk)(X:Array Value)(sw sc sf:Value):Prop where
 c0:X[0]? =some (.int .i64 p.k)
 c1:X[1]? =some (.bool p.dup)
 c2:X[2]? =some (.bool p.ret)
 c3:X[3]? =some (.int .i64 p.q)
 c4:X[4]? =some (.string ⟨p.t.toArray⟩)
 c5:X[5]? =some (.string ⟨p.b.toArray⟩)
 c6:X[6]? =some (.int .i64 p.id)
 c7:X[7]? =some (.string ⟨p.c.toArray⟩)
 c8:X[8]? =some (.bool p.cl)
 c9:X[9]? =some (.int .i64 p.keep)
 c10:X[10]? =some (.bool p.hw)
 c11:X[11]? =some (.string ⟨p.wt.toArray⟩)
 c12:X[12]? =some (.string ⟨p.wb.toArray⟩)
 c13:X[13]? =some (.int .i64 p.wq)
 c14:X[14]? =some (.bool p.wr)
 c15:X[15]? =some (.bool p.hu)
 c16:X[16]? =some (.bool p.hp)
 c17:X[17]? =some (.string ⟨p.u.toArray⟩)
 c18:X[18]? =some (.string ⟨p.pw.toArray⟩)
 c19:X[19]? =some (.bool p.pr)
 c20:X[20]? =some (.int .i64 p.code)
 IZ:X[21]? =some sw
 KQ:X[22]? =some sc
 KO:X[23]? =some sf
theorem jA.will {p:Pk}{X:Array Value}{sw sc sf:Value}(h:jA p X sw sc sf):∀j,j < 4->X[11+j]? =([.string ⟨p.wt.toArray⟩,.string ⟨p.wb.toArray⟩,.int .i64 p.wq,.bool p.wr]:List Value)[j]? :=λj hj=>by
 obtain rfl | rfl | rfl | rfl:j=0\/j=1\/j=2\/j=3:=by omega
 ·exact h.c11
 ·exact h.c12
 ·exact h.c13
 ·exact h.c14
theorem jA.of (p:Pk)(sw sc sf:Value):∃X,eO p sw sc sf= .agg X/\jA p X sw sc sf:=⟨_,rfl,by constructor <;> rfl⟩
theorem Hg {p q:Pk}(hw:p.wants=q.wants)(hc:p.aF=q.aF)(hf:p.fs=q.fs):((((((((((((((p.k==q.k) && (p.dup==q.dup)) && (p.ret==q.ret)) && (p.q==q.q)) && ((⟨p.t.toArray⟩:ByteArray).toList==(⟨q.t.toArray⟩:ByteArray).toList)) && ((⟨p.b.toArray⟩:ByteArray).toList==(⟨q.b.toArray⟩:ByteArray).toList)) && (p.id==q.id)) && ((((((⟨p.c.toArray⟩:ByteArray).toList==(⟨q.c.toArray⟩:ByteArray).toList) && (p.cl==q.cl)) && (p.keep==q.keep)) && (p.hw==q.hw)) && lZ p q)) && (p.hu==q.hu)) && (p.hp==q.hp)) && ((⟨p.u.toArray⟩:ByteArray).toList==(⟨q.u.toArray⟩:ByteArray).toList)) && ((⟨p.pw.toArray⟩:ByteArray).toList==(⟨q.pw.toArray⟩:ByteArray).toList)) && (p.pr==q.pr)) && (p.code==q.code))=decide (p=q):=by
 obtain⟨k,dup,ret,q0,t,b,id,c,cl,keep,hw0,wt,wb,wq,wr,hu,hp,u,pw,pr,code,wants,aF,fs⟩:=p;obtain⟨k',U3,Uf,Wh,t',b',id',c',WL,yc,Uq,Wd,Wg,Wf,wr',hu',hp',u',Wi,Wj,Tp,Qq,RH,fs'⟩:=q;simp only at hw hc hf;subst hw hc hf;have hs:∀x y:aG,((⟨x.toArray⟩:ByteArray).toList==(⟨y.toArray⟩:ByteArray).toList)=(x==y):=λx y=>by
  rw[Lib.toList_data,Lib.toList_data]
 simp only[hs,lZ];rw[lP];simp only[cR,kX,fA,Pk.mk.injEq,ai]
 constructor
 ·rintro⟨⟨⟨⟨⟨⟨⟨⟨⟨⟨⟨⟨⟨h1,h2⟩,h3⟩,h4⟩,h5⟩,h6⟩,h7⟩,⟨⟨⟨⟨h8,h9⟩,h10⟩,h11⟩,h12⟩⟩,P8⟩,P7⟩,P6⟩,Ni⟩,P5⟩,P4⟩
  simp_all
 ·intro h
  simp_all
theorem yF (p q:Pk)(X Y:Array Value)(A1 A2 A3 B1 B2 B3:Option Addr)(c1 c2 c3 d1 d2 d3:Nat)(w:au)(hX:jA p X (.slice A1 p.wants.length c1) (.slice A2 p.aF.length c2) (.slice A3 p.fs.length c3))(hY:jA q Y (.slice B1 q.wants.length d1) (.slice B2 q.aF.length d2) (.slice B3 q.fs.length d3))(h1:fR w p (.slice A1 p.wants.length c1) (.slice A2 p.aF.length c2) (.slice A3 p.fs.length c3))(h2:fR w q (.slice B1 q.wants.length d1) (.slice B2 q.aF.length d2) (.slice B3 q.fs.length d3))(hl:p.wants.length<=1000000/\p.aF.length<=1000000/\p.fs.length<=1000000):
  Calls prog 16 #[.agg X,.agg Y] w (aJ w (decide (p=q))):=by
 obtain⟨kF,T6,T5⟩:(∀W,ae w W []->cY W 2 gK A1 p.wants/\cY W 2 gK B1 q.wants)/\(∀W,ae w W []->cY W 1 jJ A2 p.aF/\cY W 1 jJ B2 q.aF)/\(∀W,ae w W []->cY W 1 fC A3 p.fs/\cY W 1 fC B3 q.fs):=by
  obtain⟨⟨_,_,e1,g1⟩,⟨_,_,e2,g2⟩,⟨_,_,e3,g3⟩⟩:=h1;obtain⟨⟨_,_,e4,g4⟩,⟨_,_,e5,g5⟩,⟨_,_,e6,g6⟩⟩:=h2;injection e1 with e1
  injection e2 with e2
  injection e3 with e3
  injection e4 with e4
  injection e5 with e5
  injection e6 with e6
  subst e1 e2 e3 e4 e5 e6;exact⟨λW hk=>⟨g1.keeps hk,g4.keeps hk⟩,λW hk=>⟨g2.keeps hk,g5.keeps hk⟩,λW hk=>⟨g3.keeps hk,g6.keeps hk⟩⟩
 obtain⟨w5,iy⟩:∃W,(w.alloc (.cells X 29)).alloc (.cells Y 29)=W:=⟨_,rfl⟩;obtain⟨a,ha⟩:∃a,w.heap.size=a:=⟨_,rfl⟩;obtain⟨b,hb⟩:∃b,a+1=b:=⟨_,rfl⟩;have HB:=zh (show ae w w5 []/\Row w5 a 29 X/\Row w5 b 29 Y from by
  rw[<-iy,<-hb,<-ha];refine⟨(ae.alloc _ _).bX _,(Row.new _ _ _).alloc _, ?_⟩;have:=Row.new (w.alloc (.cells X 29)) 29 Y
  rwa [qC]at this)
 have HK:=zh (ae.refl w5 []);have HM:=zh hl;have XA:=zh hX;have XB:=zh hY;clear hX hY;have TQ:=zh (kF w5 HB.o.1);have TP:=zh (T6 w5 HB.o.1);have TN:=zh (T5 w5 HB.o.1);clear kF T6 T5 h1 h2 hl;have x1:=(HB.o.2.1.cell 21).trans XA.o.IZ;have x2:=(HB.o.2.1.cell 22).trans XA.o.KQ;have x3:=(HB.o.2.1.cell 23).trans XA.o.KO;have y1:=(HB.o.2.2.cell 21).trans XB.o.IZ;have y2:=(HB.o.2.2.cell 22).trans XB.o.KQ;have y3:=(HB.o.2.2.cell 23).trans XB.o.KO
 go_enter func16,ntmps16
 go_upto_region 1 with fail
 try rw[iy]
 try rw[hb]
 try rw[ha]
 clear iy ha hb
 by_cases hl1:(p.wants.length:Int)=(q.wants.length:Int)
 case neg=>
  have hb1:((p.wants.length:Int) !=(q.wants.length:Int))=true:=by simpa using hl1
  have HN:=zh (show decide (p=q)=false from aZ (λh=>hl1 (by rw[h])));clear hl1
  go_wp2_with fail
  go_ret;exact⟨by rw[HN.o];rfl,HB.o.1⟩
 by_cases hl2:(p.aF.length:Int)=(q.aF.length:Int)
 case neg=>
  have hb1:((p.wants.length:Int) !=(q.wants.length:Int))=false:=by simpa using hl1
  have hb2:((p.aF.length:Int) !=(q.aF.length:Int))=true:=by simpa using hl2
  have HN:=zh (show decide (p=q)=false from aZ (λh=>hl2 (by rw[h])));clear hl1 hl2
  go_wp2_with fail
  go_ret;exact⟨by rw[HN.o];rfl,HB.o.1⟩
 by_cases hl3:(p.fs.length:Int)=(q.fs.length:Int)
 case neg=>
  have hb1:((p.wants.length:Int) !=(q.wants.length:Int))=false:=by simpa using hl1
  have hb2:((p.aF.length:Int) !=(q.aF.length:Int))=false:=by simpa using hl2
  have Dv:((p.fs.length:Int) !=(q.fs.length:Int))=true:=by simpa using hl3
  have HN:=zh (show decide (p=q)=false from aZ (λh=>hl3 (by rw[h])));clear hl1 hl2 hl3
  go_wp2_with fail
  go_ret;exact⟨by rw[HN.o];rfl,HB.o.1⟩
 have hb1:((p.wants.length:Int) !=(q.wants.length:Int))=false:=by simpa using hl1
 have hb2:((p.aF.length:Int) !=(q.aF.length:Int))=false:=by simpa using hl2
 have Dv:((p.fs.length:Int) !=(q.fs.length:Int))=false:=by simpa using hl3
 have Pn:=zh (show p.wants.length=q.wants.length by omega);have TY:=zh (show p.aF.length=q.aF.length by omega);have DV:=zh (show p.fs.length=q.fs.length by omega);have hm:=HM.o;clear hl1 hl2 hl3
 go_wp2_with fail
 clear hb1 hb2 Dv x1 x2 x3 y1 y2 y3
 go_loopw [5] (λi wr=>∃j:Nat,j<=(p.wants).length/\i= .int .i64 j/\Hid ((p.wants).take j=(q.wants).take j/\ae w5 wr [])) (λi _=>(p.wants).length - (intOf i).toNat)
 case atStart=>exact⟨0,by omega,rfl,zh ⟨rfl,ae.refl _ _⟩⟩
 case round=>
  obtain⟨j,hj,rfl,HR⟩:=hrel;have mI:=zh (HK.o.ah HR.o.2);have xa:=((HB.o.2.1.keeps mI.o).cell 21).trans XA.o.IZ
  by_cases hjl:j < (p.wants).length
  ·have Bv:j < (q.wants).length:=by have:=Pn.o;omega
   have Ha:(j:Int) < ((q.wants).length:Int):=by omega
   obtain⟨b1,o1,cs1,hA,hr1,hc1⟩:=TQ.o.1 (by omega);obtain⟨b2,o2,Nl,hB,hr2,gO⟩:=TQ.o.2 (by omega);have MX:=λ(W' :au) (hW:ae wr W' [])=>((HB.o.2.1.keeps (mI.o.ah hW)).cell 21).trans (show _=some (Value.slice (some ⟨b1,o1,none⟩) (p.wants).length c1)by rw[<-hA];exact XA.o.IZ)
   have MY:=λ(W' :au) (hW:ae wr W' [])=>((HB.o.2.2.keeps (mI.o.ah hW)).cell 21).trans (show _=some (Value.slice (some ⟨b2,o2,none⟩) (q.wants).length d1)by rw[<-hB];exact XB.o.IZ)
   have HS:=zh (λh=>kP hjl Bv HR.o.1 h);have jt:=zh (show(p.wants)[j]≠(q.wants)[j]->p≠q from λh e=>h (by subst e;rfl));have hc1:=hc1 j hjl;have gO:=gO j Bv
   generalize (p.wants)[j]=x at*
   generalize (q.wants)[j]=y at*
   obtain⟨x1,x2⟩:=x;obtain⟨y1,y2⟩:=y;have M1:=λ(W' :au) (hW:ae wr W' [])=>((hr1.keeps (mI.o.ah hW)).cell (o1+j*2+0)).trans (hc1 0 (by omega))
   have M2:=λ(W' :au) (hW:ae wr W' [])=>((hr2.keeps (mI.o.ah hW)).cell (o2+j*2+0)).trans (gO 0 (by omega))
   have N1:=λ(W' :au) (hW:ae wr W' [])=>((hr1.keeps (mI.o.ah hW)).cell (o1+j*2+1)).trans (hc1 1 (by omega))
   have N2:=λ(W' :au) (hW:ae wr W' [])=>((hr2.keeps (mI.o.ah hW)).cell (o2+j*2+1)).trans (gO 1 (by omega))
   simp only[gK,bU,fe,fj]at M1 M2 N1 N2;clear hc1 gO hr1 hr2 hA hB
   by_cases hxy:x1=y1
   ·subst hxy
    by_cases hxy:x2=y2
    ·subst hxy
     go_wp2_with fail
     refine aB _ (by kernel_rfl) rfl (by kernel_rfl) ?_;refine ls ?_;simp only[af];apply ak
     ·intro W vals hW ag
      simp only[knows]at ag
      try simp only[ai]at ag
      clear ag;have m:=MX W hW;refine⟨?_⟩;simp only[fill];go_simp
      first | exact⟨ae.refl _ _,rfl⟩ | exact⟨ae.alloc _ _,rfl⟩
     iterate 2
      simp only[af];refine ls ?_
     simp only[af];apply ak
     ·intro W vals hW ag
      simp only[knows]at ag
      try simp only[ai]at ag
      clear ag;have m0:=M1 W hW;have m1:=N1 W hW;refine⟨?_⟩;simp only[fill];go_simp
      first | exact⟨ae.refl _ _,rfl⟩ | exact⟨ae.alloc _ _,rfl⟩
     simp only[af];refine ls ?_;simp only[af];apply ak
     ·intro W vals hW ag
      simp only[knows]at ag
      try simp only[ai]at ag
      clear ag;have m:=MY W hW;refine⟨?_⟩;simp only[fill];go_simp
      first | exact⟨ae.refl _ _,rfl⟩ | exact⟨ae.alloc _ _,rfl⟩
     iterate 2
      simp only[af];refine ls ?_
     simp only[af];apply ak
     ·intro W vals hW ag
      simp only[knows]at ag
      try simp only[ai]at ag
      clear ag;have m0:=M2 W hW;have m1:=N2 W hW;refine⟨?_⟩;simp only[fill];go_simp
      first | exact⟨ae.refl _ _,rfl⟩ | exact⟨ae.alloc _ _,rfl⟩
     simp only[af];refine ls ?_;simp only[af];refine aq (λW vals hW ag=> ?_);simp only[aw]at ag
     try simp only[ai]at ag
     simp only[fill,Act.put,bo,bn,bh];clear ag M1 M2 N1 N2 MX MY xa;have FQ:=zh (HR.o.2.ah hW);clear hW
     go_wp2_with fail
     exact⟨⟨j+1,by omega,by go_num,zh ⟨HS.o (by first | rfl | trivial),FQ.o⟩⟩,by simp[intOf];omega⟩
    ·skip
     have HD:=zh (show decide (p=q)=false from aZ (jt.o (λe=>hxy (by injection e))))
     go_wp2_with fail
     refine aB _ (by kernel_rfl) rfl (by kernel_rfl) ?_;refine ls ?_;simp only[af];apply ak
     ·intro W vals hW ag
      simp only[knows]at ag
      try simp only[ai]at ag
      clear ag;have m:=MX W hW;refine⟨?_⟩;simp only[fill];go_simp
      first | exact⟨ae.refl _ _,rfl⟩ | exact⟨ae.alloc _ _,rfl⟩
     iterate 2
      simp only[af];refine ls ?_
     simp only[af];apply ak
     ·intro W vals hW ag
      simp only[knows]at ag
      try simp only[ai]at ag
      clear ag;have m0:=M1 W hW;have m1:=N1 W hW;refine⟨?_⟩;simp only[fill];go_simp
      first | exact⟨ae.refl _ _,rfl⟩ | exact⟨ae.alloc _ _,rfl⟩
     simp only[af];refine ls ?_;simp only[af];apply ak
     ·intro W vals hW ag
      simp only[knows]at ag
      try simp only[ai]at ag
      clear ag;have m:=MY W hW;refine⟨?_⟩;simp only[fill];go_simp
      first | exact⟨ae.refl _ _,rfl⟩ | exact⟨ae.alloc _ _,rfl⟩
     iterate 2
      simp only[af];refine ls ?_
     simp only[af];apply ak
     ·intro W vals hW ag
      simp only[knows]at ag
      try simp only[ai]at ag
      clear ag;have m0:=M2 W hW;have m1:=N2 W hW;refine⟨?_⟩;simp only[fill];go_simp
      first | exact⟨ae.refl _ _,rfl⟩ | exact⟨ae.alloc _ _,rfl⟩
     simp only[af];refine ls ?_;simp only[af];refine aq (λW vals hW ag=> ?_);simp only[aw]at ag
     try simp only[ai]at ag
     simp only[fill,Act.put,bo,bn,bh];clear ag M1 M2 N1 N2 MX MY xa;have FQ:=zh (HR.o.2.ah hW);clear hW
     go_wp2_with fail
     go_ret;exact⟨by rw[HD.o];rfl,HB.o.1.ah (HK.o.ah FQ.o)⟩
   ·skip
    have HD:=zh (show decide (p=q)=false from aZ (jt.o (λe=>hxy (by injection e))))
    go_wp2_with fail
    refine aB _ (by kernel_rfl) rfl (by kernel_rfl) ?_;refine ls ?_;simp only[af];apply ak
    ·intro W vals hW ag
     simp only[knows]at ag
     try simp only[ai]at ag
     clear ag;have m:=MX W hW;refine⟨?_⟩;simp only[fill];go_simp
     first | exact⟨ae.refl _ _,rfl⟩ | exact⟨ae.alloc _ _,rfl⟩
    iterate 2
     simp only[af];refine ls ?_
    simp only[af];apply ak
    ·intro W vals hW ag
     simp only[knows]at ag
     try simp only[ai]at ag
     clear ag;have m0:=M1 W hW;have m1:=N1 W hW;refine⟨?_⟩;simp only[fill];go_simp
     first | exact⟨ae.refl _ _,rfl⟩ | exact⟨ae.alloc _ _,rfl⟩
    simp only[af];refine ls ?_;simp only[af];apply ak
    ·intro W vals hW ag
     simp only[knows]at ag
     try simp only[ai]at ag
     clear ag;have m:=MY W hW;refine⟨?_⟩;simp only[fill];go_simp
     first | exact⟨ae.refl _ _,rfl⟩ | exact⟨ae.alloc _ _,rfl⟩
    iterate 2
     simp only[af];refine ls ?_
    simp only[af];apply ak
    ·intro W vals hW ag
     simp only[knows]at ag
     try simp only[ai]at ag
     clear ag;have m0:=M2 W hW;have m1:=N2 W hW;refine⟨?_⟩;simp only[fill];go_simp
     first | exact⟨ae.refl _ _,rfl⟩ | exact⟨ae.alloc _ _,rfl⟩
    simp only[af];refine ls ?_;simp only[af];refine aq (λW vals hW ag=> ?_);simp only[aw]at ag
    try simp only[ai]at ag
    simp only[fill,Act.put,bo,bn,bh];clear ag M1 M2 N1 N2 MX MY xa;have FQ:=zh (HR.o.2.ah hW);clear hW
    go_wp2_with fail
    go_ret;exact⟨by rw[HD.o];rfl,HB.o.1.ah (HK.o.ah FQ.o)⟩
  ·obtain rfl:j=(p.wants).length:=by omega
   have VU:=zh (show(p.wants)=(q.wants)from by
    have:=HR.o.1;rw[eQ,Pn.o,eQ]at this;exact this)
   replace HK:=zh mI.o;obtain⟨w6,KE⟩:∃w6,wr=w6:=⟨_,rfl⟩;rw[KE]at HK xa ⊢
   clear HR mI hjl hj KE
   go_wp2_with fail
   clear xa
   go_loopw [6] (λi wr=>∃j:Nat,j<=(p.aF).length/\i= .int .i64 j/\Hid ((p.aF).take j=(q.aF).take j/\ae w6 wr [])) (λi _=>(p.aF).length - (intOf i).toNat)
   case atStart=>exact⟨0,by omega,rfl,zh ⟨rfl,ae.refl _ _⟩⟩
   case round=>
    obtain⟨j,hj,rfl,HR⟩:=hrel;have mI:=zh (HK.o.ah HR.o.2);have xa:=((HB.o.2.1.keeps mI.o).cell 22).trans XA.o.KQ
    by_cases hjl:j < (p.aF).length
    ·have Bv:j < (q.aF).length:=by have:=TY.o;omega
     have Ha:(j:Int) < ((q.aF).length:Int):=by omega
     obtain⟨b1,o1,cs1,hA,hr1,hc1⟩:=TP.o.1 (by omega);obtain⟨b2,o2,Nl,hB,hr2,gO⟩:=TP.o.2 (by omega);have MX:=λ(W' :au) (hW:ae wr W' [])=>((HB.o.2.1.keeps (mI.o.ah hW)).cell 22).trans (show _=some (Value.slice (some ⟨b1,o1,none⟩) (p.aF).length c2)by rw[<-hA];exact XA.o.KQ)
     have MY:=λ(W' :au) (hW:ae wr W' [])=>((HB.o.2.2.keeps (mI.o.ah hW)).cell 22).trans (show _=some (Value.slice (some ⟨b2,o2,none⟩) (q.aF).length d2)by rw[<-hB];exact XB.o.KQ)
     have HS:=zh (λh=>kP hjl Bv HR.o.1 h);have jt:=zh (show(p.aF)[j]≠(q.aF)[j]->p≠q from λh e=>h (by subst e;rfl));have hc1:=hc1 j hjl;have gO:=gO j Bv
     generalize (p.aF)[j]=x at*
     generalize (q.aF)[j]=y at*
     have M1:=λ(W' :au) (hW:ae wr W' [])=>((hr1.keeps (mI.o.ah hW)).cell (o1+j*1+0)).trans (hc1 0 (by omega))
     have M2:=λ(W' :au) (hW:ae wr W' [])=>((hr2.keeps (mI.o.ah hW)).cell (o2+j*1+0)).trans (gO 0 (by omega))
     simp only[jJ,bU,iO,fj]at M1 M2;clear hc1 gO hr1 hr2 hA hB
     by_cases hxy:x=y
     ·subst hxy
      go_wp2_with fail
      refine aB _ (by kernel_rfl) rfl (by kernel_rfl) ?_;refine ls ?_;simp only[af];apply ak
      ·intro W vals hW ag
       simp only[knows]at ag
       try simp only[ai]at ag
       clear ag;have m:=MX W hW;refine⟨?_⟩;simp only[fill];go_simp
       first | exact⟨ae.refl _ _,rfl⟩ | exact⟨ae.alloc _ _,rfl⟩
      iterate 2
       simp only[af];refine ls ?_
      simp only[af];apply ak
      ·intro W vals hW ag
       simp only[knows]at ag
       try simp only[ai]at ag
       clear ag;have m0:=M1 W hW;refine⟨?_⟩;simp only[fill];go_simp
       first | exact⟨ae.refl _ _,rfl⟩ | exact⟨ae.alloc _ _,rfl⟩
      simp only[af];refine ls ?_;simp only[af];apply ak
      ·intro W vals hW ag
       simp only[knows]at ag
       try simp only[ai]at ag
       clear ag;have m:=MY W hW;refine⟨?_⟩;simp only[fill];go_simp
       first | exact⟨ae.refl _ _,rfl⟩ | exact⟨ae.alloc _ _,rfl⟩
      iterate 2
       simp only[af];refine ls ?_
      simp only[af];apply ak
      ·intro W vals hW ag
       simp only[knows]at ag
       try simp only[ai]at ag
       clear ag;have m0:=M2 W hW;refine⟨?_⟩;simp only[fill];go_simp
       first | exact⟨ae.refl _ _,rfl⟩ | exact⟨ae.alloc _ _,rfl⟩
      simp only[af];refine ls ?_;simp only[af];refine aq (λW vals hW ag=> ?_);simp only[aw]at ag
      try simp only[ai]at ag
      simp only[fill,Act.put,bo,bn,bh];clear ag M1 M2 MX MY xa;have FQ:=zh (HR.o.2.ah hW);clear hW
      go_wp2_with fail
      exact⟨⟨j+1,by omega,by go_num,zh ⟨HS.o (by first | rfl | trivial),FQ.o⟩⟩,by simp[intOf];omega⟩
     ·have hq:(x !=y)=true:=by simpa using hxy
      have PQ:(x==y)=false:=by simpa using hxy
      have HD:=zh (show decide (p=q)=false from aZ (jt.o hxy))
      go_wp2_with fail
      refine aB _ (by kernel_rfl) rfl (by kernel_rfl) ?_;refine ls ?_;simp only[af];apply ak
      ·intro W vals hW ag
       simp only[knows]at ag
       try simp only[ai]at ag
       clear ag;have m:=MX W hW;refine⟨?_⟩;simp only[fill];go_simp
       first | exact⟨ae.refl _ _,rfl⟩ | exact⟨ae.alloc _ _,rfl⟩
      iterate 2
       simp only[af];refine ls ?_
      simp only[af];apply ak
      ·intro W vals hW ag
       simp only[knows]at ag
       try simp only[ai]at ag
       clear ag;have m0:=M1 W hW;refine⟨?_⟩;simp only[fill];go_simp
       first | exact⟨ae.refl _ _,rfl⟩ | exact⟨ae.alloc _ _,rfl⟩
      simp only[af];refine ls ?_;simp only[af];apply ak
      ·intro W vals hW ag
       simp only[knows]at ag
       try simp only[ai]at ag
       clear ag;have m:=MY W hW;refine⟨?_⟩;simp only[fill];go_simp
       first | exact⟨ae.refl _ _,rfl⟩ | exact⟨ae.alloc _ _,rfl⟩
      iterate 2
       simp only[af];refine ls ?_
      simp only[af];apply ak
      ·intro W vals hW ag
       simp only[knows]at ag
       try simp only[ai]at ag
       clear ag;have m0:=M2 W hW;refine⟨?_⟩;simp only[fill];go_simp
       first | exact⟨ae.refl _ _,rfl⟩ | exact⟨ae.alloc _ _,rfl⟩
      simp only[af];refine ls ?_;simp only[af];refine aq (λW vals hW ag=> ?_);simp only[aw]at ag
      try simp only[ai]at ag
      simp only[fill,Act.put,bo,bn,bh];clear ag M1 M2 MX MY xa;have FQ:=zh (HR.o.2.ah hW);clear hW
      go_wp2_with fail
      go_ret;exact⟨by rw[HD.o];rfl,HB.o.1.ah (HK.o.ah FQ.o)⟩
    ·obtain rfl:j=(p.aF).length:=by omega
     have VT:=zh (show(p.aF)=(q.aF)from by
      have:=HR.o.1;rw[eQ,TY.o,eQ]at this;exact this)
     replace HK:=zh mI.o;obtain⟨w7,KE⟩:∃w7,wr=w7:=⟨_,rfl⟩;rw[KE]at HK xa ⊢
     clear HR mI hjl hj KE
     go_wp2_with fail
     clear xa
     go_loopw [7] (λi wr=>∃j:Nat,j<=(p.fs).length/\i= .int .i64 j/\Hid ((p.fs).take j=(q.fs).take j/\ae w7 wr [])) (λi _=>(p.fs).length - (intOf i).toNat)
     case atStart=>exact⟨0,by omega,rfl,zh ⟨rfl,ae.refl _ _⟩⟩
     case round=>
      obtain⟨j,hj,rfl,HR⟩:=hrel;have mI:=zh (HK.o.ah HR.o.2);have xa:=((HB.o.2.1.keeps mI.o).cell 23).trans XA.o.KO
      by_cases hjl:j < (p.fs).length
      ·have Bv:j < (q.fs).length:=by have:=DV.o;omega
       have Ha:(j:Int) < ((q.fs).length:Int):=by omega
       obtain⟨b1,o1,cs1,hA,hr1,hc1⟩:=TN.o.1 (by omega);obtain⟨b2,o2,Nl,hB,hr2,gO⟩:=TN.o.2 (by omega);have MX:=λ(W' :au) (hW:ae wr W' [])=>((HB.o.2.1.keeps (mI.o.ah hW)).cell 23).trans (show _=some (Value.slice (some ⟨b1,o1,none⟩) (p.fs).length c3)by rw[<-hA];exact XA.o.KO)
       have MY:=λ(W' :au) (hW:ae wr W' [])=>((HB.o.2.2.keeps (mI.o.ah hW)).cell 23).trans (show _=some (Value.slice (some ⟨b2,o2,none⟩) (q.fs).length d3)by rw[<-hB];exact XB.o.KO)
       have HS:=zh (λh=>kP hjl Bv HR.o.1 h);have jt:=zh (show(p.fs)[j]≠(q.fs)[j]->p≠q from λh e=>h (by subst e;rfl));have hc1:=hc1 j hjl;have gO:=gO j Bv
       generalize (p.fs)[j]=x at*
       generalize (q.fs)[j]=y at*
       have M1:=λ(W' :au) (hW:ae wr W' [])=>((hr1.keeps (mI.o.ah hW)).cell (o1+j*1+0)).trans (hc1 0 (by omega))
       have M2:=λ(W' :au) (hW:ae wr W' [])=>((hr2.keeps (mI.o.ah hW)).cell (o2+j*1+0)).trans (gO 0 (by omega))
       simp only[fC,bU,iO,fj]at M1 M2;clear hc1 gO hr1 hr2 hA hB
       by_cases hxy:x=y
       ·subst hxy
        go_wp2_with fail
        refine aB _ (by kernel_rfl) rfl (by kernel_rfl) ?_;refine ls ?_;simp only[af];apply ak
        ·intro W vals hW ag
         simp only[knows]at ag
         try simp only[ai]at ag
         clear ag;have m:=MX W hW;refine⟨?_⟩;simp only[fill];go_simp
         first | exact⟨ae.refl _ _,rfl⟩ | exact⟨ae.alloc _ _,rfl⟩
        iterate 2
         simp only[af];refine ls ?_
        simp only[af];apply ak
        ·intro W vals hW ag
         simp only[knows]at ag
         try simp only[ai]at ag
         clear ag;have m0:=M1 W hW;refine⟨?_⟩;simp only[fill];go_simp
         first | exact⟨ae.refl _ _,rfl⟩ | exact⟨ae.alloc _ _,rfl⟩
        simp only[af];refine ls ?_;simp only[af];apply ak
        ·intro W vals hW ag
         simp only[knows]at ag
         try simp only[ai]at ag
         clear ag;have m:=MY W hW;refine⟨?_⟩;simp only[fill];go_simp
         first | exact⟨ae.refl _ _,rfl⟩ | exact⟨ae.alloc _ _,rfl⟩
        iterate 2
         simp only[af];refine ls ?_
        simp only[af];apply ak
        ·intro W vals hW ag
         simp only[knows]at ag
         try simp only[ai]at ag
         clear ag;have m0:=M2 W hW;refine⟨?_⟩;simp only[fill];go_simp
         first | exact⟨ae.refl _ _,rfl⟩ | exact⟨ae.alloc _ _,rfl⟩
        simp only[af];refine ls ?_;simp only[af];refine aq (λW vals hW ag=> ?_);simp only[aw]at ag
        try simp only[ai]at ag
        simp only[fill,Act.put,bo,bn,bh];clear ag M1 M2 MX MY xa;have FQ:=zh (HR.o.2.ah hW);clear hW
        go_wp2_with fail
        exact⟨⟨j+1,by omega,by go_num,zh ⟨HS.o (by first | rfl | trivial),FQ.o⟩⟩,by simp[intOf];omega⟩
       ·have hq:(x !=y)=true:=by simpa using hxy
        have PQ:(x==y)=false:=by simpa using hxy
        have HD:=zh (show decide (p=q)=false from aZ (jt.o hxy))
        go_wp2_with fail
        refine aB _ (by kernel_rfl) rfl (by kernel_rfl) ?_;refine ls ?_;simp only[af];apply ak
        ·intro W vals hW ag
         simp only[knows]at ag
         try simp only[ai]at ag
         clear ag;have m:=MX W hW;refine⟨?_⟩;simp only[fill];go_simp
         first | exact⟨ae.refl _ _,rfl⟩ | exact⟨ae.alloc _ _,rfl⟩
        iterate 2
         simp only[af];refine ls ?_
        simp only[af];apply ak
        ·intro W vals hW ag
         simp only[knows]at ag
         try simp only[ai]at ag
         clear ag;have m0:=M1 W hW;refine⟨?_⟩;simp only[fill];go_simp
         first | exact⟨ae.refl _ _,rfl⟩ | exact⟨ae.alloc _ _,rfl⟩
        simp only[af];refine ls ?_;simp only[af];apply ak
        ·intro W vals hW ag
         simp only[knows]at ag
         try simp only[ai]at ag
         clear ag;have m:=MY W hW;refine⟨?_⟩;simp only[fill];go_simp
         first | exact⟨ae.refl _ _,rfl⟩ | exact⟨ae.alloc _ _,rfl⟩
        iterate 2
         simp only[af];refine ls ?_
        simp only[af];apply ak
        ·intro W vals hW ag
         simp only[knows]at ag
         try simp only[ai]at ag
         clear ag;have m0:=M2 W hW;refine⟨?_⟩;simp only[fill];go_simp
         first | exact⟨ae.refl _ _,rfl⟩ | exact⟨ae.alloc _ _,rfl⟩
        simp only[af];refine ls ?_;simp only[af];refine aq (λW vals hW ag=> ?_);simp only[aw]at ag
        try simp only[ai]at ag
        simp only[fill,Act.put,bo,bn,bh];clear ag M1 M2 MX MY xa;have FQ:=zh (HR.o.2.ah hW);clear hW
        go_wp2_with fail
        go_ret;exact⟨by rw[HD.o];rfl,HB.o.1.ah (HK.o.ah FQ.o)⟩
      ·obtain rfl:j=(p.fs).length:=by omega
       have VR:=zh (show(p.fs)=(q.fs)from by
        have:=HR.o.1;rw[eQ,DV.o,eQ]at this;exact this)
       replace HK:=zh mI.o;obtain⟨w8,KE⟩:∃w8,wr=w8:=⟨_,rfl⟩;rw[KE]at HK xa ⊢
       clear HR mI hjl hj KE
       go_upto_region 18 with fail
       clear xa hm;have RA:=zh (λW hW=>HB.o.2.1.keeps (HK.o.ah (w'' :=W) hW));have RB:=zh (λW hW=>HB.o.2.2.keeps (HK.o.ah (w'' :=W) hW));refine av ax _ 47 rfl (by kernel_rfl) (by kernel_rfl) (λ_=>ae.refl _ _) (λ_ _ _ h k=>h.trans k (by simp)) ?_;simp only[dc,dg,dF,dK];refine lq (.pointer (some ⟨a,0,none⟩)) ?_;refine ll 22 (.tmp 89) ⟨a,0,none⟩ (.int .i64 p.k) (λW hW=>((RA.o W hW).cell 0).trans XA.o.c0) ?_;refine lq (.pointer (some ⟨b,0,none⟩)) ?_;refine ll 22 (.tmp 91) ⟨b,0,none⟩ (.int .i64 q.k) (λW hW=>((RB.o W hW).cell 0).trans XB.o.c0) ?_;refine lq (.bool (p.k==q.k)) ?_;obtain⟨z1,hz1⟩:∃z,((p.k==q.k))=z:=⟨_,rfl⟩;rw[hz1];have Z1:=zh hz1;clear hz1;refine lq (.bool z1) ?_;refine lg (acc:=z1) (.pointer (some ⟨a,1,none⟩)) ?_;refine rv (acc:=z1) 4 (.tmp 95) (.bool p.dup) RA.o XA.o.c1 ?_;refine lg (acc:=z1) (.pointer (some ⟨b,1,none⟩)) ?_;refine rv (acc:=z1) 4 (.tmp 97) (.bool q.dup) RB.o XB.o.c1 ?_;refine lg (acc:=z1) (.bool (p.dup==q.dup)) ?_;refine lq (.bool (z1 && (p.dup==q.dup))) ?_ (h:=by intro _ _;cases z1 <;> kernel_rfl);obtain⟨z2,hz2⟩:∃z,(z1 && (p.dup==q.dup))=z:=⟨_,rfl⟩;rw[hz2];have Z2:=zh hz2;clear hz2;refine lq (.bool z2) ?_;refine lg (acc:=z2) (.pointer (some ⟨a,2,none⟩)) ?_;refine rv (acc:=z2) 4 (.tmp 102) (.bool p.ret) RA.o XA.o.c2 ?_;refine lg (acc:=z2) (.pointer (some ⟨b,2,none⟩)) ?_;refine rv (acc:=z2) 4 (.tmp 104) (.bool q.ret) RB.o XB.o.c2 ?_;refine lg (acc:=z2) (.bool (p.ret==q.ret)) ?_;refine lq (.bool (z2 && (p.ret==q.ret))) ?_ (h:=by intro _ _;cases z2 <;> kernel_rfl);obtain⟨z3,hz3⟩:∃z,(z2 && (p.ret==q.ret))=z:=⟨_,rfl⟩;rw[hz3];have Z3:=zh hz3;clear hz3;refine lq (.bool z3) ?_;refine lg (acc:=z3) (.pointer (some ⟨a,3,none⟩)) ?_;refine rv (acc:=z3) 3 (.tmp 109) (.int .i64 p.q) RA.o XA.o.c3 ?_;refine lg (acc:=z3) (.pointer (some ⟨b,3,none⟩)) ?_;refine rv (acc:=z3) 3 (.tmp 111) (.int .i64 q.q) RB.o XB.o.c3 ?_;refine lg (acc:=z3) (.bool (p.q==q.q)) ?_;refine lq (.bool (z3 && (p.q==q.q))) ?_ (h:=by intro _ _;cases z3 <;> kernel_rfl);obtain⟨z4,KD⟩:∃z,(z3 && (p.q==q.q))=z:=⟨_,rfl⟩;rw[KD];have Z4:=zh KD;clear KD;refine lq (.bool z4) ?_;refine lg (acc:=z4) (.pointer (some ⟨a,4,none⟩)) ?_;refine rv (acc:=z4) 9 (.tmp 116) (.string ⟨p.t.toArray⟩) RA.o XA.o.c4 ?_;refine lg (acc:=z4) (.pointer (some ⟨b,4,none⟩)) ?_;refine rv (acc:=z4) 9 (.tmp 118) (.string ⟨q.t.toArray⟩) RB.o XB.o.c4 ?_;refine lg (acc:=z4) (.bool ((⟨p.t.toArray⟩:ByteArray).toList==(⟨q.t.toArray⟩:ByteArray).toList)) ?_;refine lq (.bool (z4 && ((⟨p.t.toArray⟩:ByteArray).toList==(⟨q.t.toArray⟩:ByteArray).toList))) ?_ (h:=by intro _ _;cases z4 <;> kernel_rfl);obtain⟨z5,QN⟩:∃z,(z4 && ((⟨p.t.toArray⟩:ByteArray).toList==(⟨q.t.toArray⟩:ByteArray).toList))=z:=⟨_,rfl⟩;rw[QN];have Z5:=zh QN;clear QN;refine lq (.bool z5) ?_;refine lg (acc:=z5) (.pointer (some ⟨a,5,none⟩)) ?_;refine rv (acc:=z5) 9 (.tmp 123) (.string ⟨p.b.toArray⟩) RA.o XA.o.c5 ?_;refine lg (acc:=z5) (.pointer (some ⟨b,5,none⟩)) ?_
       refine rv (acc:=z5) 9 (.tmp 125) (.string ⟨q.b.toArray⟩) RB.o XB.o.c5 ?_;refine lg (acc:=z5) (.bool ((⟨p.b.toArray⟩:ByteArray).toList==(⟨q.b.toArray⟩:ByteArray).toList)) ?_;refine lq (.bool (z5 && ((⟨p.b.toArray⟩:ByteArray).toList==(⟨q.b.toArray⟩:ByteArray).toList))) ?_ (h:=by intro _ _;cases z5 <;> kernel_rfl);obtain⟨z6,QM⟩:∃z,(z5 && ((⟨p.b.toArray⟩:ByteArray).toList==(⟨q.b.toArray⟩:ByteArray).toList))=z:=⟨_,rfl⟩;rw[QM];have Z6:=zh QM;clear QM;refine lq (.bool z6) ?_;refine lg (acc:=z6) (.pointer (some ⟨a,6,none⟩)) ?_;refine rv (acc:=z6) 2 (.tmp 130) (.int .i64 p.id) RA.o XA.o.c6 ?_;refine lg (acc:=z6) (.pointer (some ⟨b,6,none⟩)) ?_;refine rv (acc:=z6) 2 (.tmp 132) (.int .i64 q.id) RB.o XB.o.c6 ?_;refine lg (acc:=z6) (.bool (p.id==q.id)) ?_;refine lq (.bool (z6 && (p.id==q.id))) ?_ (h:=by intro _ _;cases z6 <;> kernel_rfl);obtain⟨z7,QL⟩:∃z,(z6 && (p.id==q.id))=z:=⟨_,rfl⟩;rw[QL];have Z7:=zh QL;clear QL;refine aq (λW vals hW ag=> ?_);simp only[af,aw]at ag
       try simp only[ai]at ag
       simp only[af,fill,Act.put,bo,bn,bh];clear ag;replace HK:=zh (HK.o.ah hW);clear RA RB;clear hW
       go_upto_region 19 with fail
       have RA:=zh (λW hW=>HB.o.2.1.keeps (HK.o.ah (w'' :=W) hW));have RB:=zh (λW hW=>HB.o.2.2.keeps (HK.o.ah (w'' :=W) hW));refine av ax _ 33 rfl (by kernel_rfl) (by kernel_rfl) (λ_=>ae.refl _ _) (λ_ _ _ h k=>h.trans k (by simp)) ?_;simp only[dc,dg,dF,dK];refine lq (.pointer (some ⟨a,7,none⟩)) ?_;refine ll 9 (.tmp 136) ⟨a,7,none⟩ (.string ⟨p.c.toArray⟩) (λW hW=>((RA.o W hW).cell 7).trans XA.o.c7) ?_;refine lq (.pointer (some ⟨b,7,none⟩)) ?_;refine ll 9 (.tmp 138) ⟨b,7,none⟩ (.string ⟨q.c.toArray⟩) (λW hW=>((RB.o W hW).cell 7).trans XB.o.c7) ?_;refine lq (.bool ((⟨p.c.toArray⟩:ByteArray).toList==(⟨q.c.toArray⟩:ByteArray).toList)) ?_;obtain⟨z8,QK⟩:∃z,(((⟨p.c.toArray⟩:ByteArray).toList==(⟨q.c.toArray⟩:ByteArray).toList))=z:=⟨_,rfl⟩;rw[QK];have Z8:=zh QK;clear QK;refine lq (.bool z8) ?_;refine lg (acc:=z8) (.pointer (some ⟨a,8,none⟩)) ?_;refine rv (acc:=z8) 4 (.tmp 142) (.bool p.cl) RA.o XA.o.c8 ?_;refine lg (acc:=z8) (.pointer (some ⟨b,8,none⟩)) ?_;refine rv (acc:=z8) 4 (.tmp 144) (.bool q.cl) RB.o XB.o.c8 ?_;refine lg (acc:=z8) (.bool (p.cl==q.cl)) ?_;refine lq (.bool (z8 && (p.cl==q.cl))) ?_ (h:=by intro _ _;cases z8 <;> kernel_rfl);obtain⟨z9,QJ⟩:∃z,(z8 && (p.cl==q.cl))=z:=⟨_,rfl⟩;rw[QJ];have Z9:=zh QJ;clear QJ;refine lq (.bool z9) ?_;refine lg (acc:=z9) (.pointer (some ⟨a,9,none⟩)) ?_;refine rv (acc:=z9) 2 (.tmp 149) (.int .i64 p.keep) RA.o XA.o.c9 ?_;refine lg (acc:=z9) (.pointer (some ⟨b,9,none⟩)) ?_;refine rv (acc:=z9) 2 (.tmp 151) (.int .i64 q.keep) RB.o XB.o.c9 ?_;refine lg (acc:=z9) (.bool (p.keep==q.keep)) ?_;refine lq (.bool (z9 && (p.keep==q.keep))) ?_ (h:=by intro _ _;cases z9 <;> kernel_rfl);obtain⟨Ji,LC⟩:∃z,(z9 && (p.keep==q.keep))=z:=⟨_,rfl⟩;rw[LC];have Vh:=zh LC;clear LC;refine lq (.bool Ji) ?_;refine lg (acc:=Ji) (.pointer (some ⟨a,10,none⟩)) ?_;refine rv (acc:=Ji) 4 (.tmp 156) (.bool p.hw) RA.o XA.o.c10 ?_;refine lg (acc:=Ji) (.pointer (some ⟨b,10,none⟩)) ?_;refine rv (acc:=Ji) 4 (.tmp 158) (.bool q.hw) RB.o XB.o.c10 ?_;refine lg (acc:=Ji) (.bool (p.hw==q.hw)) ?_;refine lq (.bool (Ji && (p.hw==q.hw))) ?_ (h:=by intro _ _;cases Ji <;> kernel_rfl);obtain⟨Jh,LB⟩:∃z,(Ji && (p.hw==q.hw))=z:=⟨_,rfl⟩;rw[LB];have Vg:=zh LB;clear LB;refine lq (.bool Jh) ?_;refine lg (acc:=Jh) (.pointer (some ⟨a,11,none⟩)) ?_;refine SC (acc:=Jh) 24 (.tmp 163) [.string ⟨p.wt.toArray⟩,.string ⟨p.wb.toArray⟩,.int .i64 p.wq,.bool p.wr] underlying24 RA.o XA.o.will ?_;refine lg (acc:=Jh) (.pointer (some ⟨b,11,none⟩)) ?_;refine SC (acc:=Jh) 24 (.tmp 165) [.string ⟨q.wt.toArray⟩,.string ⟨q.wb.toArray⟩,.int .i64 q.wq,.bool q.wr] underlying24 RB.o XB.o.will ?_;refine lg (acc:=Jh) (.bool (lZ p q)) ?_ (λh W vals hW=>FG rfl (by subst h;kernel_rfl) (by subst h;kernel_rfl) (by kernel_rfl) (λW=>yw 9998 p q W));refine lq (.bool (Jh && lZ p q)) ?_ (h:=by intro _ _;cases Jh <;> kernel_rfl);obtain⟨z12,LA⟩:∃z,(Jh && lZ p q)=z:=⟨_,rfl⟩
       rw[LA];have Vf:=zh LA;clear LA;refine aq (λW vals hW ag=> ?_);simp only[af,aw]at ag
       try simp only[ai]at ag
       simp only[af,fill,Act.put,bo,bn,bh];clear ag;replace HK:=zh (HK.o.ah hW);clear RA RB;clear hW
       go_upto_region 20 with fail
       have RA:=zh (λW hW=>HB.o.2.1.keeps (HK.o.ah (w'' :=W) hW));have RB:=zh (λW hW=>HB.o.2.2.keeps (HK.o.ah (w'' :=W) hW));refine av ax _ 46 rfl (by kernel_rfl) (by kernel_rfl) (λ_=>ae.refl _ _) (λ_ _ _ h k=>h.trans k (by simp)) ?_;simp only[dc,dg,dF,dK]
       iterate 2
        refine lq (.bool z7) ?_
       refine lg (acc:=z7) (.bool z12) ?_;refine lq (.bool (z7 && z12)) ?_ (h:=by intro _ _;cases z7 <;> kernel_rfl);obtain⟨Jg,Lz⟩:∃z,(z7 && z12)=z:=⟨_,rfl⟩;rw[Lz];have Ve:=zh Lz;clear Lz;refine lq (.bool Jg) ?_;refine lg (acc:=Jg) (.pointer (some ⟨a,15,none⟩)) ?_;refine rv (acc:=Jg) 4 (.tmp 174) (.bool p.hu) RA.o XA.o.c15 ?_;refine lg (acc:=Jg) (.pointer (some ⟨b,15,none⟩)) ?_;refine rv (acc:=Jg) 4 (.tmp 176) (.bool q.hu) RB.o XB.o.c15 ?_;refine lg (acc:=Jg) (.bool (p.hu==q.hu)) ?_;refine lq (.bool (Jg && (p.hu==q.hu))) ?_ (h:=by intro _ _;cases Jg <;> kernel_rfl);obtain⟨Jf,Ly⟩:∃z,(Jg && (p.hu==q.hu))=z:=⟨_,rfl⟩;rw[Ly];have Vd:=zh Ly;clear Ly;refine lq (.bool Jf) ?_;refine lg (acc:=Jf) (.pointer (some ⟨a,16,none⟩)) ?_;refine rv (acc:=Jf) 4 (.tmp 181) (.bool p.hp) RA.o XA.o.c16 ?_;refine lg (acc:=Jf) (.pointer (some ⟨b,16,none⟩)) ?_;refine rv (acc:=Jf) 4 (.tmp 183) (.bool q.hp) RB.o XB.o.c16 ?_;refine lg (acc:=Jf) (.bool (p.hp==q.hp)) ?_;refine lq (.bool (Jf && (p.hp==q.hp))) ?_ (h:=by intro _ _;cases Jf <;> kernel_rfl);obtain⟨Je,Lx⟩:∃z,(Jf && (p.hp==q.hp))=z:=⟨_,rfl⟩;rw[Lx];have U_:=zh Lx;clear Lx;refine lq (.bool Je) ?_;refine lg (acc:=Je) (.pointer (some ⟨a,17,none⟩)) ?_;refine rv (acc:=Je) 9 (.tmp 188) (.string ⟨p.u.toArray⟩) RA.o XA.o.c17 ?_;refine lg (acc:=Je) (.pointer (some ⟨b,17,none⟩)) ?_;refine rv (acc:=Je) 9 (.tmp 190) (.string ⟨q.u.toArray⟩) RB.o XB.o.c17 ?_;refine lg (acc:=Je) (.bool ((⟨p.u.toArray⟩:ByteArray).toList==(⟨q.u.toArray⟩:ByteArray).toList)) ?_;refine lq (.bool (Je && ((⟨p.u.toArray⟩:ByteArray).toList==(⟨q.u.toArray⟩:ByteArray).toList))) ?_ (h:=by intro _ _;cases Je <;> kernel_rfl);obtain⟨Jd,Lw⟩:∃z,(Je && ((⟨p.u.toArray⟩:ByteArray).toList==(⟨q.u.toArray⟩:ByteArray).toList))=z:=⟨_,rfl⟩;rw[Lw];have U9:=zh Lw;clear Lw;refine lq (.bool Jd) ?_;refine lg (acc:=Jd) (.pointer (some ⟨a,18,none⟩)) ?_;refine rv (acc:=Jd) 9 (.tmp 195) (.string ⟨p.pw.toArray⟩) RA.o XA.o.c18 ?_;refine lg (acc:=Jd) (.pointer (some ⟨b,18,none⟩)) ?_;refine rv (acc:=Jd) 9 (.tmp 197) (.string ⟨q.pw.toArray⟩) RB.o XB.o.c18 ?_;refine lg (acc:=Jd) (.bool ((⟨p.pw.toArray⟩:ByteArray).toList==(⟨q.pw.toArray⟩:ByteArray).toList)) ?_;refine lq (.bool (Jd && ((⟨p.pw.toArray⟩:ByteArray).toList==(⟨q.pw.toArray⟩:ByteArray).toList))) ?_ (h:=by intro _ _;cases Jd <;> kernel_rfl);obtain⟨Jc,Lv⟩:∃z,(Jd && ((⟨p.pw.toArray⟩:ByteArray).toList==(⟨q.pw.toArray⟩:ByteArray).toList))=z:=⟨_,rfl⟩;rw[Lv];have U8:=zh Lv;clear Lv;refine lq (.bool Jc) ?_;refine lg (acc:=Jc) (.pointer (some ⟨a,19,none⟩)) ?_;refine rv (acc:=Jc) 4 (.tmp 202) (.bool p.pr) RA.o XA.o.c19 ?_;refine lg (acc:=Jc) (.pointer (some ⟨b,19,none⟩)) ?_;refine rv (acc:=Jc) 4 (.tmp 204) (.bool q.pr) RB.o XB.o.c19 ?_;refine lg (acc:=Jc) (.bool (p.pr==q.pr)) ?_;refine lq (.bool (Jc && (p.pr==q.pr))) ?_ (h:=by intro _ _;cases Jc <;> kernel_rfl);obtain⟨Jb,Lu⟩:∃z,(Jc && (p.pr==q.pr))=z:=⟨_,rfl⟩
       rw[Lu];have U7:=zh Lu;clear Lu;refine lq (.bool Jb) ?_;refine lg (acc:=Jb) (.pointer (some ⟨a,20,none⟩)) ?_;refine rv (acc:=Jb) 3 (.tmp 209) (.int .i64 p.code) RA.o XA.o.c20 ?_;refine lg (acc:=Jb) (.pointer (some ⟨b,20,none⟩)) ?_;refine rv (acc:=Jb) 3 (.tmp 211) (.int .i64 q.code) RB.o XB.o.c20 ?_;refine lg (acc:=Jb) (.bool (p.code==q.code)) ?_;refine lq (.bool (Jb && (p.code==q.code))) ?_ (h:=by intro _ _;cases Jb <;> kernel_rfl);obtain⟨Uc,Lt⟩:∃z,(Jb && (p.code==q.code))=z:=⟨_,rfl⟩;rw[Lt];have U6:=zh Lt;clear Lt;refine aq (λW vals hW ag=> ?_);simp only[af,aw]at ag
       try simp only[ai]at ag
       simp only[af,fill,Act.put,bo,bn,bh];clear ag;replace HK:=zh (HK.o.ah hW);clear RA RB;clear hW
       go_wp2_with fail
       have HF:=zh (show Uc=decide (p=q)from by
        rw[<-U6.o];rw[<-U7.o];rw[<-U8.o];rw[<-U9.o];rw[<-U_.o];rw[<-Vd.o];rw[<-Ve.o];rw[<-Vf.o];rw[<-Vg.o];rw[<-Vh.o];rw[<-Z9.o];rw[<-Z8.o];rw[<-Z7.o];rw[<-Z6.o];rw[<-Z5.o];rw[<-Z4.o];rw[<-Z3.o];rw[<-Z2.o];rw[<-Z1.o];exact Hg VU.o VT.o VR.o)
       go_ret;exact⟨by rw[HF.o];rfl,HB.o.1.ah HK.o⟩
theorem mg (p q:Pk)(sw sc sf zO zR zQ:Value)(w:au)(h1:fR w p sw sc sf)(h2:fR w q zO zR zQ)(hl:p.wants.length<=1000000/\p.aF.length<=1000000/\p.fs.length<=1000000):
  Calls prog 16 #[eO p sw sc sf,eO q zO zR zQ] w (aJ w (decide (p=q))):=by
 obtain⟨A1,d1,A2,d2,A3,d3,rfl,rfl,rfl⟩:=h1.slices;obtain⟨B1,e1,B2,e2,B3,e3,rfl,rfl,rfl⟩:=h2.slices;exact yF p q _ _ A1 A2 A3 B1 B2 B3 d1 d2 d3 e1 e2 e3 w (by constructor <;> rfl) (by constructor <;> rfl) h1 h2 hl
end Go.Proofs.YtahbikfbjenfpaaGreatDoor
