/- A drawn region that reads one box and writes into another one. The reference of packets: alone (printed by genpr3.py). -/
import Derived.Test.YtahbikfbjenfpaaGreatDoorPa44
import Derived.Test.YtahbikfbjenfpaaGreatDoorPa20
import Derived.Test.YtahbikfbjenfpaaGreatDoorPa40
set_option maxHeartbeats 8000000
set_option maxRecDepth 100000
namespace Go.Proofs.YtahbikfbjenfpaaGreatDoor
open Tryz Go.RowKit

/-- Block b alone changes, and there each cell stays or turns to what F says. -/
structure bT (b:Nat)(t:TypeId)(F:Array Value)(w w' :au):Prop where
 k:ae w w' [b]
 r:∀Z:Array Value,Row w b t Z->∃Z' :Array Value,Row w' b t Z' /\Z'.size=Z.size/\∀i:Nat,Z'[i]? =Z[i]?\/Z'[i]? =F[i]?
section
variable {b:Nat} {t:TypeId} {F:Array Value} {w w' w'' :au}
theorem bT.of (h:ae w w' []):bT b t F w w' :=⟨h.weaken (by simp),λZ hr=>⟨Z,hr.keeps h,rfl,λ_=> .inl rfl⟩⟩
theorem bT.refl (w:au):bT b t F w w:= .of (ae.refl _ _)
theorem bT.trans (h:bT b t F w w')(k:bT b t F w' w''):bT b t F w w'' :=
 ⟨h.k.trans k.k (λ_ hx _=>hx),λZ hr=>by
  obtain⟨Z1,r1,s1,c1⟩:=h.r Z hr;obtain⟨Z2,r2,s2,c2⟩:=k.r Z1 r1;refine⟨Z2,r2,s2.trans s1,λi=> ?_⟩
  rcases c2 i with c | c
  ·rcases c1 i with c' | c'
   ·exact .inl (c.trans c')
   ·exact .inr (c.trans c')
  ·exact .inr c⟩
theorem bT.row {a:Nat}{t' :TypeId}{X:Array Value}(h:bT b t F w w')(hr:Row w a t' X)(hne:a≠b):Row w' a t' X:=hr.keep h.k (by simpa using hne)
/-- What a cell holds that is as F says stays so. -/
theorem bT.done (h:bT b t F w w'){i:Nat}(hb:∃Z,Row w b t Z)(hf:∀Z:Array Value,Row w b t Z->Z[i]? =F[i]?):∀Z:Array Value,Row w' b t Z->Z[i]? =F[i]? :=λZ hr=>by
 obtain⟨Z0,r0⟩:=hb;obtain⟨Z1,r1,_,c1⟩:=h.r Z0 r0;obtain rfl:Z=Z1:=by
  unfold Row at hr r1;rw[hr]at r1;injection r1 with r1
  injection r1
 rcases c1 i with c | c
 ·rw[c];exact hf Z0 r0
 ·exact c
end
/-- Cells of block b that are as F says. -/
def lH (b:Nat)(t:TypeId)(F:Array Value)(i n:Nat)(w:au):Prop:=∀j,j < n->∀Z:Array Value,Row w b t Z->Z[i+j]? =F[i+j]?
theorem bT.step {b:Nat}{t:TypeId}{F Z0:Array Value}{w w' :au}{i n:Nat}(h0:Row w b t Z0)(h:∃(_:Value) (W0:au),bT b t F w W0/\bT b t F W0 w' /\lH b t F i n W0):lH b t F i n w' :=λj hj=>by
 obtain⟨_,W0,h1,h2,h3⟩:=h;obtain⟨Z1,r1,_⟩:=h1.r Z0 h0;exact h2.done ⟨Z1,r1⟩ (h3 j hj)
theorem bT.fin {b:Nat}{t:TypeId}{F Z0:Array Value}{w w' :au}(h:bT b t F w w')(h0:Row w b t Z0)(hs:Z0.size=F.size)(hd:∀i,i < F.size->Z0[i]? =F[i]?\/∃m n,m<=i/\i < m+n/\lH b t F m n w'):Row w' b t F:=by
 obtain⟨Z1,r1,s1,c1⟩:=h.r Z0 h0;have:Z1=F:=by
  apply xA;intro i
  by_cases hi:i < F.size
  ·rcases hd i hi with e | ⟨m,n,g1,g2,g3⟩
   ·rcases c1 i with c | c
    ·rw[c,e]
    ·exact c
   ·have:=g3 (i - m) (by omega) Z1 r1
    rwa [show m+(i - m)=i by omega]at this
  ·rw[tW (by omega),tW (by omega)]
 rw[<-this];exact r1
theorem ji {P:Program}(w:au)(b o:Nat)(ty:TypeId)(v:Value)(ht:w.there b o v.cells.size)(hi:(P.info? ty).map (·.size)=some v.cells.size)(h1:v.cells.all (·.oneCell')=true):
  (Instr.storeAt ty (.pointer (some ⟨b,o,none⟩)) v).run P w= .ok () (w.setCells b o v.cells.toList):=
 run_storeAt_mid w b o ty v.cells ht hi h1
section
variable {P:Program} {w0:au} {ops:Array Oper} {a0:Act} {Q:List fQ->Prop} {o:Oper} {rest:List Oper} {env:List fQ} {b:Nat} {t:TypeId} {F:Array Value}
theorem fV {id:Nat}{Q:Exit->Act->au->Prop}{a:Act}{w:au}{l:List Oper}(b:Nat)(t:TypeId)(F:Array Value)(n:Nat)(hm:P.follows .mixedOrders=true)(hn:a.tmps.size=n)(hB:f_ n l.toArray=true)
  (h:ba P (bT b t F) w l.toArray a (λenv=>∀W vals,bT b t F w W->aw (bT b t F) w vals W env->Q .normal (fill vals env a) W) l []):(Code.region id l.toArray true).wp P Q a w:=
 ow (bT b t F) w n hm hn hB bT.refl (λ_ _ _ h k=>h.trans k) (.of (ae.drew _)) h
/-- One that computes. -/
theorem pq (v:Value)(hk:ba P (bT b t F) w0 ops a0 Q rest (af o.dst (some v) [] (λ_ _ _=>True) env))
  (hw:∀vals:Tmp->Value,Region.wanted o (yielded ops (fill vals env a0).tmps)=true:=by intro _;kernel_rfl) (h:∀(W:au) (vals:Tmp->Value),(execOp (fill vals env a0).eval o).run P W= .ok (.value v) W:=by intro _ _;kernel_rfl):ba P (bT b t F) w0 ops a0 Q (o::rest) env:=
 ak v (λW vals _ _=>⟨by rw[aE (hw vals),h];exact⟨bT.refl _,rfl⟩⟩) hk
/-- One that reads a cell of a box that stays. -/
theorem pl {a i:Nat}{t' :TypeId}{X:Array Value}(ty:TypeId)(x:Operand)(v:Value)(hne:a≠b)(hr:Row w0 a t' X)(hc:X[i]? =some v)(hk:ba P (bT b t F) w0 ops a0 Q rest (af o.dst (some v) [] (λ_ _ _=>True) env))(ho:o.op= .load ty x:=by rfl)
  (hw:∀vals:Tmp->Value,Region.wanted o (yielded ops (fill vals env a0).tmps)=true:=by intro _;kernel_rfl) (hx:∀vals,(fill vals env a0).eval x= .pointer (some ⟨a,i,none⟩):=by intro _;kernel_rfl) (ht:∀W,(isAgg ty).run P W= .ok false W:=by intro _;kernel_rfl):ba P (bT b t F) w0 ops a0 Q (o::rest) env:=
 ak v (λW vals hW _=>⟨by rw[aE (hw vals),wk ho (hx vals) ht ((bT.row hW hr hne).cell i |>.trans hc)];exact⟨bT.refl _,rfl⟩⟩) hk
/-- One that reads some cells of a box that stays. -/
theorem pw {a i:Nat}{t' :TypeId}{X:Array Value}(ty:TypeId)(x:Operand)(cs:List Value){d:TypeDesc}(hu:P.underlying ty=some d)(hne:a≠b)(hr:Row w0 a t' X)(hc:∀j,j < cs.length->X[i+j]? =cs[j]?)(hk:ba P (bT b t F) w0 ops a0 Q rest (af o.dst (some (.agg cs.toArray)) [] (λ_ _ _=>True) env))(ho:o.op= .load ty x:=by rfl)(hd:d.isRow=true:=by rfl)(hi:(P.info? ty).map (·.size)=some cs.length:=by kernel_rfl)
  (hw:∀vals:Tmp->Value,Region.wanted o (yielded ops (fill vals env a0).tmps)=true:=by intro _;kernel_rfl) (hx:∀vals,(fill vals env a0).eval x= .pointer (some ⟨a,i,none⟩):=by intro _;kernel_rfl):ba P (bT b t F) w0 ops a0 Q (o::rest) env:=
 ak _ (λW vals hW _=>⟨by
  rw[aE (hw vals),wm ho (hx vals) (λj v hv=>by
   rw[(bT.row hW hr hne).cell,hc j (List.getElem?_eq_some_iff.1 hv).1,hv]) hu hd hi]
  exact⟨bT.refl _,rfl⟩⟩) hk
/-- One that writes. -/
theorem wR {i:Nat}{Z0:Array Value}(ty:TypeId)(x y:Operand)(v:Value)(hr:Row w0 b t Z0)(hf:∀j,j < v.cells.size->F[i+j]? =v.cells[j]?)(hs:i+v.cells.size<=Z0.size)(h1:v.cells.all (·.oneCell')=true)(hk:ba P (bT b t F) w0 ops a0 Q rest (af o.dst none [] (λ_ _ W' =>lH b t F i v.cells.size W') env))(ho:o.op= .store ty x y:=by rfl)
  (hw:∀vals:Tmp->Value,Region.wanted o (yielded ops (fill vals env a0).tmps)=true:=by intro _;kernel_rfl) (hx:∀vals,(fill vals env a0).eval x= .pointer (some ⟨b,i,none⟩):=by intro _;kernel_rfl) (hy:∀vals,(fill vals env a0).eval y=v:=by intro _;kernel_rfl) (hi:(P.info? ty).map (·.size)=some v.cells.size:=by kernel_rfl):ba P (bT b t F) w0 ops a0 Q (o::rest) env:=
 bH _ (λW vals hW _ φ' hφ=>⟨by
  obtain⟨Z,hz,hzs,_⟩:=hW.r Z0 hr;have hrun:=ji (P:=P) W b i ty v (hz.there (by omega)) hi h1;have h2:=hz.setCells v.cells.toList i;have hget:∀m,m < Z.size->(setFrom v.cells.toList i Z)[m]? =if i<=m/\m < i+v.cells.toList.length then v.cells.toList[m - i]? else Z[m]? :=λm hm=>oW _ _ _ _ hm
  rw[aE (hw vals)];unfold execOp;simp only[ho,hx,hy,fo,hrun,fk,gq];refine⟨⟨ae.setCells _ _ _,λZ' hr' => ?_⟩,hφ.o _ _ λj hj Z' hr' => ?_⟩
  ·obtain rfl:Z' =Z:=by
    unfold Row at hr' hz;rw[hr']at hz;injection hz with hz
    injection hz
   refine⟨_,h2,kI _ _ _,λm=> ?_⟩
   by_cases hm:m < Z'.size
   ·rw[hget m hm]
    split
    ·rename_i hm2
     rw[xG]at hm2;have:=hf (m - i) (by omega);rw[show i+(m - i)=m by omega]at this;rw[this,uS];exact .inr rfl
    ·exact .inl rfl
   ·exact .inl (by rw[tW (by rw[kI];omega),tW (by omega)])
  ·obtain rfl:Z' =setFrom v.cells.toList i Z:=by
    unfold Row at hr' h2;rw[hr']at h2;injection h2 with h2
    injection h2
   rw[hget _ (by omega),aE ⟨by omega,by rw[xG];omega⟩,hf j hj,uS,show i+j - i=j by omega]⟩) hk
end

theorem oG {F:Array Value}{i:Nat}{v:Value}(h:F[i]? =some v)(hv:v.cells= #[v]:=by rfl):∀j,j < v.cells.size->F[i+j]? =v.cells[j]? :=λj hj=>by
 rw[hv]at hj ⊢
 obtain rfl:j=0:=by simp at hj;omega
 exact h
theorem Qw {F:Array Value}{i:Nat}{a b c d:Value}(h0:F[i]? =some a)(h1:F[i+1]? =some b)(h2:F[i+2]? =some c)(h3:F[i+3]? =some d):∀j,j < (Value.agg #[a,b,c,d]).cells.size->F[i+j]? =(Value.agg #[a,b,c,d]).cells[j]? :=λj hj=>by
 have Ux:j < 4:=hj;obtain rfl | rfl | rfl | rfl:j=0\/j=1\/j=2\/j=3:=by omega
 ·exact h0
 ·exact h1
 ·exact h2
 ·exact h3
/-- What alone answers. -/
def oo (w:au)(p:Pk)(sw sc sf:Value)(e:Ending)(w' :au):Prop:=∃rK rO rN,e= .returned (eO (aL p) rK rO rN)/\(∀W,fR W p sw sc sf->fR W (aL p) rK rO rN)/\ae w w' []
theorem TA {p:Pk}(h:p.k=1):aL p= {bN with k:=p.k,c:=p.c,cl:=p.cl,keep:=p.keep,hw:=p.hw,wt:=p.wt,wb:=p.wb,wq:=p.wq,wr:=p.wr,hu:=p.hu,hp:=p.hp,u:=p.u,pw:=p.pw}:=by unfold aL;rw[aE h]
theorem Tz {p:Pk}(h:p.k=2):aL p= {bN with k:=p.k,pr:=p.pr,code:=p.code}:=by unfold aL;rw[aj (by omega),aE h]
theorem Ty {p:Pk}(h:p.k=3):aL p= {bN with k:=p.k,t:=p.t,b:=p.b,q:=p.q,ret:=p.ret,dup:=p.dup,id:=p.id}:=by unfold aL;rw[aj (by omega),aj (by omega),aE h]
theorem Tw {p:Pk}(h:p.k=8):aL p= {bN with k:=p.k,id:=p.id,wants:=p.wants}:=by unfold aL;rw[aj (by omega),aj (by omega),aj (by omega),aE h]
theorem Tv {p:Pk}(h:p.k=9):aL p= {bN with k:=p.k,id:=p.id,aF:=p.aF}:=by unfold aL;rw[aj (by omega),aj (by omega),aj (by omega),aj (by omega),aE h]
theorem OO {p:Pk}(h:p.k=10):aL p= {bN with k:=p.k,id:=p.id,fs:=p.fs}:=by unfold aL;rw[aj (by omega),aj (by omega),aj (by omega),aj (by omega),aj (by omega),aE h]
theorem OM {p:Pk}(h:p.k=12\/p.k=13\/p.k=14):aL p= {bN with k:=p.k}:=by unfold aL;rw[aj (by omega),aj (by omega),aj (by omega),aj (by omega),aj (by omega),aj (by omega),aE h]
theorem Tx {p:Pk}(h:p.k=4\/p.k=5\/p.k=6\/p.k=7\/p.k=11):aL p= {bN with k:=p.k,id:=p.id}:=by unfold aL;rw[aj (by omega),aj (by omega),aj (by omega),aj (by omega),aj (by omega),aj (by omega),aj (by omega)]
theorem BQ (p:Pk)(X:Array Value)(A1 A2 A3:Option Addr)(n1 n2 n3 c1 c2 c3:Nat)(w:au)(h:jA p X (.slice A1 n1 c1) (.slice A2 n2 c2) (.slice A3 n3 c3))(hk:p.k=1):Calls prog 25 #[.agg X] w (oo w p (.slice A1 n1 c1) (.slice A2 n2 c2) (.slice A3 n3 c3)):=by
 have HX:=zh h;have gp:=zh hk;clear h hk;obtain⟨W0,aV⟩:∃W0,(w.alloc (.cells X 29)).alloc (.cells eM 29)=W0:=⟨_,rfl⟩;have HA:=zh (show ae w W0 []/\Row W0 w.heap.size 29 X from by
  rw[<-aV];exact⟨(ae.alloc _ _).bX _,(Row.new _ _ _).alloc _⟩)
 have fw:=zh (show Row W0 (w.heap.size+1) 29 eM from by
  rw[<-aV];have:=Row.new (w.alloc (.cells X 29)) 29 eM
  rwa [qC]at this)
 have x0:=(HA.o.2.cell 0).trans HX.o.c0
 go_enter func25,ntmps25
 go_wp2_with (refine aQ rfl (.tmp 3) (.tmp 7) rfl (qz p.k 0) eM W0 rfl (by kernel_rfl) rfl (by simp[Value.oneCell']) rfl rfl ?_;intro w1 oB)
 refine zh ?_;have k1:ae W0 w1 []:=by rw[<-oB];exact ae.alloc _ _
 have HB:=zh (show Row w1 W0.heap.size 29 (qz p.k 0)from by rw[<-oB];exact Row.new _ _ _);obtain⟨b,hb⟩:∃b,W0.heap.size=b:=⟨_,rfl⟩;have oF:=zh (show w.heap.size+1 < b by have:=fw.o.lt;omega);have jt:=zh (show w.heap.size≠b by have:=oF.o;omega);replace HA:=zh (show ae w w1 []/\Row w1 w.heap.size 29 X from⟨HA.o.1.ah k1,HA.o.2.keeps k1⟩);replace fw:=zh (fw.o.keeps k1);rw[hb]at HB ⊢
 clear x0 k1 oB hb aV;have x0:=(HA.o.2.cell 0).trans HX.o.c0;have b1:(p.k==1)=true:=beq_iff_eq.2 gp.o
 go_upto_region 4 with fail
 refine fV b 29 (j_ p.k p.c p.cl p.keep p.hw p.wt p.wb p.wq p.wr p.hu p.hp p.u p.pw) _ (by kernel_rfl) rfl (by kernel_rfl) ?_;refine pq (.pointer (some ⟨w.heap.size,7,none⟩)) ?_;refine pl 9 (.tmp 13) (.string ⟨p.c.toArray⟩) jt.o HA.o.2 HX.o.c7 ?_;refine pq (.pointer (some ⟨w.heap.size,8,none⟩)) ?_;refine pl 4 (.tmp 15) (.bool p.cl) jt.o HA.o.2 HX.o.c8 ?_;refine pq (.pointer (some ⟨w.heap.size,9,none⟩)) ?_;refine pl 2 (.tmp 17) (.int .i64 p.keep) jt.o HA.o.2 HX.o.c9 ?_;refine pq (.pointer (some ⟨w.heap.size,10,none⟩)) ?_;refine pl 4 (.tmp 19) (.bool p.hw) jt.o HA.o.2 HX.o.c10 ?_;refine pq (.pointer (some ⟨w.heap.size,11,none⟩)) ?_;refine pw 24 (.tmp 21) [.string ⟨p.wt.toArray⟩,.string ⟨p.wb.toArray⟩,.int .i64 p.wq,.bool p.wr] underlying24 jt.o HA.o.2 HX.o.will ?_;refine pq (.pointer (some ⟨w.heap.size,15,none⟩)) ?_;refine pl 4 (.tmp 23) (.bool p.hu) jt.o HA.o.2 HX.o.c15 ?_;refine pq (.pointer (some ⟨w.heap.size,16,none⟩)) ?_;refine pl 4 (.tmp 25) (.bool p.hp) jt.o HA.o.2 HX.o.c16 ?_;refine pq (.pointer (some ⟨w.heap.size,17,none⟩)) ?_;refine pl 9 (.tmp 27) (.string ⟨p.u.toArray⟩) jt.o HA.o.2 HX.o.c17 ?_;refine pq (.pointer (some ⟨w.heap.size,18,none⟩)) ?_;refine pl 9 (.tmp 29) (.string ⟨p.pw.toArray⟩) jt.o HA.o.2 HX.o.c18 ?_;refine pq (.pointer (some ⟨b,7,none⟩)) ?_;refine wR (i:=7) 9 (.tmp 31) (.tmp 14) (.string ⟨p.c.toArray⟩) HB.o (oG rfl) (fL rfl) (by simp[Value.cells,Value.oneCell']) ?_;refine pq (.pointer (some ⟨b,8,none⟩)) ?_;refine wR (i:=8) 4 (.tmp 32) (.tmp 16) (.bool p.cl) HB.o (oG rfl) (fL rfl) (by simp[Value.cells,Value.oneCell']) ?_;refine pq (.pointer (some ⟨b,9,none⟩)) ?_;refine wR (i:=9) 2 (.tmp 33) (.tmp 18) (.int .i64 p.keep) HB.o (oG rfl) (fL rfl) (by simp[Value.cells,Value.oneCell']) ?_;refine pq (.pointer (some ⟨b,10,none⟩)) ?_;refine wR (i:=10) 4 (.tmp 34) (.tmp 20) (.bool p.hw) HB.o (oG rfl) (fL rfl) (by simp[Value.cells,Value.oneCell']) ?_;refine pq (.pointer (some ⟨b,11,none⟩)) ?_;refine wR (i:=11) 24 (.tmp 35) (.tmp 22) (.agg #[.string ⟨p.wt.toArray⟩,.string ⟨p.wb.toArray⟩,.int .i64 p.wq,.bool p.wr]) HB.o (Qw rfl rfl rfl rfl) (fL rfl) (by simp[Value.cells,Value.oneCell']) ?_;refine pq (.pointer (some ⟨b,15,none⟩)) ?_;refine wR (i:=15) 4 (.tmp 36) (.tmp 24) (.bool p.hu) HB.o (oG rfl) (fL rfl) (by simp[Value.cells,Value.oneCell']) ?_;refine pq (.pointer (some ⟨b,16,none⟩)) ?_;refine wR (i:=16) 4 (.tmp 37) (.tmp 26) (.bool p.hp) HB.o (oG rfl) (fL rfl) (by simp[Value.cells,Value.oneCell']) ?_;refine pq (.pointer (some ⟨b,17,none⟩)) ?_;refine wR (i:=17) 9 (.tmp 38) (.tmp 28) (.string ⟨p.u.toArray⟩) HB.o (oG rfl) (fL rfl) (by simp[Value.cells,Value.oneCell']) ?_;refine pq (.pointer (some ⟨b,18,none⟩)) ?_
 refine wR (i:=18) 9 (.tmp 39) (.tmp 30) (.string ⟨p.pw.toArray⟩) HB.o (oG rfl) (fL rfl) (by simp[Value.cells,Value.oneCell']) ?_;refine aq (λW9 vals hW ag=> ?_);simp only[af,aw]at ag;obtain⟨g18,g17,g16,g15,g11,g10,g9,g8,g7,_⟩:=ag;have d7:=bT.step (i:=7) (n:=1) HB.o g7;have d8:=bT.step (i:=8) (n:=1) HB.o g8;have d9:=bT.step (i:=9) (n:=1) HB.o g9;have d10:=bT.step (i:=10) (n:=1) HB.o g10;have d11:=bT.step (i:=11) (n:=4) HB.o g11;have d15:=bT.step (i:=15) (n:=1) HB.o g15;have d16:=bT.step (i:=16) (n:=1) HB.o g16;have d17:=bT.step (i:=17) (n:=1) HB.o g17;have d18:=bT.step (i:=18) (n:=1) HB.o g18;have HF:=zh (bT.fin hW HB.o rfl (λi hi=>by
  have hi4:i < 24:=hi
  match i,hi4 with
  | 0,_=>exact .inl rfl
  | 1,_=>exact .inl rfl
  | 2,_=>exact .inl rfl
  | 3,_=>exact .inl rfl
  | 4,_=>exact .inl rfl
  | 5,_=>exact .inl rfl
  | 6,_=>exact .inl rfl
  | 7,_=>exact .inr ⟨7,1,by omega,by omega,d7⟩
  | 8,_=>exact .inr ⟨8,1,by omega,by omega,d8⟩
  | 9,_=>exact .inr ⟨9,1,by omega,by omega,d9⟩
  | 10,_=>exact .inr ⟨10,1,by omega,by omega,d10⟩
  | 11,_=>exact .inr ⟨11,4,by omega,by omega,d11⟩
  | 12,_=>exact .inr ⟨11,4,by omega,by omega,d11⟩
  | 13,_=>exact .inr ⟨11,4,by omega,by omega,d11⟩
  | 14,_=>exact .inr ⟨11,4,by omega,by omega,d11⟩
  | 15,_=>exact .inr ⟨15,1,by omega,by omega,d15⟩
  | 16,_=>exact .inr ⟨16,1,by omega,by omega,d16⟩
  | 17,_=>exact .inr ⟨17,1,by omega,by omega,d17⟩
  | 18,_=>exact .inr ⟨18,1,by omega,by omega,d18⟩
  | 19,_=>exact .inl rfl
  | 20,_=>exact .inl rfl
  | 21,_=>exact .inl rfl
  | 22,_=>exact .inl rfl
  | 23,_=>exact .inl rfl
  | i+24,h=>omega))
 replace HA:=zh (show ae w W9 []/\Row W9 w.heap.size 29 X from⟨HA.o.1.trans hW.k (λy hy hlt=>by have:=oF.o;simp at hy;omega),HA.o.2.keep hW.k (by simpa using jt.o)⟩);replace fw:=zh (fw.o.keep hW.k (by have:=oF.o;simp;omega));clear g7 d7 g8 d8 g9 d9 g10 d10 g11 d11 g15 d15 g16 d16 g17 d17 g18 d18 hW;simp only[af,fill,Act.put,bo,bn,bh]
 go_upto_region 17 with fail
 refine cV ?_;refine bf (by kernel_rfl) rfl rfl HF.o underlying29 rfl (by kernel_rfl) ?_;refine wpList_store_row rfl (.tmp 2) (.tmp 95) 29 rfl (w.heap.size+1) (j_ p.k p.c p.cl p.keep p.hw p.wt p.wb p.wq p.wr p.hu p.hp p.u p.pw) eM fw.o (by kernel_rfl) rfl (by simp[Value.oneCell']) rfl rfl ?_;intro va ra ka;have HE:=zh (And.intro ra (HA.o.1.trans ka (λy hy hlt=>by simp at hy;omega)));clear ra ka;simp only[Act.put,bo,bn,bh];obtain⟨Y,hY⟩:∃Y:Array Value,(j_ p.k p.c p.cl p.keep p.hw p.wt p.wb p.wq p.wr p.hu p.hp p.u p.pw)=Y:=⟨_,rfl⟩;rw[hY]at HE
 go_wp2_with fail
 obtain⟨d,hu,hd⟩:=cI;refine bD (aW (s:=2) (cs:=Y.toList) rfl rfl (aD HE.o.1) hu hd (by rw[<-hY];kernel_rfl)) rfl ⟨.slice none 0 0,.slice none 0 0,.slice none 0 0, ?_, ?_,HE.o.2⟩
 ·rw[<-hY,TA gp.o]
  rfl
 ·intro W hl
  rw[TA gp.o];exact fR.empty rfl rfl rfl
theorem BP (p:Pk)(X:Array Value)(A1 A2 A3:Option Addr)(n1 n2 n3 c1 c2 c3:Nat)(w:au)(h:jA p X (.slice A1 n1 c1) (.slice A2 n2 c2) (.slice A3 n3 c3))(hk:p.k=2):Calls prog 25 #[.agg X] w (oo w p (.slice A1 n1 c1) (.slice A2 n2 c2) (.slice A3 n3 c3)):=by
 have HX:=zh h;have gp:=zh hk;clear h hk;obtain⟨W0,aV⟩:∃W0,(w.alloc (.cells X 29)).alloc (.cells eM 29)=W0:=⟨_,rfl⟩;have HA:=zh (show ae w W0 []/\Row W0 w.heap.size 29 X from by
  rw[<-aV];exact⟨(ae.alloc _ _).bX _,(Row.new _ _ _).alloc _⟩)
 have fw:=zh (show Row W0 (w.heap.size+1) 29 eM from by
  rw[<-aV];have:=Row.new (w.alloc (.cells X 29)) 29 eM
  rwa [qC]at this)
 have x0:=(HA.o.2.cell 0).trans HX.o.c0
 go_enter func25,ntmps25
 go_wp2_with (refine aQ rfl (.tmp 3) (.tmp 7) rfl (qz p.k 0) eM W0 rfl (by kernel_rfl) rfl (by simp[Value.oneCell']) rfl rfl ?_;intro w1 oB)
 refine zh ?_;have k1:ae W0 w1 []:=by rw[<-oB];exact ae.alloc _ _
 have HB:=zh (show Row w1 W0.heap.size 29 (qz p.k 0)from by rw[<-oB];exact Row.new _ _ _);obtain⟨b,hb⟩:∃b,W0.heap.size=b:=⟨_,rfl⟩;have oF:=zh (show w.heap.size+1 < b by have:=fw.o.lt;omega);have jt:=zh (show w.heap.size≠b by have:=oF.o;omega);replace HA:=zh (show ae w w1 []/\Row w1 w.heap.size 29 X from⟨HA.o.1.ah k1,HA.o.2.keeps k1⟩);replace fw:=zh (fw.o.keeps k1);rw[hb]at HB ⊢
 clear x0 k1 oB hb aV;have x0:=(HA.o.2.cell 0).trans HX.o.c0;have b1:(p.k==1)=false:=beq_eq_false_iff_ne.2 (by have:=gp.o;omega);have b2:(p.k==2)=true:=beq_iff_eq.2 gp.o
 go_upto_region 6 with fail
 refine fV b 29 (zP p.k false false 0 [] [] 0 [] false 0 false [] [] 0 false false false [] [] p.pr p.code aN aN aN) _ (by kernel_rfl) rfl (by kernel_rfl) ?_;refine pq (.pointer (some ⟨w.heap.size,19,none⟩)) ?_;refine pl 4 (.tmp 43) (.bool p.pr) jt.o HA.o.2 HX.o.c19 ?_;refine pq (.pointer (some ⟨w.heap.size,20,none⟩)) ?_;refine pl 3 (.tmp 45) (.int .i64 p.code) jt.o HA.o.2 HX.o.c20 ?_;refine pq (.pointer (some ⟨b,19,none⟩)) ?_;refine wR (i:=19) 4 (.tmp 47) (.tmp 44) (.bool p.pr) HB.o (oG rfl) (fL rfl) (by simp[Value.cells,Value.oneCell']) ?_;refine pq (.pointer (some ⟨b,20,none⟩)) ?_;refine wR (i:=20) 3 (.tmp 48) (.tmp 46) (.int .i64 p.code) HB.o (oG rfl) (fL rfl) (by simp[Value.cells,Value.oneCell']) ?_;refine aq (λW9 vals hW ag=> ?_);simp only[af,aw]at ag;obtain⟨g20,g19,_⟩:=ag;have d19:=bT.step (i:=19) (n:=1) HB.o g19;have d20:=bT.step (i:=20) (n:=1) HB.o g20;have HF:=zh (bT.fin hW HB.o rfl (λi hi=>by
  have hi4:i < 24:=hi
  match i,hi4 with
  | 0,_=>exact .inl rfl
  | 1,_=>exact .inl rfl
  | 2,_=>exact .inl rfl
  | 3,_=>exact .inl rfl
  | 4,_=>exact .inl rfl
  | 5,_=>exact .inl rfl
  | 6,_=>exact .inl rfl
  | 7,_=>exact .inl rfl
  | 8,_=>exact .inl rfl
  | 9,_=>exact .inl rfl
  | 10,_=>exact .inl rfl
  | 11,_=>exact .inl rfl
  | 12,_=>exact .inl rfl
  | 13,_=>exact .inl rfl
  | 14,_=>exact .inl rfl
  | 15,_=>exact .inl rfl
  | 16,_=>exact .inl rfl
  | 17,_=>exact .inl rfl
  | 18,_=>exact .inl rfl
  | 19,_=>exact .inr ⟨19,1,by omega,by omega,d19⟩
  | 20,_=>exact .inr ⟨20,1,by omega,by omega,d20⟩
  | 21,_=>exact .inl rfl
  | 22,_=>exact .inl rfl
  | 23,_=>exact .inl rfl
  | i+24,h=>omega))
 replace HA:=zh (show ae w W9 []/\Row W9 w.heap.size 29 X from⟨HA.o.1.trans hW.k (λy hy hlt=>by have:=oF.o;simp at hy;omega),HA.o.2.keep hW.k (by simpa using jt.o)⟩);replace fw:=zh (fw.o.keep hW.k (by have:=oF.o;simp;omega));clear g19 d19 g20 d20 hW;simp only[af,fill,Act.put,bo,bn,bh]
 go_upto_region 17 with fail
 refine cV ?_;refine bf (by kernel_rfl) rfl rfl HF.o underlying29 rfl (by kernel_rfl) ?_;refine wpList_store_row rfl (.tmp 2) (.tmp 95) 29 rfl (w.heap.size+1) (zP p.k false false 0 [] [] 0 [] false 0 false [] [] 0 false false false [] [] p.pr p.code aN aN aN) eM fw.o (by kernel_rfl) rfl (by simp[Value.oneCell']) rfl rfl ?_;intro va ra ka;have HE:=zh (And.intro ra (HA.o.1.trans ka (λy hy hlt=>by simp at hy;omega)));clear ra ka;simp only[Act.put,bo,bn,bh];obtain⟨Y,hY⟩:∃Y:Array Value,(zP p.k false false 0 [] [] 0 [] false 0 false [] [] 0 false false false [] [] p.pr p.code aN aN aN)=Y:=⟨_,rfl⟩;rw[hY]at HE
 go_wp2_with fail
 obtain⟨d,hu,hd⟩:=cI;refine bD (aW (s:=2) (cs:=Y.toList) rfl rfl (aD HE.o.1) hu hd (by rw[<-hY];kernel_rfl)) rfl ⟨.slice none 0 0,.slice none 0 0,.slice none 0 0, ?_, ?_,HE.o.2⟩
 ·rw[<-hY,Tz gp.o]
  rfl
 ·intro W hl
  rw[Tz gp.o];exact fR.empty rfl rfl rfl
theorem BO (p:Pk)(X:Array Value)(A1 A2 A3:Option Addr)(n1 n2 n3 c1 c2 c3:Nat)(w:au)(h:jA p X (.slice A1 n1 c1) (.slice A2 n2 c2) (.slice A3 n3 c3))(hk:p.k=3):Calls prog 25 #[.agg X] w (oo w p (.slice A1 n1 c1) (.slice A2 n2 c2) (.slice A3 n3 c3)):=by
 have HX:=zh h;have gp:=zh hk;clear h hk;obtain⟨W0,aV⟩:∃W0,(w.alloc (.cells X 29)).alloc (.cells eM 29)=W0:=⟨_,rfl⟩;have HA:=zh (show ae w W0 []/\Row W0 w.heap.size 29 X from by
  rw[<-aV];exact⟨(ae.alloc _ _).bX _,(Row.new _ _ _).alloc _⟩)
 have fw:=zh (show Row W0 (w.heap.size+1) 29 eM from by
  rw[<-aV];have:=Row.new (w.alloc (.cells X 29)) 29 eM
  rwa [qC]at this)
 have x0:=(HA.o.2.cell 0).trans HX.o.c0
 go_enter func25,ntmps25
 go_wp2_with (refine aQ rfl (.tmp 3) (.tmp 7) rfl (qz p.k 0) eM W0 rfl (by kernel_rfl) rfl (by simp[Value.oneCell']) rfl rfl ?_;intro w1 oB)
 refine zh ?_;have k1:ae W0 w1 []:=by rw[<-oB];exact ae.alloc _ _
 have HB:=zh (show Row w1 W0.heap.size 29 (qz p.k 0)from by rw[<-oB];exact Row.new _ _ _);obtain⟨b,hb⟩:∃b,W0.heap.size=b:=⟨_,rfl⟩;have oF:=zh (show w.heap.size+1 < b by have:=fw.o.lt;omega);have jt:=zh (show w.heap.size≠b by have:=oF.o;omega);replace HA:=zh (show ae w w1 []/\Row w1 w.heap.size 29 X from⟨HA.o.1.ah k1,HA.o.2.keeps k1⟩);replace fw:=zh (fw.o.keeps k1);rw[hb]at HB ⊢
 clear x0 k1 oB hb aV;have x0:=(HA.o.2.cell 0).trans HX.o.c0;have b1:(p.k==1)=false:=beq_eq_false_iff_ne.2 (by have:=gp.o;omega);have b2:(p.k==2)=false:=beq_eq_false_iff_ne.2 (by have:=gp.o;omega);have b3:(p.k==3)=true:=beq_iff_eq.2 gp.o
 go_upto_region 8 with fail
 refine fV b 29 (zP p.k p.dup p.ret p.q p.t p.b p.id [] false 0 false [] [] 0 false false false [] [] false 0 aN aN aN) _ (by kernel_rfl) rfl (by kernel_rfl) ?_;refine pq (.pointer (some ⟨w.heap.size,4,none⟩)) ?_;refine pl 9 (.tmp 52) (.string ⟨p.t.toArray⟩) jt.o HA.o.2 HX.o.c4 ?_;refine pq (.pointer (some ⟨w.heap.size,5,none⟩)) ?_;refine pl 9 (.tmp 54) (.string ⟨p.b.toArray⟩) jt.o HA.o.2 HX.o.c5 ?_;refine pq (.pointer (some ⟨w.heap.size,3,none⟩)) ?_;refine pl 3 (.tmp 56) (.int .i64 p.q) jt.o HA.o.2 HX.o.c3 ?_;refine pq (.pointer (some ⟨w.heap.size,2,none⟩)) ?_;refine pl 4 (.tmp 58) (.bool p.ret) jt.o HA.o.2 HX.o.c2 ?_;refine pq (.pointer (some ⟨w.heap.size,1,none⟩)) ?_;refine pl 4 (.tmp 60) (.bool p.dup) jt.o HA.o.2 HX.o.c1 ?_;refine pq (.pointer (some ⟨w.heap.size,6,none⟩)) ?_;refine pl 2 (.tmp 62) (.int .i64 p.id) jt.o HA.o.2 HX.o.c6 ?_;refine pq (.pointer (some ⟨b,4,none⟩)) ?_;refine wR (i:=4) 9 (.tmp 64) (.tmp 53) (.string ⟨p.t.toArray⟩) HB.o (oG rfl) (fL rfl) (by simp[Value.cells,Value.oneCell']) ?_;refine pq (.pointer (some ⟨b,5,none⟩)) ?_;refine wR (i:=5) 9 (.tmp 65) (.tmp 55) (.string ⟨p.b.toArray⟩) HB.o (oG rfl) (fL rfl) (by simp[Value.cells,Value.oneCell']) ?_;refine pq (.pointer (some ⟨b,3,none⟩)) ?_;refine wR (i:=3) 3 (.tmp 66) (.tmp 57) (.int .i64 p.q) HB.o (oG rfl) (fL rfl) (by simp[Value.cells,Value.oneCell']) ?_;refine pq (.pointer (some ⟨b,2,none⟩)) ?_;refine wR (i:=2) 4 (.tmp 67) (.tmp 59) (.bool p.ret) HB.o (oG rfl) (fL rfl) (by simp[Value.cells,Value.oneCell']) ?_;refine pq (.pointer (some ⟨b,1,none⟩)) ?_;refine wR (i:=1) 4 (.tmp 68) (.tmp 61) (.bool p.dup) HB.o (oG rfl) (fL rfl) (by simp[Value.cells,Value.oneCell']) ?_;refine pq (.pointer (some ⟨b,6,none⟩)) ?_;refine wR (i:=6) 2 (.tmp 69) (.tmp 63) (.int .i64 p.id) HB.o (oG rfl) (fL rfl) (by simp[Value.cells,Value.oneCell']) ?_;refine aq (λW9 vals hW ag=> ?_);simp only[af,aw]at ag;obtain⟨g6,g1,g2,g3,g5,g4,_⟩:=ag;have d4:=bT.step (i:=4) (n:=1) HB.o g4;have d5:=bT.step (i:=5) (n:=1) HB.o g5;have d3:=bT.step (i:=3) (n:=1) HB.o g3;have d2:=bT.step (i:=2) (n:=1) HB.o g2;have d1:=bT.step (i:=1) (n:=1) HB.o g1;have d6:=bT.step (i:=6) (n:=1) HB.o g6;have HF:=zh (bT.fin hW HB.o rfl (λi hi=>by
  have hi4:i < 24:=hi
  match i,hi4 with
  | 0,_=>exact .inl rfl
  | 1,_=>exact .inr ⟨1,1,by omega,by omega,d1⟩
  | 2,_=>exact .inr ⟨2,1,by omega,by omega,d2⟩
  | 3,_=>exact .inr ⟨3,1,by omega,by omega,d3⟩
  | 4,_=>exact .inr ⟨4,1,by omega,by omega,d4⟩
  | 5,_=>exact .inr ⟨5,1,by omega,by omega,d5⟩
  | 6,_=>exact .inr ⟨6,1,by omega,by omega,d6⟩
  | 7,_=>exact .inl rfl
  | 8,_=>exact .inl rfl
  | 9,_=>exact .inl rfl
  | 10,_=>exact .inl rfl
  | 11,_=>exact .inl rfl
  | 12,_=>exact .inl rfl
  | 13,_=>exact .inl rfl
  | 14,_=>exact .inl rfl
  | 15,_=>exact .inl rfl
  | 16,_=>exact .inl rfl
  | 17,_=>exact .inl rfl
  | 18,_=>exact .inl rfl
  | 19,_=>exact .inl rfl
  | 20,_=>exact .inl rfl
  | 21,_=>exact .inl rfl
  | 22,_=>exact .inl rfl
  | 23,_=>exact .inl rfl
  | i+24,h=>omega))
 replace HA:=zh (show ae w W9 []/\Row W9 w.heap.size 29 X from⟨HA.o.1.trans hW.k (λy hy hlt=>by have:=oF.o;simp at hy;omega),HA.o.2.keep hW.k (by simpa using jt.o)⟩);replace fw:=zh (fw.o.keep hW.k (by have:=oF.o;simp;omega));clear g4 d4 g5 d5 g3 d3 g2 d2 g1 d1 g6 d6 hW;simp only[af,fill,Act.put,bo,bn,bh]
 go_upto_region 17 with fail
 refine cV ?_;refine bf (by kernel_rfl) rfl rfl HF.o underlying29 rfl (by kernel_rfl) ?_;refine wpList_store_row rfl (.tmp 2) (.tmp 95) 29 rfl (w.heap.size+1) (zP p.k p.dup p.ret p.q p.t p.b p.id [] false 0 false [] [] 0 false false false [] [] false 0 aN aN aN) eM fw.o (by kernel_rfl) rfl (by simp[Value.oneCell']) rfl rfl ?_;intro va ra ka;have HE:=zh (And.intro ra (HA.o.1.trans ka (λy hy hlt=>by simp at hy;omega)));clear ra ka;simp only[Act.put,bo,bn,bh];obtain⟨Y,hY⟩:∃Y:Array Value,(zP p.k p.dup p.ret p.q p.t p.b p.id [] false 0 false [] [] 0 false false false [] [] false 0 aN aN aN)=Y:=⟨_,rfl⟩;rw[hY]at HE
 go_wp2_with fail
 obtain⟨d,hu,hd⟩:=cI;refine bD (aW (s:=2) (cs:=Y.toList) rfl rfl (aD HE.o.1) hu hd (by rw[<-hY];kernel_rfl)) rfl ⟨.slice none 0 0,.slice none 0 0,.slice none 0 0, ?_, ?_,HE.o.2⟩
 ·rw[<-hY,Ty gp.o]
  rfl
 ·intro W hl
  rw[Ty gp.o];exact fR.empty rfl rfl rfl
theorem zA (p:Pk)(X:Array Value)(A1 A2 A3:Option Addr)(n1 n2 n3 c1 c2 c3:Nat)(w:au)(h:jA p X (.slice A1 n1 c1) (.slice A2 n2 c2) (.slice A3 n3 c3))(hk:p.k=12\/p.k=13\/p.k=14):Calls prog 25 #[.agg X] w (oo w p (.slice A1 n1 c1) (.slice A2 n2 c2) (.slice A3 n3 c3)):=by
 have HX:=zh h;have gp:=zh hk;clear h hk;obtain⟨W0,aV⟩:∃W0,(w.alloc (.cells X 29)).alloc (.cells eM 29)=W0:=⟨_,rfl⟩;have HA:=zh (show ae w W0 []/\Row W0 w.heap.size 29 X from by
  rw[<-aV];exact⟨(ae.alloc _ _).bX _,(Row.new _ _ _).alloc _⟩)
 have fw:=zh (show Row W0 (w.heap.size+1) 29 eM from by
  rw[<-aV];have:=Row.new (w.alloc (.cells X 29)) 29 eM
  rwa [qC]at this)
 have x0:=(HA.o.2.cell 0).trans HX.o.c0
 go_enter func25,ntmps25
 go_wp2_with (refine aQ rfl (.tmp 3) (.tmp 7) rfl (qz p.k 0) eM W0 rfl (by kernel_rfl) rfl (by simp[Value.oneCell']) rfl rfl ?_;intro w1 oB)
 refine zh ?_;have k1:ae W0 w1 []:=by rw[<-oB];exact ae.alloc _ _
 have HB:=zh (show Row w1 W0.heap.size 29 (qz p.k 0)from by rw[<-oB];exact Row.new _ _ _);obtain⟨b,hb⟩:∃b,W0.heap.size=b:=⟨_,rfl⟩;have oF:=zh (show w.heap.size+1 < b by have:=fw.o.lt;omega);have jt:=zh (show w.heap.size≠b by have:=oF.o;omega);replace HA:=zh (show ae w w1 []/\Row w1 w.heap.size 29 X from⟨HA.o.1.ah k1,HA.o.2.keeps k1⟩);replace fw:=zh (fw.o.keeps k1);rw[hb]at HB ⊢
 clear x0 k1 oB hb aV;have x0:=(HA.o.2.cell 0).trans HX.o.c0;have b1:(p.k==1)=false:=beq_eq_false_iff_ne.2 (by have:=gp.o;omega);have b2:(p.k==2)=false:=beq_eq_false_iff_ne.2 (by have:=gp.o;omega);have b3:(p.k==3)=false:=beq_eq_false_iff_ne.2 (by have:=gp.o;omega);have b4:decide (p.k>=4)=true:=by have:=gp.o;simp;omega
 have b11:decide (p.k<=11)=false:=by have:=gp.o;simp;omega
 have HF:=zh HB.o
 go_upto_region 17 with fail
 refine cV ?_;refine bf (by kernel_rfl) rfl rfl HF.o underlying29 rfl (by kernel_rfl) ?_;refine wpList_store_row rfl (.tmp 2) (.tmp 95) 29 rfl (w.heap.size+1) (qz p.k 0) eM fw.o (by kernel_rfl) rfl (by simp[Value.oneCell']) rfl rfl ?_;intro va ra ka;have HE:=zh (And.intro ra (HA.o.1.trans ka (λy hy hlt=>by simp at hy;omega)));clear ra ka;simp only[Act.put,bo,bn,bh];obtain⟨Y,hY⟩:∃Y:Array Value,(qz p.k 0)=Y:=⟨_,rfl⟩;rw[hY]at HE
 go_wp2_with fail
 obtain⟨d,hu,hd⟩:=cI;refine bD (aW (s:=2) (cs:=Y.toList) rfl rfl (aD HE.o.1) hu hd (by rw[<-hY];kernel_rfl)) rfl ⟨.slice none 0 0,.slice none 0 0,.slice none 0 0, ?_, ?_,HE.o.2⟩
 ·rw[<-hY,OM gp.o]
  rfl
 ·intro W hl
  rw[OM gp.o];exact fR.empty rfl rfl rfl
theorem BN (p:Pk)(X:Array Value)(A1 A2 A3:Option Addr)(n1 n2 n3 c1 c2 c3:Nat)(w:au)(h:jA p X (.slice A1 n1 c1) (.slice A2 n2 c2) (.slice A3 n3 c3))(hk:p.k=4\/p.k=5\/p.k=6\/p.k=7\/p.k=11):Calls prog 25 #[.agg X] w (oo w p (.slice A1 n1 c1) (.slice A2 n2 c2) (.slice A3 n3 c3)):=by
 have HX:=zh h;have gp:=zh hk;clear h hk;obtain⟨W0,aV⟩:∃W0,(w.alloc (.cells X 29)).alloc (.cells eM 29)=W0:=⟨_,rfl⟩;have HA:=zh (show ae w W0 []/\Row W0 w.heap.size 29 X from by
  rw[<-aV];exact⟨(ae.alloc _ _).bX _,(Row.new _ _ _).alloc _⟩)
 have fw:=zh (show Row W0 (w.heap.size+1) 29 eM from by
  rw[<-aV];have:=Row.new (w.alloc (.cells X 29)) 29 eM
  rwa [qC]at this)
 have x0:=(HA.o.2.cell 0).trans HX.o.c0
 go_enter func25,ntmps25
 go_wp2_with (refine aQ rfl (.tmp 3) (.tmp 7) rfl (qz p.k 0) eM W0 rfl (by kernel_rfl) rfl (by simp[Value.oneCell']) rfl rfl ?_;intro w1 oB)
 refine zh ?_;have k1:ae W0 w1 []:=by rw[<-oB];exact ae.alloc _ _
 have HB:=zh (show Row w1 W0.heap.size 29 (qz p.k 0)from by rw[<-oB];exact Row.new _ _ _);obtain⟨b,hb⟩:∃b,W0.heap.size=b:=⟨_,rfl⟩;have oF:=zh (show w.heap.size+1 < b by have:=fw.o.lt;omega);have jt:=zh (show w.heap.size≠b by have:=oF.o;omega);replace HA:=zh (show ae w w1 []/\Row w1 w.heap.size 29 X from⟨HA.o.1.ah k1,HA.o.2.keeps k1⟩);replace fw:=zh (fw.o.keeps k1);rw[hb]at HB ⊢
 clear x0 k1 oB hb aV;have x0:=(HA.o.2.cell 0).trans HX.o.c0;have b1:(p.k==1)=false:=beq_eq_false_iff_ne.2 (by have:=gp.o;omega);have b2:(p.k==2)=false:=beq_eq_false_iff_ne.2 (by have:=gp.o;omega);have b3:(p.k==3)=false:=beq_eq_false_iff_ne.2 (by have:=gp.o;omega);have b4:decide (p.k>=4)=true:=by have:=gp.o;simp;omega
 have b11:decide (p.k<=11)=true:=by have:=gp.o;simp;omega
 have b8:(p.k==8)=false:=beq_eq_false_iff_ne.2 (by have:=gp.o;omega);have b9:(p.k==9)=false:=beq_eq_false_iff_ne.2 (by have:=gp.o;omega);have b10:(p.k==10)=false:=beq_eq_false_iff_ne.2 (by have:=gp.o;omega);have x6:=(HA.o.2.cell 6).trans HX.o.c6;have y6:=HB.o.cell 6;have f6:=HB.o.frozen 6;simp only[cg,bU,fe]at y6
 go_upto_region 11 with fail
 obtain⟨w2,hw2⟩:∃w2,w1.setCell ⟨b,6,none⟩ (.int .i64 p.id)=w2:=⟨_,rfl⟩;have k2:ae w1 w2 [b]:=by rw[<-hw2];exact ae.setCell _ _ _
 have jP:=zh (show Row w2 b 29 (qz p.k p.id)by rw[<-hw2];exact HB.o.store 6 _);replace HA:=zh (show ae w w2 []/\Row w2 w.heap.size 29 X from⟨HA.o.1.trans k2 (λy hy hlt=>by have:=oF.o;simp at hy;omega),HA.o.2.keep k2 (by simpa using jt.o)⟩);replace fw:=zh (fw.o.keep k2 (by have:=oF.o;simp;omega));rw[hw2];clear hw2 k2 x6 y6 f6 x0;have HF:=zh jP.o
 go_upto_region 17 with fail
 refine cV ?_;refine bf (by kernel_rfl) rfl rfl HF.o underlying29 rfl (by kernel_rfl) ?_;refine wpList_store_row rfl (.tmp 2) (.tmp 95) 29 rfl (w.heap.size+1) (qz p.k p.id) eM fw.o (by kernel_rfl) rfl (by simp[Value.oneCell']) rfl rfl ?_;intro va ra ka;have HE:=zh (And.intro ra (HA.o.1.trans ka (λy hy hlt=>by simp at hy;omega)));clear ra ka;simp only[Act.put,bo,bn,bh];obtain⟨Y,hY⟩:∃Y:Array Value,(qz p.k p.id)=Y:=⟨_,rfl⟩;rw[hY]at HE
 go_wp2_with fail
 obtain⟨d,hu,hd⟩:=cI;refine bD (aW (s:=2) (cs:=Y.toList) rfl rfl (aD HE.o.1) hu hd (by rw[<-hY];kernel_rfl)) rfl ⟨.slice none 0 0,.slice none 0 0,.slice none 0 0, ?_, ?_,HE.o.2⟩
 ·rw[<-hY,Tx gp.o]
  rfl
 ·intro W hl
  rw[Tx gp.o];exact fR.empty rfl rfl rfl
theorem BM (p:Pk)(X:Array Value)(A1 A2 A3:Option Addr)(n1 n2 n3 c1 c2 c3:Nat)(w:au)(h:jA p X (.slice A1 n1 c1) (.slice A2 n2 c2) (.slice A3 n3 c3))(hk:p.k=8):Calls prog 25 #[.agg X] w (oo w p (.slice A1 n1 c1) (.slice A2 n2 c2) (.slice A3 n3 c3)):=by
 have HX:=zh h;have gp:=zh hk;clear h hk;obtain⟨W0,aV⟩:∃W0,(w.alloc (.cells X 29)).alloc (.cells eM 29)=W0:=⟨_,rfl⟩;have HA:=zh (show ae w W0 []/\Row W0 w.heap.size 29 X from by
  rw[<-aV];exact⟨(ae.alloc _ _).bX _,(Row.new _ _ _).alloc _⟩)
 have fw:=zh (show Row W0 (w.heap.size+1) 29 eM from by
  rw[<-aV];have:=Row.new (w.alloc (.cells X 29)) 29 eM
  rwa [qC]at this)
 have x0:=(HA.o.2.cell 0).trans HX.o.c0
 go_enter func25,ntmps25
 go_wp2_with (refine aQ rfl (.tmp 3) (.tmp 7) rfl (qz p.k 0) eM W0 rfl (by kernel_rfl) rfl (by simp[Value.oneCell']) rfl rfl ?_;intro w1 oB)
 refine zh ?_;have k1:ae W0 w1 []:=by rw[<-oB];exact ae.alloc _ _
 have HB:=zh (show Row w1 W0.heap.size 29 (qz p.k 0)from by rw[<-oB];exact Row.new _ _ _);obtain⟨b,hb⟩:∃b,W0.heap.size=b:=⟨_,rfl⟩;have oF:=zh (show w.heap.size+1 < b by have:=fw.o.lt;omega);have jt:=zh (show w.heap.size≠b by have:=oF.o;omega);replace HA:=zh (show ae w w1 []/\Row w1 w.heap.size 29 X from⟨HA.o.1.ah k1,HA.o.2.keeps k1⟩);replace fw:=zh (fw.o.keeps k1);rw[hb]at HB ⊢
 clear x0 k1 oB hb aV;have x0:=(HA.o.2.cell 0).trans HX.o.c0;have b1:(p.k==1)=false:=beq_eq_false_iff_ne.2 (by have:=gp.o;omega);have b2:(p.k==2)=false:=beq_eq_false_iff_ne.2 (by have:=gp.o;omega);have b3:(p.k==3)=false:=beq_eq_false_iff_ne.2 (by have:=gp.o;omega);have b4:decide (p.k>=4)=true:=by have:=gp.o;simp;omega
 have b11:decide (p.k<=11)=true:=by have:=gp.o;simp;omega
 have b8:(p.k==8)=true:=beq_iff_eq.2 gp.o;have x6:=(HA.o.2.cell 6).trans HX.o.c6;have y6:=HB.o.cell 6;have f6:=HB.o.frozen 6;simp only[cg,bU,fe]at y6
 go_upto_region 11 with fail
 obtain⟨w2,hw2⟩:∃w2,w1.setCell ⟨b,6,none⟩ (.int .i64 p.id)=w2:=⟨_,rfl⟩;have k2:ae w1 w2 [b]:=by rw[<-hw2];exact ae.setCell _ _ _
 have jP:=zh (show Row w2 b 29 (qz p.k p.id)by rw[<-hw2];exact HB.o.store 6 _);replace HA:=zh (show ae w w2 []/\Row w2 w.heap.size 29 X from⟨HA.o.1.trans k2 (λy hy hlt=>by have:=oF.o;simp at hy;omega),HA.o.2.keep k2 (by simpa using jt.o)⟩);replace fw:=zh (fw.o.keep k2 (by have:=oF.o;simp;omega));rw[hw2];clear hw2 k2 x6 y6 f6 x0;have xl:=(HA.o.2.cell 21).trans HX.o.IZ;have yl:=jP.o.cell 21;have fl:=jP.o.frozen 21;simp only[cg,bU,fe]at yl
 go_upto_region 17 with fail
 obtain⟨w3,Dm⟩:∃w3,w2.setCell ⟨b,21,none⟩ (.slice A1 n1 c1)=w3:=⟨_,rfl⟩;have k3:ae w2 w3 [b]:=by rw[<-Dm];exact ae.setCell _ _ _
 have HF:=zh (show Row w3 b 29 (tf p.k p.id (.slice A1 n1 c1) aN aN)by rw[<-Dm];exact jP.o.store 21 _);replace HA:=zh (show ae w w3 []/\Row w3 w.heap.size 29 X from⟨HA.o.1.trans k3 (λy hy hlt=>by have:=oF.o;simp at hy;omega),HA.o.2.keep k3 (by simpa using jt.o)⟩);replace fw:=zh (fw.o.keep k3 (by have:=oF.o;simp;omega));rw[Dm];clear Dm k3 xl yl fl;refine cV ?_;refine bf (by kernel_rfl) rfl rfl HF.o underlying29 rfl (by kernel_rfl) ?_;refine wpList_store_row rfl (.tmp 2) (.tmp 95) 29 rfl (w.heap.size+1) (tf p.k p.id (.slice A1 n1 c1) aN aN) eM fw.o (by kernel_rfl) rfl (by simp[Value.oneCell']) rfl rfl ?_;intro va ra ka;have HE:=zh (And.intro ra (HA.o.1.trans ka (λy hy hlt=>by simp at hy;omega)));clear ra ka;simp only[Act.put,bo,bn,bh];obtain⟨Y,hY⟩:∃Y:Array Value,(tf p.k p.id (.slice A1 n1 c1) aN aN)=Y:=⟨_,rfl⟩;rw[hY]at HE
 go_wp2_with fail
 obtain⟨d,hu,hd⟩:=cI;refine bD (aW (s:=2) (cs:=Y.toList) rfl rfl (aD HE.o.1) hu hd (by rw[<-hY];kernel_rfl)) rfl ⟨.slice A1 n1 c1,.slice none 0 0,.slice none 0 0, ?_, ?_,HE.o.2⟩
 ·rw[<-hY,Tw gp.o]
  rfl
 ·intro W hl
  rw[Tw gp.o];obtain⟨A,c,e,h⟩:=hl.lw;exact⟨⟨A,c,e,h⟩,⟨none,0,rfl,cY.nil _ _ _ _⟩,⟨none,0,rfl,cY.nil _ _ _ _⟩⟩
theorem BL (p:Pk)(X:Array Value)(A1 A2 A3:Option Addr)(n1 n2 n3 c1 c2 c3:Nat)(w:au)(h:jA p X (.slice A1 n1 c1) (.slice A2 n2 c2) (.slice A3 n3 c3))(hk:p.k=9):Calls prog 25 #[.agg X] w (oo w p (.slice A1 n1 c1) (.slice A2 n2 c2) (.slice A3 n3 c3)):=by
 have HX:=zh h;have gp:=zh hk;clear h hk;obtain⟨W0,aV⟩:∃W0,(w.alloc (.cells X 29)).alloc (.cells eM 29)=W0:=⟨_,rfl⟩;have HA:=zh (show ae w W0 []/\Row W0 w.heap.size 29 X from by
  rw[<-aV];exact⟨(ae.alloc _ _).bX _,(Row.new _ _ _).alloc _⟩)
 have fw:=zh (show Row W0 (w.heap.size+1) 29 eM from by
  rw[<-aV];have:=Row.new (w.alloc (.cells X 29)) 29 eM
  rwa [qC]at this)
 have x0:=(HA.o.2.cell 0).trans HX.o.c0
 go_enter func25,ntmps25
 go_wp2_with (refine aQ rfl (.tmp 3) (.tmp 7) rfl (qz p.k 0) eM W0 rfl (by kernel_rfl) rfl (by simp[Value.oneCell']) rfl rfl ?_;intro w1 oB)
 refine zh ?_;have k1:ae W0 w1 []:=by rw[<-oB];exact ae.alloc _ _
 have HB:=zh (show Row w1 W0.heap.size 29 (qz p.k 0)from by rw[<-oB];exact Row.new _ _ _);obtain⟨b,hb⟩:∃b,W0.heap.size=b:=⟨_,rfl⟩;have oF:=zh (show w.heap.size+1 < b by have:=fw.o.lt;omega);have jt:=zh (show w.heap.size≠b by have:=oF.o;omega);replace HA:=zh (show ae w w1 []/\Row w1 w.heap.size 29 X from⟨HA.o.1.ah k1,HA.o.2.keeps k1⟩);replace fw:=zh (fw.o.keeps k1);rw[hb]at HB ⊢
 clear x0 k1 oB hb aV;have x0:=(HA.o.2.cell 0).trans HX.o.c0;have b1:(p.k==1)=false:=beq_eq_false_iff_ne.2 (by have:=gp.o;omega);have b2:(p.k==2)=false:=beq_eq_false_iff_ne.2 (by have:=gp.o;omega);have b3:(p.k==3)=false:=beq_eq_false_iff_ne.2 (by have:=gp.o;omega);have b4:decide (p.k>=4)=true:=by have:=gp.o;simp;omega
 have b11:decide (p.k<=11)=true:=by have:=gp.o;simp;omega
 have b8:(p.k==8)=false:=beq_eq_false_iff_ne.2 (by have:=gp.o;omega);have b9:(p.k==9)=true:=beq_iff_eq.2 gp.o;have x6:=(HA.o.2.cell 6).trans HX.o.c6;have y6:=HB.o.cell 6;have f6:=HB.o.frozen 6;simp only[cg,bU,fe]at y6
 go_upto_region 11 with fail
 obtain⟨w2,hw2⟩:∃w2,w1.setCell ⟨b,6,none⟩ (.int .i64 p.id)=w2:=⟨_,rfl⟩;have k2:ae w1 w2 [b]:=by rw[<-hw2];exact ae.setCell _ _ _
 have jP:=zh (show Row w2 b 29 (qz p.k p.id)by rw[<-hw2];exact HB.o.store 6 _);replace HA:=zh (show ae w w2 []/\Row w2 w.heap.size 29 X from⟨HA.o.1.trans k2 (λy hy hlt=>by have:=oF.o;simp at hy;omega),HA.o.2.keep k2 (by simpa using jt.o)⟩);replace fw:=zh (fw.o.keep k2 (by have:=oF.o;simp;omega));rw[hw2];clear hw2 k2 x6 y6 f6 x0;have xl:=(HA.o.2.cell 22).trans HX.o.KQ;have yl:=jP.o.cell 22;have fl:=jP.o.frozen 22;simp only[cg,bU,fe]at yl
 go_upto_region 17 with fail
 obtain⟨w3,Dm⟩:∃w3,w2.setCell ⟨b,22,none⟩ (.slice A2 n2 c2)=w3:=⟨_,rfl⟩;have k3:ae w2 w3 [b]:=by rw[<-Dm];exact ae.setCell _ _ _
 have HF:=zh (show Row w3 b 29 (tf p.k p.id aN (.slice A2 n2 c2) aN)by rw[<-Dm];exact jP.o.store 22 _);replace HA:=zh (show ae w w3 []/\Row w3 w.heap.size 29 X from⟨HA.o.1.trans k3 (λy hy hlt=>by have:=oF.o;simp at hy;omega),HA.o.2.keep k3 (by simpa using jt.o)⟩);replace fw:=zh (fw.o.keep k3 (by have:=oF.o;simp;omega));rw[Dm];clear Dm k3 xl yl fl;refine cV ?_;refine bf (by kernel_rfl) rfl rfl HF.o underlying29 rfl (by kernel_rfl) ?_;refine wpList_store_row rfl (.tmp 2) (.tmp 95) 29 rfl (w.heap.size+1) (tf p.k p.id aN (.slice A2 n2 c2) aN) eM fw.o (by kernel_rfl) rfl (by simp[Value.oneCell']) rfl rfl ?_;intro va ra ka;have HE:=zh (And.intro ra (HA.o.1.trans ka (λy hy hlt=>by simp at hy;omega)));clear ra ka;simp only[Act.put,bo,bn,bh];obtain⟨Y,hY⟩:∃Y:Array Value,(tf p.k p.id aN (.slice A2 n2 c2) aN)=Y:=⟨_,rfl⟩;rw[hY]at HE
 go_wp2_with fail
 obtain⟨d,hu,hd⟩:=cI;refine bD (aW (s:=2) (cs:=Y.toList) rfl rfl (aD HE.o.1) hu hd (by rw[<-hY];kernel_rfl)) rfl ⟨.slice none 0 0,.slice A2 n2 c2,.slice none 0 0, ?_, ?_,HE.o.2⟩
 ·rw[<-hY,Tv gp.o]
  rfl
 ·intro W hl
  rw[Tv gp.o];obtain⟨A,c,e,h⟩:=hl.lc;exact⟨⟨none,0,rfl,cY.nil _ _ _ _⟩,⟨A,c,e,h⟩,⟨none,0,rfl,cY.nil _ _ _ _⟩⟩
theorem zB (p:Pk)(X:Array Value)(A1 A2 A3:Option Addr)(n1 n2 n3 c1 c2 c3:Nat)(w:au)(h:jA p X (.slice A1 n1 c1) (.slice A2 n2 c2) (.slice A3 n3 c3))(hk:p.k=10):Calls prog 25 #[.agg X] w (oo w p (.slice A1 n1 c1) (.slice A2 n2 c2) (.slice A3 n3 c3)):=by
 have HX:=zh h;have gp:=zh hk;clear h hk;obtain⟨W0,aV⟩:∃W0,(w.alloc (.cells X 29)).alloc (.cells eM 29)=W0:=⟨_,rfl⟩;have HA:=zh (show ae w W0 []/\Row W0 w.heap.size 29 X from by
  rw[<-aV];exact⟨(ae.alloc _ _).bX _,(Row.new _ _ _).alloc _⟩)
 have fw:=zh (show Row W0 (w.heap.size+1) 29 eM from by
  rw[<-aV];have:=Row.new (w.alloc (.cells X 29)) 29 eM
  rwa [qC]at this)
 have x0:=(HA.o.2.cell 0).trans HX.o.c0
 go_enter func25,ntmps25
 go_wp2_with (refine aQ rfl (.tmp 3) (.tmp 7) rfl (qz p.k 0) eM W0 rfl (by kernel_rfl) rfl (by simp[Value.oneCell']) rfl rfl ?_;intro w1 oB)
 refine zh ?_;have k1:ae W0 w1 []:=by rw[<-oB];exact ae.alloc _ _
 have HB:=zh (show Row w1 W0.heap.size 29 (qz p.k 0)from by rw[<-oB];exact Row.new _ _ _);obtain⟨b,hb⟩:∃b,W0.heap.size=b:=⟨_,rfl⟩;have oF:=zh (show w.heap.size+1 < b by have:=fw.o.lt;omega);have jt:=zh (show w.heap.size≠b by have:=oF.o;omega);replace HA:=zh (show ae w w1 []/\Row w1 w.heap.size 29 X from⟨HA.o.1.ah k1,HA.o.2.keeps k1⟩);replace fw:=zh (fw.o.keeps k1);rw[hb]at HB ⊢
 clear x0 k1 oB hb aV;have x0:=(HA.o.2.cell 0).trans HX.o.c0;have b1:(p.k==1)=false:=beq_eq_false_iff_ne.2 (by have:=gp.o;omega);have b2:(p.k==2)=false:=beq_eq_false_iff_ne.2 (by have:=gp.o;omega);have b3:(p.k==3)=false:=beq_eq_false_iff_ne.2 (by have:=gp.o;omega);have b4:decide (p.k>=4)=true:=by have:=gp.o;simp;omega
 have b11:decide (p.k<=11)=true:=by have:=gp.o;simp;omega
 have b8:(p.k==8)=false:=beq_eq_false_iff_ne.2 (by have:=gp.o;omega);have b9:(p.k==9)=false:=beq_eq_false_iff_ne.2 (by have:=gp.o;omega);have b10:(p.k==10)=true:=beq_iff_eq.2 gp.o;have x6:=(HA.o.2.cell 6).trans HX.o.c6;have y6:=HB.o.cell 6;have f6:=HB.o.frozen 6;simp only[cg,bU,fe]at y6
 go_upto_region 11 with fail
 obtain⟨w2,hw2⟩:∃w2,w1.setCell ⟨b,6,none⟩ (.int .i64 p.id)=w2:=⟨_,rfl⟩;have k2:ae w1 w2 [b]:=by rw[<-hw2];exact ae.setCell _ _ _
 have jP:=zh (show Row w2 b 29 (qz p.k p.id)by rw[<-hw2];exact HB.o.store 6 _);replace HA:=zh (show ae w w2 []/\Row w2 w.heap.size 29 X from⟨HA.o.1.trans k2 (λy hy hlt=>by have:=oF.o;simp at hy;omega),HA.o.2.keep k2 (by simpa using jt.o)⟩);replace fw:=zh (fw.o.keep k2 (by have:=oF.o;simp;omega));rw[hw2];clear hw2 k2 x6 y6 f6 x0;have xl:=(HA.o.2.cell 23).trans HX.o.KO;have yl:=jP.o.cell 23;have fl:=jP.o.frozen 23;simp only[cg,bU,fe]at yl
 go_upto_region 17 with fail
 obtain⟨w3,Dm⟩:∃w3,w2.setCell ⟨b,23,none⟩ (.slice A3 n3 c3)=w3:=⟨_,rfl⟩;have k3:ae w2 w3 [b]:=by rw[<-Dm];exact ae.setCell _ _ _
 have HF:=zh (show Row w3 b 29 (tf p.k p.id aN aN (.slice A3 n3 c3))by rw[<-Dm];exact jP.o.store 23 _);replace HA:=zh (show ae w w3 []/\Row w3 w.heap.size 29 X from⟨HA.o.1.trans k3 (λy hy hlt=>by have:=oF.o;simp at hy;omega),HA.o.2.keep k3 (by simpa using jt.o)⟩);replace fw:=zh (fw.o.keep k3 (by have:=oF.o;simp;omega));rw[Dm];clear Dm k3 xl yl fl;refine cV ?_;refine bf (by kernel_rfl) rfl rfl HF.o underlying29 rfl (by kernel_rfl) ?_;refine wpList_store_row rfl (.tmp 2) (.tmp 95) 29 rfl (w.heap.size+1) (tf p.k p.id aN aN (.slice A3 n3 c3)) eM fw.o (by kernel_rfl) rfl (by simp[Value.oneCell']) rfl rfl ?_;intro va ra ka;have HE:=zh (And.intro ra (HA.o.1.trans ka (λy hy hlt=>by simp at hy;omega)));clear ra ka;simp only[Act.put,bo,bn,bh];obtain⟨Y,hY⟩:∃Y:Array Value,(tf p.k p.id aN aN (.slice A3 n3 c3))=Y:=⟨_,rfl⟩;rw[hY]at HE
 go_wp2_with fail
 obtain⟨d,hu,hd⟩:=cI;refine bD (aW (s:=2) (cs:=Y.toList) rfl rfl (aD HE.o.1) hu hd (by rw[<-hY];kernel_rfl)) rfl ⟨.slice none 0 0,.slice none 0 0,.slice A3 n3 c3, ?_, ?_,HE.o.2⟩
 ·rw[<-hY,OO gp.o]
  rfl
 ·intro W hl
  rw[OO gp.o];obtain⟨A,c,e,h⟩:=hl.lf;exact⟨⟨none,0,rfl,cY.nil _ _ _ _⟩,⟨none,0,rfl,cY.nil _ _ _ _⟩,⟨A,c,e,h⟩⟩
theorem ym (p:Pk)(X:Array Value)(sw sc sf:Value)(w:au)(h:jA p X sw sc sf)(hl:fR w p sw sc sf)(hk:1<=p.k/\p.k<=14):Calls prog 25 #[.agg X] w (oo w p sw sc sf):=by
 obtain⟨A1,c1,A2,c2,A3,c3,rfl,rfl,rfl⟩:=hl.slices
 rcases jl (bW.2 hk)with e | e | e | e | e | e | e | e
 ·exact BQ p X _ _ _ _ _ _ _ _ _ w h e
 ·exact BP p X _ _ _ _ _ _ _ _ _ w h e
 ·exact BO p X _ _ _ _ _ _ _ _ _ w h e
 ·exact BM p X _ _ _ _ _ _ _ _ _ w h e
 ·exact BL p X _ _ _ _ _ _ _ _ _ w h e
 ·exact zB p X _ _ _ _ _ _ _ _ _ w h e
 ·exact zA p X _ _ _ _ _ _ _ _ _ w h e
 ·exact BN p X _ _ _ _ _ _ _ _ _ w h e
end Go.Proofs.YtahbikfbjenfpaaGreatDoor
