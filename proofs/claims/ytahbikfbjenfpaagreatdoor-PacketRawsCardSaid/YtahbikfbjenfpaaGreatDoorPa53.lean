/- A drawn region that reads one box and writes into another one. The reference of packets: alone (printed by genpr3.py). -/
import Derived.Test.YtahbikfbjenfpaaGreatDoorPa44
import Derived.Test.YtahbikfbjenfpaaGreatDoorPa20
import Derived.Test.YtahbikfbjenfpaaGreatDoorPa41

namespace Go.Proofs.YtahbikfbjenfpaaGreatDoor
open Go.RowKit

/-- Block b alone changes, and there each cell stays or turns to what F says. -/
structure RowTo (b:Nat)(t:TypeId)(F:Array Value)(w w' :World):Prop where
 k:Keeps w w' [b]
 r:∀Z:Array Value,Row w b t Z→∃Z' :Array Value,Row w' b t Z' ∧Z'.size=Z.size∧∀i:Nat,Z'[i]? =Z[i]?∨Z'[i]? =F[i]?
section
variable {b:Nat} {t:TypeId} {F:Array Value} {w w' w'' :World}
theorem RowTo.of (h:Keeps w w' []):RowTo b t F w w' :=⟨h.weaken (by simp),fun Z hr=>⟨Z,hr.keeps h,rfl,fun _=> .inl rfl⟩⟩
theorem RowTo.refl (w:World):RowTo b t F w w:= .of (Keeps.refl _ _)
theorem RowTo.trans (h:RowTo b t F w w')(k:RowTo b t F w' w''):RowTo b t F w w'' :=
 ⟨h.k.trans k.k (fun _ hx _=>hx),fun Z hr=>by
  obtain⟨Z1,r1,s1,c1⟩:=h.r Z hr;obtain⟨Z2,r2,s2,c2⟩:=k.r Z1 r1;refine⟨Z2,r2,s2.trans s1,fun i=> ?_⟩
  rcases c2 i with c | c
  ·rcases c1 i with c' | c'
   ·exact .inl (c.trans c')
   ·exact .inr (c.trans c')
  ·exact .inr c⟩
theorem RowTo.row {a:Nat}{t' :TypeId}{X:Array Value}(h:RowTo b t F w w')(hr:Row w a t' X)(hne:a≠b):Row w' a t' X:=hr.keep h.k (by simpa using hne)
/-- What a cell holds that is as F says stays so. -/
theorem RowTo.done (h:RowTo b t F w w'){i:Nat}(hb:∃Z,Row w b t Z)(hf:∀Z:Array Value,Row w b t Z→Z[i]? =F[i]?):∀Z:Array Value,Row w' b t Z→Z[i]? =F[i]? :=fun Z hr=>by
 obtain⟨Z0,r0⟩:=hb;obtain⟨Z1,r1,_,c1⟩:=h.r Z0 r0;obtain rfl:Z=Z1:=by
  unfold Row at hr r1;rw[hr]at r1;injection r1 with r1
  injection r1
 rcases c1 i with c | c
 ·rw[c];exact hf Z0 r0
 ·exact c
end
/-- Cells of block b that are as F says. -/
def CellDone (b:Nat)(t:TypeId)(F:Array Value)(i n:Nat)(w:World):Prop:=∀j,j < n→∀Z:Array Value,Row w b t Z→Z[i+j]? =F[i+j]?
theorem RowTo.step {b:Nat}{t:TypeId}{F Z0:Array Value}{w w' :World}{i n:Nat}(h0:Row w b t Z0)(h:∃(_:Value) (W0:World),RowTo b t F w W0∧RowTo b t F W0 w' ∧CellDone b t F i n W0):CellDone b t F i n w' :=fun j hj=>by
 obtain⟨_,W0,h1,h2,h3⟩:=h;obtain⟨Z1,r1,_⟩:=h1.r Z0 h0;exact h2.done ⟨Z1,r1⟩ (h3 j hj)
theorem RowTo.fin {b:Nat}{t:TypeId}{F Z0:Array Value}{w w' :World}(h:RowTo b t F w w')(h0:Row w b t Z0)(hs:Z0.size=F.size)(hd:∀i,i < F.size→Z0[i]? =F[i]?∨∃m n,m≤i∧i < m+n∧CellDone b t F m n w'):Row w' b t F:=by
 obtain⟨Z1,r1,s1,c1⟩:=h.r Z0 h0;have:Z1=F:=by
  apply Array.ext_getElem?;intro i
  by_cases hi:i < F.size
  ·rcases hd i hi with e | ⟨m,n,g1,g2,g3⟩
   ·rcases c1 i with c | c
    ·rw[c,e]
    ·exact c
   ·have:=g3 (i - m) (by omega) Z1 r1
    rwa [show m+(i - m)=i by omega]at this
  ·rw[Array.getElem?_eq_none (by omega),Array.getElem?_eq_none (by omega)]
 rw[←this];exact r1
theorem run_storeAt_cells {P:Program}(w:World)(b o:Nat)(ty:TypeId)(v:Value)(ht:w.there b o v.cells.size)(hi:(P.info? ty).map (·.size)=some v.cells.size)(h1:v.cells.all (·.oneCell')=true):
  (Instr.storeAt ty (.pointer (some ⟨b,o,none⟩)) v).run P w= .ok () (w.setCells b o v.cells.toList):=
 run_storeAt_mid w b o ty v.cells ht hi h1
section
variable {P:Program} {w0:World} {ops:Array Oper} {a0:Act} {Q:List Ent→Prop} {o:Oper} {rest:List Oper} {env:List Ent} {b:Nat} {t:TypeId} {F:Array Value}
theorem wp_region_puts {id:Nat}{Q:Exit→Act→World→Prop}{a:Act}{w:World}{l:List Oper}(b:Nat)(t:TypeId)(F:Array Value)(n:Nat)(hm:P.follows .mixedOrders=true)(hn:a.tmps.size=n)(hB:looseB n l.toArray=true)
  (h:wpLoose P (RowTo b t F) w l.toArray a (fun env=>∀W vals,RowTo b t F w W→knowsAll (RowTo b t F) w vals W env→Q .normal (fill vals env a) W) l []):(Code.region id l.toArray true).wp P Q a w:=
 wp_region_loose (RowTo b t F) w n hm hn hB RowTo.refl (fun _ _ _ h k=>h.trans k) (.of (Keeps.drew _)) h
/-- One that computes. -/
theorem pq (v:Value)(hk:wpLoose P (RowTo b t F) w0 ops a0 Q rest (addEnt o.dst (some v) [] (fun _ _ _=>True) env))
  (hw:∀vals:Tmp→Value,Region.wanted o (yielded ops (fill vals env a0).tmps)=true:=by intro _;kernel_rfl) (h:∀(W:World) (vals:Tmp→Value),(execOp (fill vals env a0).eval o).run P W= .ok (.value v) W:=by intro _ _;kernel_rfl):wpLoose P (RowTo b t F) w0 ops a0 Q (o::rest) env:=
 loose_is v (fun W vals _ _=>⟨by rw[if_pos (hw vals),h];exact⟨RowTo.refl _,rfl⟩⟩) hk
/-- One that reads a cell of a box that stays. -/
theorem pl {a i:Nat}{t' :TypeId}{X:Array Value}(ty:TypeId)(x:Operand)(v:Value)(hne:a≠b)(hr:Row w0 a t' X)(hc:X[i]? =some v)(hk:wpLoose P (RowTo b t F) w0 ops a0 Q rest (addEnt o.dst (some v) [] (fun _ _ _=>True) env))(ho:o.op= .load ty x:=by rfl)
  (hw:∀vals:Tmp→Value,Region.wanted o (yielded ops (fill vals env a0).tmps)=true:=by intro _;kernel_rfl) (hx:∀vals,(fill vals env a0).eval x= .pointer (some ⟨a,i,none⟩):=by intro _;kernel_rfl) (ht:∀W,(isAgg ty).run P W= .ok false W:=by intro _;kernel_rfl):wpLoose P (RowTo b t F) w0 ops a0 Q (o::rest) env:=
 loose_is v (fun W vals hW _=>⟨by rw[if_pos (hw vals),exec_loadc ho (hx vals) ht ((RowTo.row hW hr hne).cell i |>.trans hc)];exact⟨RowTo.refl _,rfl⟩⟩) hk
/-- One that reads some cells of a box that stays. -/
theorem pw {a i:Nat}{t' :TypeId}{X:Array Value}(ty:TypeId)(x:Operand)(cs:List Value){d:TypeDesc}(hu:P.underlying ty=some d)(hne:a≠b)(hr:Row w0 a t' X)(hc:∀j,j < cs.length→X[i+j]? =cs[j]?)(hk:wpLoose P (RowTo b t F) w0 ops a0 Q rest (addEnt o.dst (some (.agg cs.toArray)) [] (fun _ _ _=>True) env))(ho:o.op= .load ty x:=by rfl)(hd:d.isRow=true:=by rfl)(hi:(P.info? ty).map (·.size)=some cs.length:=by kernel_rfl)
  (hw:∀vals:Tmp→Value,Region.wanted o (yielded ops (fill vals env a0).tmps)=true:=by intro _;kernel_rfl) (hx:∀vals,(fill vals env a0).eval x= .pointer (some ⟨a,i,none⟩):=by intro _;kernel_rfl):wpLoose P (RowTo b t F) w0 ops a0 Q (o::rest) env:=
 loose_is _ (fun W vals hW _=>⟨by
  rw[if_pos (hw vals),exec_loadX ho (hx vals) (fun j v hv=>by
   rw[(RowTo.row hW hr hne).cell,hc j (List.getElem?_eq_some_iff.1 hv).1,hv]) hu hd hi]
  exact⟨RowTo.refl _,rfl⟩⟩) hk
/-- One that writes. -/
theorem pst {i:Nat}{Z0:Array Value}(ty:TypeId)(x y:Operand)(v:Value)(hr:Row w0 b t Z0)(hf:∀j,j < v.cells.size→F[i+j]? =v.cells[j]?)(hs:i+v.cells.size≤Z0.size)(h1:v.cells.all (·.oneCell')=true)(hk:wpLoose P (RowTo b t F) w0 ops a0 Q rest (addEnt o.dst none [] (fun _ _ W' =>CellDone b t F i v.cells.size W') env))(ho:o.op= .store ty x y:=by rfl)
  (hw:∀vals:Tmp→Value,Region.wanted o (yielded ops (fill vals env a0).tmps)=true:=by intro _;kernel_rfl) (hx:∀vals,(fill vals env a0).eval x= .pointer (some ⟨b,i,none⟩):=by intro _;kernel_rfl) (hy:∀vals,(fill vals env a0).eval y=v:=by intro _;kernel_rfl) (hi:(P.info? ty).map (·.size)=some v.cells.size:=by kernel_rfl):wpLoose P (RowTo b t F) w0 ops a0 Q (o::rest) env:=
 loose_has _ (fun W vals hW _ φ' hφ=>⟨by
  obtain⟨Z,hz,hzs,_⟩:=hW.r Z0 hr;have hrun:=run_storeAt_cells (P:=P) W b i ty v (hz.there (by omega)) hi h1;have h2:=hz.setCells v.cells.toList i;have hget:∀m,m < Z.size→(setFrom v.cells.toList i Z)[m]? =if i≤m∧m < i+v.cells.toList.length then v.cells.toList[m - i]? else Z[m]? :=fun m hm=>setFrom_get _ _ _ _ hm
  rw[if_pos (hw vals)];unfold execOp;simp only[ho,hx,hy,Sem.run_bind,hrun,Result.andThen_ok,Sem.run_pure];refine⟨⟨Keeps.setCells _ _ _,fun Z' hr' => ?_⟩,hφ.out _ _ fun j hj Z' hr' => ?_⟩
  ·obtain rfl:Z' =Z:=by
    unfold Row at hr' hz;rw[hr']at hz;injection hz with hz
    injection hz
   refine⟨_,h2,setFrom_size _ _ _,fun m=> ?_⟩
   by_cases hm:m < Z'.size
   ·rw[hget m hm]
    split
    ·rename_i hm2
     rw[Array.length_toList]at hm2;have:=hf (m - i) (by omega);rw[show i+(m - i)=m by omega]at this;rw[this,Array.getElem?_toList];exact .inr rfl
    ·exact .inl rfl
   ·exact .inl (by rw[Array.getElem?_eq_none (by rw[setFrom_size];omega),Array.getElem?_eq_none (by omega)])
  ·obtain rfl:Z' =setFrom v.cells.toList i Z:=by
    unfold Row at hr' h2;rw[hr']at h2;injection h2 with h2
    injection h2
   rw[hget _ (by omega),if_pos ⟨by omega,by rw[Array.length_toList];omega⟩,hf j hj,Array.getElem?_toList,show i+j - i=j by omega]⟩) hk
end

theorem put1 {F:Array Value}{i:Nat}{v:Value}(h:F[i]? =some v)(hv:v.cells= #[v]:=by rfl):∀j,j < v.cells.size→F[i+j]? =v.cells[j]? :=fun j hj=>by
 rw[hv]at hj ⊢
 obtain rfl:j=0:=by simp at hj;omega
 exact h
theorem put4 {F:Array Value}{i:Nat}{a b c d:Value}(h0:F[i]? =some a)(h1:F[i+1]? =some b)(h2:F[i+2]? =some c)(h3:F[i+3]? =some d):∀j,j < (Value.agg #[a,b,c,d]).cells.size→F[i+j]? =(Value.agg #[a,b,c,d]).cells[j]? :=fun j hj=>by
 have hj4:j < 4:=hj;obtain rfl | rfl | rfl | rfl:j=0∨j=1∨j=2∨j=3:=by omega
 ·exact h0
 ·exact h1
 ·exact h2
 ·exact h3
/-- What alone answers. -/
def AlPost (w:World)(p:Pk)(sw sc sf:Value)(e:Ending)(w' :World):Prop:=∃sw' sc' sf',e= .returned (pkV (pkAlone p) sw' sc' sf')∧(∀W,PkL W p sw sc sf→PkL W (pkAlone p) sw' sc' sf')∧Keeps w w' []
theorem al1 {p:Pk}(h:p.k=1):pkAlone p= {pkZ with k:=p.k,c:=p.c,cl:=p.cl,keep:=p.keep,hw:=p.hw,wt:=p.wt,wb:=p.wb,wq:=p.wq,wr:=p.wr,hu:=p.hu,hp:=p.hp,u:=p.u,pw:=p.pw}:=by unfold pkAlone;rw[if_pos h]
theorem al2 {p:Pk}(h:p.k=2):pkAlone p= {pkZ with k:=p.k,pr:=p.pr,code:=p.code}:=by unfold pkAlone;rw[if_neg (by omega),if_pos h]
theorem al3 {p:Pk}(h:p.k=3):pkAlone p= {pkZ with k:=p.k,t:=p.t,b:=p.b,q:=p.q,ret:=p.ret,dup:=p.dup,id:=p.id}:=by unfold pkAlone;rw[if_neg (by omega),if_neg (by omega),if_pos h]
theorem al8 {p:Pk}(h:p.k=8):pkAlone p= {pkZ with k:=p.k,id:=p.id,wants:=p.wants}:=by unfold pkAlone;rw[if_neg (by omega),if_neg (by omega),if_neg (by omega),if_pos h]
theorem al9 {p:Pk}(h:p.k=9):pkAlone p= {pkZ with k:=p.k,id:=p.id,codes:=p.codes}:=by unfold pkAlone;rw[if_neg (by omega),if_neg (by omega),if_neg (by omega),if_neg (by omega),if_pos h]
theorem al10 {p:Pk}(h:p.k=10):pkAlone p= {pkZ with k:=p.k,id:=p.id,fs:=p.fs}:=by unfold pkAlone;rw[if_neg (by omega),if_neg (by omega),if_neg (by omega),if_neg (by omega),if_neg (by omega),if_pos h]
theorem al12 {p:Pk}(h:p.k=12∨p.k=13∨p.k=14):pkAlone p= {pkZ with k:=p.k}:=by unfold pkAlone;rw[if_neg (by omega),if_neg (by omega),if_neg (by omega),if_neg (by omega),if_neg (by omega),if_neg (by omega),if_pos h]
theorem al4 {p:Pk}(h:p.k=4∨p.k=5∨p.k=6∨p.k=7∨p.k=11):pkAlone p= {pkZ with k:=p.k,id:=p.id}:=by unfold pkAlone;rw[if_neg (by omega),if_neg (by omega),if_neg (by omega),if_neg (by omega),if_neg (by omega),if_neg (by omega),if_neg (by omega)]
set_option maxRecDepth 100000 in
set_option maxHeartbeats 8000000 in
theorem alone1_walk (p:Pk)(X:Array Value)(A1 A2 A3:Option Addr)(n1 n2 n3 c1 c2 c3:Nat)(w:World)(h:PkAt p X (.slice A1 n1 c1) (.slice A2 n2 c2) (.slice A3 n3 c3))(hk:p.k=1):Calls Tryz.prog 25 #[.agg X] w (AlPost w p (.slice A1 n1 c1) (.slice A2 n2 c2) (.slice A3 n3 c3)):=by
 have HX:=zh h;have HKD:=zh hk;clear h hk;obtain⟨W0,hW0⟩:∃W0,(w.alloc (.cells X 29)).alloc (.cells zP0 29)=W0:=⟨_,rfl⟩;have HA:=zh (show Keeps w W0 []∧Row W0 w.heap.size 29 X from by
  rw[←hW0];exact⟨(Keeps.alloc _ _).then_alloc _,(Row.new _ _ _).alloc _⟩)
 have HRS:=zh (show Row W0 (w.heap.size+1) 29 zP0 from by
  rw[←hW0];have:=Row.new (w.alloc (.cells X 29)) 29 zP0
  rwa [World.size_alloc]at this)
 have x0:=(HA.out.2.cell 0).trans HX.out.c0
 go_enter Tryz.func25,Tryz.ntmps25
 go_wp2_with (refine wpList_store_new rfl (.tmp 3) (.tmp 7) rfl (zP p.k false false 0 [] [] 0 [] false 0 false [] [] 0 false false false [] [] false 0 (.slice none 0 0) (.slice none 0 0) (.slice none 0 0)) zP0 W0 rfl (by kernel_rfl) rfl (by simp[Value.oneCell']) rfl rfl ?_;intro w1 hw1)
 refine zh ?_;have k1:Keeps W0 w1 []:=by rw[←hw1];exact Keeps.alloc _ _
 have HB:=zh (show Row w1 W0.heap.size 29 (zP p.k false false 0 [] [] 0 [] false 0 false [] [] 0 false false false [] [] false 0 (.slice none 0 0) (.slice none 0 0) (.slice none 0 0))from by rw[←hw1];exact Row.new _ _ _);obtain⟨b,hb⟩:∃b,W0.heap.size=b:=⟨_,rfl⟩;have HBW:=zh (show w.heap.size+1 < b by have:=HRS.out.lt;omega);have HNE:=zh (show w.heap.size≠b by have:=HBW.out;omega);replace HA:=zh (show Keeps w w1 []∧Row w1 w.heap.size 29 X from⟨HA.out.1.then_ k1,HA.out.2.keeps k1⟩);replace HRS:=zh (HRS.out.keeps k1);rw[hb]at HB ⊢
 clear x0 k1 hw1 hb hW0;have x0:=(HA.out.2.cell 0).trans HX.out.c0;have b1:(p.k==1)=true:=beq_iff_eq.2 HKD.out
 go_upto_region 4 with fail
 refine wp_region_puts b 29 (zP p.k false false 0 [] [] 0 p.c p.cl p.keep p.hw p.wt p.wb p.wq p.wr p.hu p.hp p.u p.pw false 0 (.slice none 0 0) (.slice none 0 0) (.slice none 0 0)) _ (by kernel_rfl) rfl (by kernel_rfl) ?_;refine pq (.pointer (some ⟨w.heap.size,7,none⟩)) ?_;refine pl 9 (.tmp 13) (.string ⟨p.c.toArray⟩) HNE.out HA.out.2 HX.out.c7 ?_;refine pq (.pointer (some ⟨w.heap.size,8,none⟩)) ?_;refine pl 4 (.tmp 15) (.bool p.cl) HNE.out HA.out.2 HX.out.c8 ?_;refine pq (.pointer (some ⟨w.heap.size,9,none⟩)) ?_;refine pl 2 (.tmp 17) (.int .i64 p.keep) HNE.out HA.out.2 HX.out.c9 ?_;refine pq (.pointer (some ⟨w.heap.size,10,none⟩)) ?_;refine pl 4 (.tmp 19) (.bool p.hw) HNE.out HA.out.2 HX.out.c10 ?_;refine pq (.pointer (some ⟨w.heap.size,11,none⟩)) ?_;refine pw 24 (.tmp 21) [.string ⟨p.wt.toArray⟩,.string ⟨p.wb.toArray⟩,.int .i64 p.wq,.bool p.wr] Tryz.underlying24 HNE.out HA.out.2 HX.out.will ?_;refine pq (.pointer (some ⟨w.heap.size,15,none⟩)) ?_;refine pl 4 (.tmp 23) (.bool p.hu) HNE.out HA.out.2 HX.out.c15 ?_;refine pq (.pointer (some ⟨w.heap.size,16,none⟩)) ?_;refine pl 4 (.tmp 25) (.bool p.hp) HNE.out HA.out.2 HX.out.c16 ?_;refine pq (.pointer (some ⟨w.heap.size,17,none⟩)) ?_;refine pl 9 (.tmp 27) (.string ⟨p.u.toArray⟩) HNE.out HA.out.2 HX.out.c17 ?_;refine pq (.pointer (some ⟨w.heap.size,18,none⟩)) ?_;refine pl 9 (.tmp 29) (.string ⟨p.pw.toArray⟩) HNE.out HA.out.2 HX.out.c18 ?_;refine pq (.pointer (some ⟨b,7,none⟩)) ?_;refine pst (i:=7) 9 (.tmp 31) (.tmp 14) (.string ⟨p.c.toArray⟩) HB.out (put1 rfl) (Nat.le_of_ble_eq_true rfl) (by simp[Value.cells,Value.oneCell']) ?_;refine pq (.pointer (some ⟨b,8,none⟩)) ?_;refine pst (i:=8) 4 (.tmp 32) (.tmp 16) (.bool p.cl) HB.out (put1 rfl) (Nat.le_of_ble_eq_true rfl) (by simp[Value.cells,Value.oneCell']) ?_;refine pq (.pointer (some ⟨b,9,none⟩)) ?_;refine pst (i:=9) 2 (.tmp 33) (.tmp 18) (.int .i64 p.keep) HB.out (put1 rfl) (Nat.le_of_ble_eq_true rfl) (by simp[Value.cells,Value.oneCell']) ?_;refine pq (.pointer (some ⟨b,10,none⟩)) ?_;refine pst (i:=10) 4 (.tmp 34) (.tmp 20) (.bool p.hw) HB.out (put1 rfl) (Nat.le_of_ble_eq_true rfl) (by simp[Value.cells,Value.oneCell']) ?_;refine pq (.pointer (some ⟨b,11,none⟩)) ?_;refine pst (i:=11) 24 (.tmp 35) (.tmp 22) (.agg #[.string ⟨p.wt.toArray⟩,.string ⟨p.wb.toArray⟩,.int .i64 p.wq,.bool p.wr]) HB.out (put4 rfl rfl rfl rfl) (Nat.le_of_ble_eq_true rfl) (by simp[Value.cells,Value.oneCell']) ?_;refine pq (.pointer (some ⟨b,15,none⟩)) ?_;refine pst (i:=15) 4 (.tmp 36) (.tmp 24) (.bool p.hu) HB.out (put1 rfl) (Nat.le_of_ble_eq_true rfl) (by simp[Value.cells,Value.oneCell']) ?_;refine pq (.pointer (some ⟨b,16,none⟩)) ?_;refine pst (i:=16) 4 (.tmp 37) (.tmp 26) (.bool p.hp) HB.out (put1 rfl) (Nat.le_of_ble_eq_true rfl) (by simp[Value.cells,Value.oneCell']) ?_;refine pq (.pointer (some ⟨b,17,none⟩)) ?_;refine pst (i:=17) 9 (.tmp 38) (.tmp 28) (.string ⟨p.u.toArray⟩) HB.out (put1 rfl) (Nat.le_of_ble_eq_true rfl) (by simp[Value.cells,Value.oneCell']) ?_;refine pq (.pointer (some ⟨b,18,none⟩)) ?_
 refine pst (i:=18) 9 (.tmp 39) (.tmp 30) (.string ⟨p.pw.toArray⟩) HB.out (put1 rfl) (Nat.le_of_ble_eq_true rfl) (by simp[Value.cells,Value.oneCell']) ?_;refine loose_nil (fun W9 vals hW hkn=> ?_);simp only[addEnt,knowsAll]at hkn;obtain⟨g18,g17,g16,g15,g11,g10,g9,g8,g7,_⟩:=hkn;have d7:=RowTo.step (i:=7) (n:=1) HB.out g7;have d8:=RowTo.step (i:=8) (n:=1) HB.out g8;have d9:=RowTo.step (i:=9) (n:=1) HB.out g9;have d10:=RowTo.step (i:=10) (n:=1) HB.out g10;have d11:=RowTo.step (i:=11) (n:=4) HB.out g11;have d15:=RowTo.step (i:=15) (n:=1) HB.out g15;have d16:=RowTo.step (i:=16) (n:=1) HB.out g16;have d17:=RowTo.step (i:=17) (n:=1) HB.out g17;have d18:=RowTo.step (i:=18) (n:=1) HB.out g18;have HF:=zh (RowTo.fin hW HB.out rfl (fun i hi=>by
  have hi4:i < 24:=hi
  match i,hi4 with
  | 0,_=>exact .inl rfl
  | 1,_=>exact .inl rfl
  | 2,_=>exact .inl rfl
  | 3,_=>exact .inl rfl
  | 4,_=>exact .inl rfl
  | 5,_=>exact .inl rfl
  | 6,_=>exact .inl rfl
  | 7,_=>exact .inr ⟨7,1,by omega,by omega,d7⟩
  | 8,_=>exact .inr ⟨8,1,by omega,by omega,d8⟩
  | 9,_=>exact .inr ⟨9,1,by omega,by omega,d9⟩
  | 10,_=>exact .inr ⟨10,1,by omega,by omega,d10⟩
  | 11,_=>exact .inr ⟨11,4,by omega,by omega,d11⟩
  | 12,_=>exact .inr ⟨11,4,by omega,by omega,d11⟩
  | 13,_=>exact .inr ⟨11,4,by omega,by omega,d11⟩
  | 14,_=>exact .inr ⟨11,4,by omega,by omega,d11⟩
  | 15,_=>exact .inr ⟨15,1,by omega,by omega,d15⟩
  | 16,_=>exact .inr ⟨16,1,by omega,by omega,d16⟩
  | 17,_=>exact .inr ⟨17,1,by omega,by omega,d17⟩
  | 18,_=>exact .inr ⟨18,1,by omega,by omega,d18⟩
  | 19,_=>exact .inl rfl
  | 20,_=>exact .inl rfl
  | 21,_=>exact .inl rfl
  | 22,_=>exact .inl rfl
  | 23,_=>exact .inl rfl
  | i+24,h=>omega))
 replace HA:=zh (show Keeps w W9 []∧Row W9 w.heap.size 29 X from⟨HA.out.1.trans hW.k (fun y hy hlt=>by have:=HBW.out;simp at hy;omega),HA.out.2.keep hW.k (by simpa using HNE.out)⟩);replace HRS:=zh (HRS.out.keep hW.k (by have:=HBW.out;simp;omega));clear g7 d7 g8 d8 g9 d9 g10 d10 g11 d11 g15 d15 g16 d16 g17 d17 g18 d18 hW;simp only[addEnt,fill,Act.put,zsa,zsc,zsz]
 go_upto_region 17 with fail
 refine wp_region_lit ?_;refine wpList_loadX (by kernel_rfl) rfl rfl HF.out Tryz.underlying29 rfl (by kernel_rfl) ?_;refine wpList_store_row rfl (.tmp 2) (.tmp 95) 29 rfl (w.heap.size+1) (zP p.k false false 0 [] [] 0 p.c p.cl p.keep p.hw p.wt p.wb p.wq p.wr p.hu p.hp p.u p.pw false 0 (.slice none 0 0) (.slice none 0 0) (.slice none 0 0)) zP0 HRS.out (by kernel_rfl) rfl (by simp[Value.oneCell']) rfl rfl ?_;intro va ra ka;have HE:=zh (And.intro ra (HA.out.1.trans ka (fun y hy hlt=>by simp at hy;omega)));clear ra ka;simp only[Act.put,zsa,zsc,zsz];obtain⟨Y,hY⟩:∃Y:Array Value,(zP p.k false false 0 [] [] 0 p.c p.cl p.keep p.hw p.wt p.wb p.wq p.wr p.hu p.hp p.u p.pw false 0 (.slice none 0 0) (.slice none 0 0) (.slice none 0 0))=Y:=⟨_,rfl⟩;rw[hY]at HE
 go_wp2_with fail
 obtain⟨d,hu,hd⟩:=undPack;refine bodyPost_ret (results_row (s:=2) (cs:=Y.toList) rfl rfl (range_row HE.out.1) hu hd (by rw[←hY];kernel_rfl)) rfl ⟨.slice none 0 0,.slice none 0 0,.slice none 0 0, ?_, ?_,HE.out.2⟩
 ·rw[←hY,al1 HKD.out]
  rfl
 ·intro W hl
  rw[al1 HKD.out];exact PkL.empty rfl rfl rfl
set_option maxRecDepth 100000 in
set_option maxHeartbeats 8000000 in
theorem alone2_walk (p:Pk)(X:Array Value)(A1 A2 A3:Option Addr)(n1 n2 n3 c1 c2 c3:Nat)(w:World)(h:PkAt p X (.slice A1 n1 c1) (.slice A2 n2 c2) (.slice A3 n3 c3))(hk:p.k=2):Calls Tryz.prog 25 #[.agg X] w (AlPost w p (.slice A1 n1 c1) (.slice A2 n2 c2) (.slice A3 n3 c3)):=by
 have HX:=zh h;have HKD:=zh hk;clear h hk;obtain⟨W0,hW0⟩:∃W0,(w.alloc (.cells X 29)).alloc (.cells zP0 29)=W0:=⟨_,rfl⟩;have HA:=zh (show Keeps w W0 []∧Row W0 w.heap.size 29 X from by
  rw[←hW0];exact⟨(Keeps.alloc _ _).then_alloc _,(Row.new _ _ _).alloc _⟩)
 have HRS:=zh (show Row W0 (w.heap.size+1) 29 zP0 from by
  rw[←hW0];have:=Row.new (w.alloc (.cells X 29)) 29 zP0
  rwa [World.size_alloc]at this)
 have x0:=(HA.out.2.cell 0).trans HX.out.c0
 go_enter Tryz.func25,Tryz.ntmps25
 go_wp2_with (refine wpList_store_new rfl (.tmp 3) (.tmp 7) rfl (zP p.k false false 0 [] [] 0 [] false 0 false [] [] 0 false false false [] [] false 0 (.slice none 0 0) (.slice none 0 0) (.slice none 0 0)) zP0 W0 rfl (by kernel_rfl) rfl (by simp[Value.oneCell']) rfl rfl ?_;intro w1 hw1)
 refine zh ?_;have k1:Keeps W0 w1 []:=by rw[←hw1];exact Keeps.alloc _ _
 have HB:=zh (show Row w1 W0.heap.size 29 (zP p.k false false 0 [] [] 0 [] false 0 false [] [] 0 false false false [] [] false 0 (.slice none 0 0) (.slice none 0 0) (.slice none 0 0))from by rw[←hw1];exact Row.new _ _ _);obtain⟨b,hb⟩:∃b,W0.heap.size=b:=⟨_,rfl⟩;have HBW:=zh (show w.heap.size+1 < b by have:=HRS.out.lt;omega);have HNE:=zh (show w.heap.size≠b by have:=HBW.out;omega);replace HA:=zh (show Keeps w w1 []∧Row w1 w.heap.size 29 X from⟨HA.out.1.then_ k1,HA.out.2.keeps k1⟩);replace HRS:=zh (HRS.out.keeps k1);rw[hb]at HB ⊢
 clear x0 k1 hw1 hb hW0;have x0:=(HA.out.2.cell 0).trans HX.out.c0;have b1:(p.k==1)=false:=beq_eq_false_iff_ne.2 (by have:=HKD.out;omega);have b2:(p.k==2)=true:=beq_iff_eq.2 HKD.out
 go_upto_region 6 with fail
 refine wp_region_puts b 29 (zP p.k false false 0 [] [] 0 [] false 0 false [] [] 0 false false false [] [] p.pr p.code (.slice none 0 0) (.slice none 0 0) (.slice none 0 0)) _ (by kernel_rfl) rfl (by kernel_rfl) ?_;refine pq (.pointer (some ⟨w.heap.size,19,none⟩)) ?_;refine pl 4 (.tmp 43) (.bool p.pr) HNE.out HA.out.2 HX.out.c19 ?_;refine pq (.pointer (some ⟨w.heap.size,20,none⟩)) ?_;refine pl 3 (.tmp 45) (.int .i64 p.code) HNE.out HA.out.2 HX.out.c20 ?_;refine pq (.pointer (some ⟨b,19,none⟩)) ?_;refine pst (i:=19) 4 (.tmp 47) (.tmp 44) (.bool p.pr) HB.out (put1 rfl) (Nat.le_of_ble_eq_true rfl) (by simp[Value.cells,Value.oneCell']) ?_;refine pq (.pointer (some ⟨b,20,none⟩)) ?_;refine pst (i:=20) 3 (.tmp 48) (.tmp 46) (.int .i64 p.code) HB.out (put1 rfl) (Nat.le_of_ble_eq_true rfl) (by simp[Value.cells,Value.oneCell']) ?_;refine loose_nil (fun W9 vals hW hkn=> ?_);simp only[addEnt,knowsAll]at hkn;obtain⟨g20,g19,_⟩:=hkn;have d19:=RowTo.step (i:=19) (n:=1) HB.out g19;have d20:=RowTo.step (i:=20) (n:=1) HB.out g20;have HF:=zh (RowTo.fin hW HB.out rfl (fun i hi=>by
  have hi4:i < 24:=hi
  match i,hi4 with
  | 0,_=>exact .inl rfl
  | 1,_=>exact .inl rfl
  | 2,_=>exact .inl rfl
  | 3,_=>exact .inl rfl
  | 4,_=>exact .inl rfl
  | 5,_=>exact .inl rfl
  | 6,_=>exact .inl rfl
  | 7,_=>exact .inl rfl
  | 8,_=>exact .inl rfl
  | 9,_=>exact .inl rfl
  | 10,_=>exact .inl rfl
  | 11,_=>exact .inl rfl
  | 12,_=>exact .inl rfl
  | 13,_=>exact .inl rfl
  | 14,_=>exact .inl rfl
  | 15,_=>exact .inl rfl
  | 16,_=>exact .inl rfl
  | 17,_=>exact .inl rfl
  | 18,_=>exact .inl rfl
  | 19,_=>exact .inr ⟨19,1,by omega,by omega,d19⟩
  | 20,_=>exact .inr ⟨20,1,by omega,by omega,d20⟩
  | 21,_=>exact .inl rfl
  | 22,_=>exact .inl rfl
  | 23,_=>exact .inl rfl
  | i+24,h=>omega))
 replace HA:=zh (show Keeps w W9 []∧Row W9 w.heap.size 29 X from⟨HA.out.1.trans hW.k (fun y hy hlt=>by have:=HBW.out;simp at hy;omega),HA.out.2.keep hW.k (by simpa using HNE.out)⟩);replace HRS:=zh (HRS.out.keep hW.k (by have:=HBW.out;simp;omega));clear g19 d19 g20 d20 hW;simp only[addEnt,fill,Act.put,zsa,zsc,zsz]
 go_upto_region 17 with fail
 refine wp_region_lit ?_;refine wpList_loadX (by kernel_rfl) rfl rfl HF.out Tryz.underlying29 rfl (by kernel_rfl) ?_;refine wpList_store_row rfl (.tmp 2) (.tmp 95) 29 rfl (w.heap.size+1) (zP p.k false false 0 [] [] 0 [] false 0 false [] [] 0 false false false [] [] p.pr p.code (.slice none 0 0) (.slice none 0 0) (.slice none 0 0)) zP0 HRS.out (by kernel_rfl) rfl (by simp[Value.oneCell']) rfl rfl ?_;intro va ra ka;have HE:=zh (And.intro ra (HA.out.1.trans ka (fun y hy hlt=>by simp at hy;omega)));clear ra ka;simp only[Act.put,zsa,zsc,zsz];obtain⟨Y,hY⟩:∃Y:Array Value,(zP p.k false false 0 [] [] 0 [] false 0 false [] [] 0 false false false [] [] p.pr p.code (.slice none 0 0) (.slice none 0 0) (.slice none 0 0))=Y:=⟨_,rfl⟩;rw[hY]at HE
 go_wp2_with fail
 obtain⟨d,hu,hd⟩:=undPack;refine bodyPost_ret (results_row (s:=2) (cs:=Y.toList) rfl rfl (range_row HE.out.1) hu hd (by rw[←hY];kernel_rfl)) rfl ⟨.slice none 0 0,.slice none 0 0,.slice none 0 0, ?_, ?_,HE.out.2⟩
 ·rw[←hY,al2 HKD.out]
  rfl
 ·intro W hl
  rw[al2 HKD.out];exact PkL.empty rfl rfl rfl
set_option maxRecDepth 100000 in
set_option maxHeartbeats 8000000 in
theorem alone3_walk (p:Pk)(X:Array Value)(A1 A2 A3:Option Addr)(n1 n2 n3 c1 c2 c3:Nat)(w:World)(h:PkAt p X (.slice A1 n1 c1) (.slice A2 n2 c2) (.slice A3 n3 c3))(hk:p.k=3):Calls Tryz.prog 25 #[.agg X] w (AlPost w p (.slice A1 n1 c1) (.slice A2 n2 c2) (.slice A3 n3 c3)):=by
 have HX:=zh h;have HKD:=zh hk;clear h hk;obtain⟨W0,hW0⟩:∃W0,(w.alloc (.cells X 29)).alloc (.cells zP0 29)=W0:=⟨_,rfl⟩;have HA:=zh (show Keeps w W0 []∧Row W0 w.heap.size 29 X from by
  rw[←hW0];exact⟨(Keeps.alloc _ _).then_alloc _,(Row.new _ _ _).alloc _⟩)
 have HRS:=zh (show Row W0 (w.heap.size+1) 29 zP0 from by
  rw[←hW0];have:=Row.new (w.alloc (.cells X 29)) 29 zP0
  rwa [World.size_alloc]at this)
 have x0:=(HA.out.2.cell 0).trans HX.out.c0
 go_enter Tryz.func25,Tryz.ntmps25
 go_wp2_with (refine wpList_store_new rfl (.tmp 3) (.tmp 7) rfl (zP p.k false false 0 [] [] 0 [] false 0 false [] [] 0 false false false [] [] false 0 (.slice none 0 0) (.slice none 0 0) (.slice none 0 0)) zP0 W0 rfl (by kernel_rfl) rfl (by simp[Value.oneCell']) rfl rfl ?_;intro w1 hw1)
 refine zh ?_;have k1:Keeps W0 w1 []:=by rw[←hw1];exact Keeps.alloc _ _
 have HB:=zh (show Row w1 W0.heap.size 29 (zP p.k false false 0 [] [] 0 [] false 0 false [] [] 0 false false false [] [] false 0 (.slice none 0 0) (.slice none 0 0) (.slice none 0 0))from by rw[←hw1];exact Row.new _ _ _);obtain⟨b,hb⟩:∃b,W0.heap.size=b:=⟨_,rfl⟩;have HBW:=zh (show w.heap.size+1 < b by have:=HRS.out.lt;omega);have HNE:=zh (show w.heap.size≠b by have:=HBW.out;omega);replace HA:=zh (show Keeps w w1 []∧Row w1 w.heap.size 29 X from⟨HA.out.1.then_ k1,HA.out.2.keeps k1⟩);replace HRS:=zh (HRS.out.keeps k1);rw[hb]at HB ⊢
 clear x0 k1 hw1 hb hW0;have x0:=(HA.out.2.cell 0).trans HX.out.c0;have b1:(p.k==1)=false:=beq_eq_false_iff_ne.2 (by have:=HKD.out;omega);have b2:(p.k==2)=false:=beq_eq_false_iff_ne.2 (by have:=HKD.out;omega);have b3:(p.k==3)=true:=beq_iff_eq.2 HKD.out
 go_upto_region 8 with fail
 refine wp_region_puts b 29 (zP p.k p.dup p.ret p.q p.t p.b p.id [] false 0 false [] [] 0 false false false [] [] false 0 (.slice none 0 0) (.slice none 0 0) (.slice none 0 0)) _ (by kernel_rfl) rfl (by kernel_rfl) ?_;refine pq (.pointer (some ⟨w.heap.size,4,none⟩)) ?_;refine pl 9 (.tmp 52) (.string ⟨p.t.toArray⟩) HNE.out HA.out.2 HX.out.c4 ?_;refine pq (.pointer (some ⟨w.heap.size,5,none⟩)) ?_;refine pl 9 (.tmp 54) (.string ⟨p.b.toArray⟩) HNE.out HA.out.2 HX.out.c5 ?_;refine pq (.pointer (some ⟨w.heap.size,3,none⟩)) ?_;refine pl 3 (.tmp 56) (.int .i64 p.q) HNE.out HA.out.2 HX.out.c3 ?_;refine pq (.pointer (some ⟨w.heap.size,2,none⟩)) ?_;refine pl 4 (.tmp 58) (.bool p.ret) HNE.out HA.out.2 HX.out.c2 ?_;refine pq (.pointer (some ⟨w.heap.size,1,none⟩)) ?_;refine pl 4 (.tmp 60) (.bool p.dup) HNE.out HA.out.2 HX.out.c1 ?_;refine pq (.pointer (some ⟨w.heap.size,6,none⟩)) ?_;refine pl 2 (.tmp 62) (.int .i64 p.id) HNE.out HA.out.2 HX.out.c6 ?_;refine pq (.pointer (some ⟨b,4,none⟩)) ?_;refine pst (i:=4) 9 (.tmp 64) (.tmp 53) (.string ⟨p.t.toArray⟩) HB.out (put1 rfl) (Nat.le_of_ble_eq_true rfl) (by simp[Value.cells,Value.oneCell']) ?_;refine pq (.pointer (some ⟨b,5,none⟩)) ?_;refine pst (i:=5) 9 (.tmp 65) (.tmp 55) (.string ⟨p.b.toArray⟩) HB.out (put1 rfl) (Nat.le_of_ble_eq_true rfl) (by simp[Value.cells,Value.oneCell']) ?_;refine pq (.pointer (some ⟨b,3,none⟩)) ?_;refine pst (i:=3) 3 (.tmp 66) (.tmp 57) (.int .i64 p.q) HB.out (put1 rfl) (Nat.le_of_ble_eq_true rfl) (by simp[Value.cells,Value.oneCell']) ?_;refine pq (.pointer (some ⟨b,2,none⟩)) ?_;refine pst (i:=2) 4 (.tmp 67) (.tmp 59) (.bool p.ret) HB.out (put1 rfl) (Nat.le_of_ble_eq_true rfl) (by simp[Value.cells,Value.oneCell']) ?_;refine pq (.pointer (some ⟨b,1,none⟩)) ?_;refine pst (i:=1) 4 (.tmp 68) (.tmp 61) (.bool p.dup) HB.out (put1 rfl) (Nat.le_of_ble_eq_true rfl) (by simp[Value.cells,Value.oneCell']) ?_;refine pq (.pointer (some ⟨b,6,none⟩)) ?_;refine pst (i:=6) 2 (.tmp 69) (.tmp 63) (.int .i64 p.id) HB.out (put1 rfl) (Nat.le_of_ble_eq_true rfl) (by simp[Value.cells,Value.oneCell']) ?_;refine loose_nil (fun W9 vals hW hkn=> ?_);simp only[addEnt,knowsAll]at hkn;obtain⟨g6,g1,g2,g3,g5,g4,_⟩:=hkn;have d4:=RowTo.step (i:=4) (n:=1) HB.out g4;have d5:=RowTo.step (i:=5) (n:=1) HB.out g5;have d3:=RowTo.step (i:=3) (n:=1) HB.out g3;have d2:=RowTo.step (i:=2) (n:=1) HB.out g2;have d1:=RowTo.step (i:=1) (n:=1) HB.out g1;have d6:=RowTo.step (i:=6) (n:=1) HB.out g6;have HF:=zh (RowTo.fin hW HB.out rfl (fun i hi=>by
  have hi4:i < 24:=hi
  match i,hi4 with
  | 0,_=>exact .inl rfl
  | 1,_=>exact .inr ⟨1,1,by omega,by omega,d1⟩
  | 2,_=>exact .inr ⟨2,1,by omega,by omega,d2⟩
  | 3,_=>exact .inr ⟨3,1,by omega,by omega,d3⟩
  | 4,_=>exact .inr ⟨4,1,by omega,by omega,d4⟩
  | 5,_=>exact .inr ⟨5,1,by omega,by omega,d5⟩
  | 6,_=>exact .inr ⟨6,1,by omega,by omega,d6⟩
  | 7,_=>exact .inl rfl
  | 8,_=>exact .inl rfl
  | 9,_=>exact .inl rfl
  | 10,_=>exact .inl rfl
  | 11,_=>exact .inl rfl
  | 12,_=>exact .inl rfl
  | 13,_=>exact .inl rfl
  | 14,_=>exact .inl rfl
  | 15,_=>exact .inl rfl
  | 16,_=>exact .inl rfl
  | 17,_=>exact .inl rfl
  | 18,_=>exact .inl rfl
  | 19,_=>exact .inl rfl
  | 20,_=>exact .inl rfl
  | 21,_=>exact .inl rfl
  | 22,_=>exact .inl rfl
  | 23,_=>exact .inl rfl
  | i+24,h=>omega))
 replace HA:=zh (show Keeps w W9 []∧Row W9 w.heap.size 29 X from⟨HA.out.1.trans hW.k (fun y hy hlt=>by have:=HBW.out;simp at hy;omega),HA.out.2.keep hW.k (by simpa using HNE.out)⟩);replace HRS:=zh (HRS.out.keep hW.k (by have:=HBW.out;simp;omega));clear g4 d4 g5 d5 g3 d3 g2 d2 g1 d1 g6 d6 hW;simp only[addEnt,fill,Act.put,zsa,zsc,zsz]
 go_upto_region 17 with fail
 refine wp_region_lit ?_;refine wpList_loadX (by kernel_rfl) rfl rfl HF.out Tryz.underlying29 rfl (by kernel_rfl) ?_;refine wpList_store_row rfl (.tmp 2) (.tmp 95) 29 rfl (w.heap.size+1) (zP p.k p.dup p.ret p.q p.t p.b p.id [] false 0 false [] [] 0 false false false [] [] false 0 (.slice none 0 0) (.slice none 0 0) (.slice none 0 0)) zP0 HRS.out (by kernel_rfl) rfl (by simp[Value.oneCell']) rfl rfl ?_;intro va ra ka;have HE:=zh (And.intro ra (HA.out.1.trans ka (fun y hy hlt=>by simp at hy;omega)));clear ra ka;simp only[Act.put,zsa,zsc,zsz];obtain⟨Y,hY⟩:∃Y:Array Value,(zP p.k p.dup p.ret p.q p.t p.b p.id [] false 0 false [] [] 0 false false false [] [] false 0 (.slice none 0 0) (.slice none 0 0) (.slice none 0 0))=Y:=⟨_,rfl⟩;rw[hY]at HE
 go_wp2_with fail
 obtain⟨d,hu,hd⟩:=undPack;refine bodyPost_ret (results_row (s:=2) (cs:=Y.toList) rfl rfl (range_row HE.out.1) hu hd (by rw[←hY];kernel_rfl)) rfl ⟨.slice none 0 0,.slice none 0 0,.slice none 0 0, ?_, ?_,HE.out.2⟩
 ·rw[←hY,al3 HKD.out]
  rfl
 ·intro W hl
  rw[al3 HKD.out];exact PkL.empty rfl rfl rfl
set_option maxRecDepth 100000 in
set_option maxHeartbeats 8000000 in
theorem alone12_walk (p:Pk)(X:Array Value)(A1 A2 A3:Option Addr)(n1 n2 n3 c1 c2 c3:Nat)(w:World)(h:PkAt p X (.slice A1 n1 c1) (.slice A2 n2 c2) (.slice A3 n3 c3))(hk:p.k=12∨p.k=13∨p.k=14):Calls Tryz.prog 25 #[.agg X] w (AlPost w p (.slice A1 n1 c1) (.slice A2 n2 c2) (.slice A3 n3 c3)):=by
 have HX:=zh h;have HKD:=zh hk;clear h hk;obtain⟨W0,hW0⟩:∃W0,(w.alloc (.cells X 29)).alloc (.cells zP0 29)=W0:=⟨_,rfl⟩;have HA:=zh (show Keeps w W0 []∧Row W0 w.heap.size 29 X from by
  rw[←hW0];exact⟨(Keeps.alloc _ _).then_alloc _,(Row.new _ _ _).alloc _⟩)
 have HRS:=zh (show Row W0 (w.heap.size+1) 29 zP0 from by
  rw[←hW0];have:=Row.new (w.alloc (.cells X 29)) 29 zP0
  rwa [World.size_alloc]at this)
 have x0:=(HA.out.2.cell 0).trans HX.out.c0
 go_enter Tryz.func25,Tryz.ntmps25
 go_wp2_with (refine wpList_store_new rfl (.tmp 3) (.tmp 7) rfl (zP p.k false false 0 [] [] 0 [] false 0 false [] [] 0 false false false [] [] false 0 (.slice none 0 0) (.slice none 0 0) (.slice none 0 0)) zP0 W0 rfl (by kernel_rfl) rfl (by simp[Value.oneCell']) rfl rfl ?_;intro w1 hw1)
 refine zh ?_;have k1:Keeps W0 w1 []:=by rw[←hw1];exact Keeps.alloc _ _
 have HB:=zh (show Row w1 W0.heap.size 29 (zP p.k false false 0 [] [] 0 [] false 0 false [] [] 0 false false false [] [] false 0 (.slice none 0 0) (.slice none 0 0) (.slice none 0 0))from by rw[←hw1];exact Row.new _ _ _);obtain⟨b,hb⟩:∃b,W0.heap.size=b:=⟨_,rfl⟩;have HBW:=zh (show w.heap.size+1 < b by have:=HRS.out.lt;omega);have HNE:=zh (show w.heap.size≠b by have:=HBW.out;omega);replace HA:=zh (show Keeps w w1 []∧Row w1 w.heap.size 29 X from⟨HA.out.1.then_ k1,HA.out.2.keeps k1⟩);replace HRS:=zh (HRS.out.keeps k1);rw[hb]at HB ⊢
 clear x0 k1 hw1 hb hW0;have x0:=(HA.out.2.cell 0).trans HX.out.c0;have b1:(p.k==1)=false:=beq_eq_false_iff_ne.2 (by have:=HKD.out;omega);have b2:(p.k==2)=false:=beq_eq_false_iff_ne.2 (by have:=HKD.out;omega);have b3:(p.k==3)=false:=beq_eq_false_iff_ne.2 (by have:=HKD.out;omega);have b4:decide (p.k≥4)=true:=by have:=HKD.out;simp;omega
 have b11:decide (p.k≤11)=false:=by have:=HKD.out;simp;omega
 have HF:=zh HB.out
 go_upto_region 17 with fail
 refine wp_region_lit ?_;refine wpList_loadX (by kernel_rfl) rfl rfl HF.out Tryz.underlying29 rfl (by kernel_rfl) ?_;refine wpList_store_row rfl (.tmp 2) (.tmp 95) 29 rfl (w.heap.size+1) (zP p.k false false 0 [] [] 0 [] false 0 false [] [] 0 false false false [] [] false 0 (.slice none 0 0) (.slice none 0 0) (.slice none 0 0)) zP0 HRS.out (by kernel_rfl) rfl (by simp[Value.oneCell']) rfl rfl ?_;intro va ra ka;have HE:=zh (And.intro ra (HA.out.1.trans ka (fun y hy hlt=>by simp at hy;omega)));clear ra ka;simp only[Act.put,zsa,zsc,zsz];obtain⟨Y,hY⟩:∃Y:Array Value,(zP p.k false false 0 [] [] 0 [] false 0 false [] [] 0 false false false [] [] false 0 (.slice none 0 0) (.slice none 0 0) (.slice none 0 0))=Y:=⟨_,rfl⟩;rw[hY]at HE
 go_wp2_with fail
 obtain⟨d,hu,hd⟩:=undPack;refine bodyPost_ret (results_row (s:=2) (cs:=Y.toList) rfl rfl (range_row HE.out.1) hu hd (by rw[←hY];kernel_rfl)) rfl ⟨.slice none 0 0,.slice none 0 0,.slice none 0 0, ?_, ?_,HE.out.2⟩
 ·rw[←hY,al12 HKD.out]
  rfl
 ·intro W hl
  rw[al12 HKD.out];exact PkL.empty rfl rfl rfl
set_option maxRecDepth 100000 in
set_option maxHeartbeats 8000000 in
theorem alone4_walk (p:Pk)(X:Array Value)(A1 A2 A3:Option Addr)(n1 n2 n3 c1 c2 c3:Nat)(w:World)(h:PkAt p X (.slice A1 n1 c1) (.slice A2 n2 c2) (.slice A3 n3 c3))(hk:p.k=4∨p.k=5∨p.k=6∨p.k=7∨p.k=11):Calls Tryz.prog 25 #[.agg X] w (AlPost w p (.slice A1 n1 c1) (.slice A2 n2 c2) (.slice A3 n3 c3)):=by
 have HX:=zh h;have HKD:=zh hk;clear h hk;obtain⟨W0,hW0⟩:∃W0,(w.alloc (.cells X 29)).alloc (.cells zP0 29)=W0:=⟨_,rfl⟩;have HA:=zh (show Keeps w W0 []∧Row W0 w.heap.size 29 X from by
  rw[←hW0];exact⟨(Keeps.alloc _ _).then_alloc _,(Row.new _ _ _).alloc _⟩)
 have HRS:=zh (show Row W0 (w.heap.size+1) 29 zP0 from by
  rw[←hW0];have:=Row.new (w.alloc (.cells X 29)) 29 zP0
  rwa [World.size_alloc]at this)
 have x0:=(HA.out.2.cell 0).trans HX.out.c0
 go_enter Tryz.func25,Tryz.ntmps25
 go_wp2_with (refine wpList_store_new rfl (.tmp 3) (.tmp 7) rfl (zP p.k false false 0 [] [] 0 [] false 0 false [] [] 0 false false false [] [] false 0 (.slice none 0 0) (.slice none 0 0) (.slice none 0 0)) zP0 W0 rfl (by kernel_rfl) rfl (by simp[Value.oneCell']) rfl rfl ?_;intro w1 hw1)
 refine zh ?_;have k1:Keeps W0 w1 []:=by rw[←hw1];exact Keeps.alloc _ _
 have HB:=zh (show Row w1 W0.heap.size 29 (zP p.k false false 0 [] [] 0 [] false 0 false [] [] 0 false false false [] [] false 0 (.slice none 0 0) (.slice none 0 0) (.slice none 0 0))from by rw[←hw1];exact Row.new _ _ _);obtain⟨b,hb⟩:∃b,W0.heap.size=b:=⟨_,rfl⟩;have HBW:=zh (show w.heap.size+1 < b by have:=HRS.out.lt;omega);have HNE:=zh (show w.heap.size≠b by have:=HBW.out;omega);replace HA:=zh (show Keeps w w1 []∧Row w1 w.heap.size 29 X from⟨HA.out.1.then_ k1,HA.out.2.keeps k1⟩);replace HRS:=zh (HRS.out.keeps k1);rw[hb]at HB ⊢
 clear x0 k1 hw1 hb hW0;have x0:=(HA.out.2.cell 0).trans HX.out.c0;have b1:(p.k==1)=false:=beq_eq_false_iff_ne.2 (by have:=HKD.out;omega);have b2:(p.k==2)=false:=beq_eq_false_iff_ne.2 (by have:=HKD.out;omega);have b3:(p.k==3)=false:=beq_eq_false_iff_ne.2 (by have:=HKD.out;omega);have b4:decide (p.k≥4)=true:=by have:=HKD.out;simp;omega
 have b11:decide (p.k≤11)=true:=by have:=HKD.out;simp;omega
 have b8:(p.k==8)=false:=beq_eq_false_iff_ne.2 (by have:=HKD.out;omega);have b9:(p.k==9)=false:=beq_eq_false_iff_ne.2 (by have:=HKD.out;omega);have b10:(p.k==10)=false:=beq_eq_false_iff_ne.2 (by have:=HKD.out;omega);have x6:=(HA.out.2.cell 6).trans HX.out.c6;have y6:=HB.out.cell 6;have f6:=HB.out.frozen 6;simp only[zga,zgz,zgs]at y6
 go_upto_region 11 with fail
 obtain⟨w2,hw2⟩:∃w2,w1.setCell ⟨b,6,none⟩ (.int .i64 p.id)=w2:=⟨_,rfl⟩;have k2:Keeps w1 w2 [b]:=by rw[←hw2];exact Keeps.setCell _ _ _
 have HB6:=zh (show Row w2 b 29 (zP p.k false false 0 [] [] p.id [] false 0 false [] [] 0 false false false [] [] false 0 (.slice none 0 0) (.slice none 0 0) (.slice none 0 0))by rw[←hw2];exact HB.out.store 6 _);replace HA:=zh (show Keeps w w2 []∧Row w2 w.heap.size 29 X from⟨HA.out.1.trans k2 (fun y hy hlt=>by have:=HBW.out;simp at hy;omega),HA.out.2.keep k2 (by simpa using HNE.out)⟩);replace HRS:=zh (HRS.out.keep k2 (by have:=HBW.out;simp;omega));rw[hw2];clear hw2 k2 x6 y6 f6 x0;have HF:=zh HB6.out
 go_upto_region 17 with fail
 refine wp_region_lit ?_;refine wpList_loadX (by kernel_rfl) rfl rfl HF.out Tryz.underlying29 rfl (by kernel_rfl) ?_;refine wpList_store_row rfl (.tmp 2) (.tmp 95) 29 rfl (w.heap.size+1) (zP p.k false false 0 [] [] p.id [] false 0 false [] [] 0 false false false [] [] false 0 (.slice none 0 0) (.slice none 0 0) (.slice none 0 0)) zP0 HRS.out (by kernel_rfl) rfl (by simp[Value.oneCell']) rfl rfl ?_;intro va ra ka;have HE:=zh (And.intro ra (HA.out.1.trans ka (fun y hy hlt=>by simp at hy;omega)));clear ra ka;simp only[Act.put,zsa,zsc,zsz];obtain⟨Y,hY⟩:∃Y:Array Value,(zP p.k false false 0 [] [] p.id [] false 0 false [] [] 0 false false false [] [] false 0 (.slice none 0 0) (.slice none 0 0) (.slice none 0 0))=Y:=⟨_,rfl⟩;rw[hY]at HE
 go_wp2_with fail
 obtain⟨d,hu,hd⟩:=undPack;refine bodyPost_ret (results_row (s:=2) (cs:=Y.toList) rfl rfl (range_row HE.out.1) hu hd (by rw[←hY];kernel_rfl)) rfl ⟨.slice none 0 0,.slice none 0 0,.slice none 0 0, ?_, ?_,HE.out.2⟩
 ·rw[←hY,al4 HKD.out]
  rfl
 ·intro W hl
  rw[al4 HKD.out];exact PkL.empty rfl rfl rfl
set_option maxRecDepth 100000 in
set_option maxHeartbeats 8000000 in
theorem alone8_walk (p:Pk)(X:Array Value)(A1 A2 A3:Option Addr)(n1 n2 n3 c1 c2 c3:Nat)(w:World)(h:PkAt p X (.slice A1 n1 c1) (.slice A2 n2 c2) (.slice A3 n3 c3))(hk:p.k=8):Calls Tryz.prog 25 #[.agg X] w (AlPost w p (.slice A1 n1 c1) (.slice A2 n2 c2) (.slice A3 n3 c3)):=by
 have HX:=zh h;have HKD:=zh hk;clear h hk;obtain⟨W0,hW0⟩:∃W0,(w.alloc (.cells X 29)).alloc (.cells zP0 29)=W0:=⟨_,rfl⟩;have HA:=zh (show Keeps w W0 []∧Row W0 w.heap.size 29 X from by
  rw[←hW0];exact⟨(Keeps.alloc _ _).then_alloc _,(Row.new _ _ _).alloc _⟩)
 have HRS:=zh (show Row W0 (w.heap.size+1) 29 zP0 from by
  rw[←hW0];have:=Row.new (w.alloc (.cells X 29)) 29 zP0
  rwa [World.size_alloc]at this)
 have x0:=(HA.out.2.cell 0).trans HX.out.c0
 go_enter Tryz.func25,Tryz.ntmps25
 go_wp2_with (refine wpList_store_new rfl (.tmp 3) (.tmp 7) rfl (zP p.k false false 0 [] [] 0 [] false 0 false [] [] 0 false false false [] [] false 0 (.slice none 0 0) (.slice none 0 0) (.slice none 0 0)) zP0 W0 rfl (by kernel_rfl) rfl (by simp[Value.oneCell']) rfl rfl ?_;intro w1 hw1)
 refine zh ?_;have k1:Keeps W0 w1 []:=by rw[←hw1];exact Keeps.alloc _ _
 have HB:=zh (show Row w1 W0.heap.size 29 (zP p.k false false 0 [] [] 0 [] false 0 false [] [] 0 false false false [] [] false 0 (.slice none 0 0) (.slice none 0 0) (.slice none 0 0))from by rw[←hw1];exact Row.new _ _ _);obtain⟨b,hb⟩:∃b,W0.heap.size=b:=⟨_,rfl⟩;have HBW:=zh (show w.heap.size+1 < b by have:=HRS.out.lt;omega);have HNE:=zh (show w.heap.size≠b by have:=HBW.out;omega);replace HA:=zh (show Keeps w w1 []∧Row w1 w.heap.size 29 X from⟨HA.out.1.then_ k1,HA.out.2.keeps k1⟩);replace HRS:=zh (HRS.out.keeps k1);rw[hb]at HB ⊢
 clear x0 k1 hw1 hb hW0;have x0:=(HA.out.2.cell 0).trans HX.out.c0;have b1:(p.k==1)=false:=beq_eq_false_iff_ne.2 (by have:=HKD.out;omega);have b2:(p.k==2)=false:=beq_eq_false_iff_ne.2 (by have:=HKD.out;omega);have b3:(p.k==3)=false:=beq_eq_false_iff_ne.2 (by have:=HKD.out;omega);have b4:decide (p.k≥4)=true:=by have:=HKD.out;simp;omega
 have b11:decide (p.k≤11)=true:=by have:=HKD.out;simp;omega
 have b8:(p.k==8)=true:=beq_iff_eq.2 HKD.out;have x6:=(HA.out.2.cell 6).trans HX.out.c6;have y6:=HB.out.cell 6;have f6:=HB.out.frozen 6;simp only[zga,zgz,zgs]at y6
 go_upto_region 11 with fail
 obtain⟨w2,hw2⟩:∃w2,w1.setCell ⟨b,6,none⟩ (.int .i64 p.id)=w2:=⟨_,rfl⟩;have k2:Keeps w1 w2 [b]:=by rw[←hw2];exact Keeps.setCell _ _ _
 have HB6:=zh (show Row w2 b 29 (zP p.k false false 0 [] [] p.id [] false 0 false [] [] 0 false false false [] [] false 0 (.slice none 0 0) (.slice none 0 0) (.slice none 0 0))by rw[←hw2];exact HB.out.store 6 _);replace HA:=zh (show Keeps w w2 []∧Row w2 w.heap.size 29 X from⟨HA.out.1.trans k2 (fun y hy hlt=>by have:=HBW.out;simp at hy;omega),HA.out.2.keep k2 (by simpa using HNE.out)⟩);replace HRS:=zh (HRS.out.keep k2 (by have:=HBW.out;simp;omega));rw[hw2];clear hw2 k2 x6 y6 f6 x0;have xl:=(HA.out.2.cell 21).trans HX.out.c21;have yl:=HB6.out.cell 21;have fl:=HB6.out.frozen 21;simp only[zga,zgz,zgs]at yl
 go_upto_region 17 with fail
 obtain⟨w3,hw3⟩:∃w3,w2.setCell ⟨b,21,none⟩ (.slice A1 n1 c1)=w3:=⟨_,rfl⟩;have k3:Keeps w2 w3 [b]:=by rw[←hw3];exact Keeps.setCell _ _ _
 have HF:=zh (show Row w3 b 29 (zP p.k false false 0 [] [] p.id [] false 0 false [] [] 0 false false false [] [] false 0 (.slice A1 n1 c1) (.slice none 0 0) (.slice none 0 0))by rw[←hw3];exact HB6.out.store 21 _);replace HA:=zh (show Keeps w w3 []∧Row w3 w.heap.size 29 X from⟨HA.out.1.trans k3 (fun y hy hlt=>by have:=HBW.out;simp at hy;omega),HA.out.2.keep k3 (by simpa using HNE.out)⟩);replace HRS:=zh (HRS.out.keep k3 (by have:=HBW.out;simp;omega));rw[hw3];clear hw3 k3 xl yl fl;refine wp_region_lit ?_;refine wpList_loadX (by kernel_rfl) rfl rfl HF.out Tryz.underlying29 rfl (by kernel_rfl) ?_;refine wpList_store_row rfl (.tmp 2) (.tmp 95) 29 rfl (w.heap.size+1) (zP p.k false false 0 [] [] p.id [] false 0 false [] [] 0 false false false [] [] false 0 (.slice A1 n1 c1) (.slice none 0 0) (.slice none 0 0)) zP0 HRS.out (by kernel_rfl) rfl (by simp[Value.oneCell']) rfl rfl ?_;intro va ra ka;have HE:=zh (And.intro ra (HA.out.1.trans ka (fun y hy hlt=>by simp at hy;omega)));clear ra ka;simp only[Act.put,zsa,zsc,zsz];obtain⟨Y,hY⟩:∃Y:Array Value,(zP p.k false false 0 [] [] p.id [] false 0 false [] [] 0 false false false [] [] false 0 (.slice A1 n1 c1) (.slice none 0 0) (.slice none 0 0))=Y:=⟨_,rfl⟩;rw[hY]at HE
 go_wp2_with fail
 obtain⟨d,hu,hd⟩:=undPack;refine bodyPost_ret (results_row (s:=2) (cs:=Y.toList) rfl rfl (range_row HE.out.1) hu hd (by rw[←hY];kernel_rfl)) rfl ⟨.slice A1 n1 c1,.slice none 0 0,.slice none 0 0, ?_, ?_,HE.out.2⟩
 ·rw[←hY,al8 HKD.out]
  rfl
 ·intro W hl
  rw[al8 HKD.out];obtain⟨A,c,e,h⟩:=hl.lw;exact⟨⟨A,c,e,h⟩,⟨none,0,rfl,ListG.nil _ _ _ _⟩,⟨none,0,rfl,ListG.nil _ _ _ _⟩⟩
set_option maxRecDepth 100000 in
set_option maxHeartbeats 8000000 in
theorem alone9_walk (p:Pk)(X:Array Value)(A1 A2 A3:Option Addr)(n1 n2 n3 c1 c2 c3:Nat)(w:World)(h:PkAt p X (.slice A1 n1 c1) (.slice A2 n2 c2) (.slice A3 n3 c3))(hk:p.k=9):Calls Tryz.prog 25 #[.agg X] w (AlPost w p (.slice A1 n1 c1) (.slice A2 n2 c2) (.slice A3 n3 c3)):=by
 have HX:=zh h;have HKD:=zh hk;clear h hk;obtain⟨W0,hW0⟩:∃W0,(w.alloc (.cells X 29)).alloc (.cells zP0 29)=W0:=⟨_,rfl⟩;have HA:=zh (show Keeps w W0 []∧Row W0 w.heap.size 29 X from by
  rw[←hW0];exact⟨(Keeps.alloc _ _).then_alloc _,(Row.new _ _ _).alloc _⟩)
 have HRS:=zh (show Row W0 (w.heap.size+1) 29 zP0 from by
  rw[←hW0];have:=Row.new (w.alloc (.cells X 29)) 29 zP0
  rwa [World.size_alloc]at this)
 have x0:=(HA.out.2.cell 0).trans HX.out.c0
 go_enter Tryz.func25,Tryz.ntmps25
 go_wp2_with (refine wpList_store_new rfl (.tmp 3) (.tmp 7) rfl (zP p.k false false 0 [] [] 0 [] false 0 false [] [] 0 false false false [] [] false 0 (.slice none 0 0) (.slice none 0 0) (.slice none 0 0)) zP0 W0 rfl (by kernel_rfl) rfl (by simp[Value.oneCell']) rfl rfl ?_;intro w1 hw1)
 refine zh ?_;have k1:Keeps W0 w1 []:=by rw[←hw1];exact Keeps.alloc _ _
 have HB:=zh (show Row w1 W0.heap.size 29 (zP p.k false false 0 [] [] 0 [] false 0 false [] [] 0 false false false [] [] false 0 (.slice none 0 0) (.slice none 0 0) (.slice none 0 0))from by rw[←hw1];exact Row.new _ _ _);obtain⟨b,hb⟩:∃b,W0.heap.size=b:=⟨_,rfl⟩;have HBW:=zh (show w.heap.size+1 < b by have:=HRS.out.lt;omega);have HNE:=zh (show w.heap.size≠b by have:=HBW.out;omega);replace HA:=zh (show Keeps w w1 []∧Row w1 w.heap.size 29 X from⟨HA.out.1.then_ k1,HA.out.2.keeps k1⟩);replace HRS:=zh (HRS.out.keeps k1);rw[hb]at HB ⊢
 clear x0 k1 hw1 hb hW0;have x0:=(HA.out.2.cell 0).trans HX.out.c0;have b1:(p.k==1)=false:=beq_eq_false_iff_ne.2 (by have:=HKD.out;omega);have b2:(p.k==2)=false:=beq_eq_false_iff_ne.2 (by have:=HKD.out;omega);have b3:(p.k==3)=false:=beq_eq_false_iff_ne.2 (by have:=HKD.out;omega);have b4:decide (p.k≥4)=true:=by have:=HKD.out;simp;omega
 have b11:decide (p.k≤11)=true:=by have:=HKD.out;simp;omega
 have b8:(p.k==8)=false:=beq_eq_false_iff_ne.2 (by have:=HKD.out;omega);have b9:(p.k==9)=true:=beq_iff_eq.2 HKD.out;have x6:=(HA.out.2.cell 6).trans HX.out.c6;have y6:=HB.out.cell 6;have f6:=HB.out.frozen 6;simp only[zga,zgz,zgs]at y6
 go_upto_region 11 with fail
 obtain⟨w2,hw2⟩:∃w2,w1.setCell ⟨b,6,none⟩ (.int .i64 p.id)=w2:=⟨_,rfl⟩;have k2:Keeps w1 w2 [b]:=by rw[←hw2];exact Keeps.setCell _ _ _
 have HB6:=zh (show Row w2 b 29 (zP p.k false false 0 [] [] p.id [] false 0 false [] [] 0 false false false [] [] false 0 (.slice none 0 0) (.slice none 0 0) (.slice none 0 0))by rw[←hw2];exact HB.out.store 6 _);replace HA:=zh (show Keeps w w2 []∧Row w2 w.heap.size 29 X from⟨HA.out.1.trans k2 (fun y hy hlt=>by have:=HBW.out;simp at hy;omega),HA.out.2.keep k2 (by simpa using HNE.out)⟩);replace HRS:=zh (HRS.out.keep k2 (by have:=HBW.out;simp;omega));rw[hw2];clear hw2 k2 x6 y6 f6 x0;have xl:=(HA.out.2.cell 22).trans HX.out.c22;have yl:=HB6.out.cell 22;have fl:=HB6.out.frozen 22;simp only[zga,zgz,zgs]at yl
 go_upto_region 17 with fail
 obtain⟨w3,hw3⟩:∃w3,w2.setCell ⟨b,22,none⟩ (.slice A2 n2 c2)=w3:=⟨_,rfl⟩;have k3:Keeps w2 w3 [b]:=by rw[←hw3];exact Keeps.setCell _ _ _
 have HF:=zh (show Row w3 b 29 (zP p.k false false 0 [] [] p.id [] false 0 false [] [] 0 false false false [] [] false 0 (.slice none 0 0) (.slice A2 n2 c2) (.slice none 0 0))by rw[←hw3];exact HB6.out.store 22 _);replace HA:=zh (show Keeps w w3 []∧Row w3 w.heap.size 29 X from⟨HA.out.1.trans k3 (fun y hy hlt=>by have:=HBW.out;simp at hy;omega),HA.out.2.keep k3 (by simpa using HNE.out)⟩);replace HRS:=zh (HRS.out.keep k3 (by have:=HBW.out;simp;omega));rw[hw3];clear hw3 k3 xl yl fl;refine wp_region_lit ?_;refine wpList_loadX (by kernel_rfl) rfl rfl HF.out Tryz.underlying29 rfl (by kernel_rfl) ?_;refine wpList_store_row rfl (.tmp 2) (.tmp 95) 29 rfl (w.heap.size+1) (zP p.k false false 0 [] [] p.id [] false 0 false [] [] 0 false false false [] [] false 0 (.slice none 0 0) (.slice A2 n2 c2) (.slice none 0 0)) zP0 HRS.out (by kernel_rfl) rfl (by simp[Value.oneCell']) rfl rfl ?_;intro va ra ka;have HE:=zh (And.intro ra (HA.out.1.trans ka (fun y hy hlt=>by simp at hy;omega)));clear ra ka;simp only[Act.put,zsa,zsc,zsz];obtain⟨Y,hY⟩:∃Y:Array Value,(zP p.k false false 0 [] [] p.id [] false 0 false [] [] 0 false false false [] [] false 0 (.slice none 0 0) (.slice A2 n2 c2) (.slice none 0 0))=Y:=⟨_,rfl⟩;rw[hY]at HE
 go_wp2_with fail
 obtain⟨d,hu,hd⟩:=undPack;refine bodyPost_ret (results_row (s:=2) (cs:=Y.toList) rfl rfl (range_row HE.out.1) hu hd (by rw[←hY];kernel_rfl)) rfl ⟨.slice none 0 0,.slice A2 n2 c2,.slice none 0 0, ?_, ?_,HE.out.2⟩
 ·rw[←hY,al9 HKD.out]
  rfl
 ·intro W hl
  rw[al9 HKD.out];obtain⟨A,c,e,h⟩:=hl.lc;exact⟨⟨none,0,rfl,ListG.nil _ _ _ _⟩,⟨A,c,e,h⟩,⟨none,0,rfl,ListG.nil _ _ _ _⟩⟩
set_option maxRecDepth 100000 in
set_option maxHeartbeats 8000000 in
theorem alone10_walk (p:Pk)(X:Array Value)(A1 A2 A3:Option Addr)(n1 n2 n3 c1 c2 c3:Nat)(w:World)(h:PkAt p X (.slice A1 n1 c1) (.slice A2 n2 c2) (.slice A3 n3 c3))(hk:p.k=10):Calls Tryz.prog 25 #[.agg X] w (AlPost w p (.slice A1 n1 c1) (.slice A2 n2 c2) (.slice A3 n3 c3)):=by
 have HX:=zh h;have HKD:=zh hk;clear h hk;obtain⟨W0,hW0⟩:∃W0,(w.alloc (.cells X 29)).alloc (.cells zP0 29)=W0:=⟨_,rfl⟩;have HA:=zh (show Keeps w W0 []∧Row W0 w.heap.size 29 X from by
  rw[←hW0];exact⟨(Keeps.alloc _ _).then_alloc _,(Row.new _ _ _).alloc _⟩)
 have HRS:=zh (show Row W0 (w.heap.size+1) 29 zP0 from by
  rw[←hW0];have:=Row.new (w.alloc (.cells X 29)) 29 zP0
  rwa [World.size_alloc]at this)
 have x0:=(HA.out.2.cell 0).trans HX.out.c0
 go_enter Tryz.func25,Tryz.ntmps25
 go_wp2_with (refine wpList_store_new rfl (.tmp 3) (.tmp 7) rfl (zP p.k false false 0 [] [] 0 [] false 0 false [] [] 0 false false false [] [] false 0 (.slice none 0 0) (.slice none 0 0) (.slice none 0 0)) zP0 W0 rfl (by kernel_rfl) rfl (by simp[Value.oneCell']) rfl rfl ?_;intro w1 hw1)
 refine zh ?_;have k1:Keeps W0 w1 []:=by rw[←hw1];exact Keeps.alloc _ _
 have HB:=zh (show Row w1 W0.heap.size 29 (zP p.k false false 0 [] [] 0 [] false 0 false [] [] 0 false false false [] [] false 0 (.slice none 0 0) (.slice none 0 0) (.slice none 0 0))from by rw[←hw1];exact Row.new _ _ _);obtain⟨b,hb⟩:∃b,W0.heap.size=b:=⟨_,rfl⟩;have HBW:=zh (show w.heap.size+1 < b by have:=HRS.out.lt;omega);have HNE:=zh (show w.heap.size≠b by have:=HBW.out;omega);replace HA:=zh (show Keeps w w1 []∧Row w1 w.heap.size 29 X from⟨HA.out.1.then_ k1,HA.out.2.keeps k1⟩);replace HRS:=zh (HRS.out.keeps k1);rw[hb]at HB ⊢
 clear x0 k1 hw1 hb hW0;have x0:=(HA.out.2.cell 0).trans HX.out.c0;have b1:(p.k==1)=false:=beq_eq_false_iff_ne.2 (by have:=HKD.out;omega);have b2:(p.k==2)=false:=beq_eq_false_iff_ne.2 (by have:=HKD.out;omega);have b3:(p.k==3)=false:=beq_eq_false_iff_ne.2 (by have:=HKD.out;omega);have b4:decide (p.k≥4)=true:=by have:=HKD.out;simp;omega
 have b11:decide (p.k≤11)=true:=by have:=HKD.out;simp;omega
 have b8:(p.k==8)=false:=beq_eq_false_iff_ne.2 (by have:=HKD.out;omega);have b9:(p.k==9)=false:=beq_eq_false_iff_ne.2 (by have:=HKD.out;omega);have b10:(p.k==10)=true:=beq_iff_eq.2 HKD.out;have x6:=(HA.out.2.cell 6).trans HX.out.c6;have y6:=HB.out.cell 6;have f6:=HB.out.frozen 6;simp only[zga,zgz,zgs]at y6
 go_upto_region 11 with fail
 obtain⟨w2,hw2⟩:∃w2,w1.setCell ⟨b,6,none⟩ (.int .i64 p.id)=w2:=⟨_,rfl⟩;have k2:Keeps w1 w2 [b]:=by rw[←hw2];exact Keeps.setCell _ _ _
 have HB6:=zh (show Row w2 b 29 (zP p.k false false 0 [] [] p.id [] false 0 false [] [] 0 false false false [] [] false 0 (.slice none 0 0) (.slice none 0 0) (.slice none 0 0))by rw[←hw2];exact HB.out.store 6 _);replace HA:=zh (show Keeps w w2 []∧Row w2 w.heap.size 29 X from⟨HA.out.1.trans k2 (fun y hy hlt=>by have:=HBW.out;simp at hy;omega),HA.out.2.keep k2 (by simpa using HNE.out)⟩);replace HRS:=zh (HRS.out.keep k2 (by have:=HBW.out;simp;omega));rw[hw2];clear hw2 k2 x6 y6 f6 x0;have xl:=(HA.out.2.cell 23).trans HX.out.c23;have yl:=HB6.out.cell 23;have fl:=HB6.out.frozen 23;simp only[zga,zgz,zgs]at yl
 go_upto_region 17 with fail
 obtain⟨w3,hw3⟩:∃w3,w2.setCell ⟨b,23,none⟩ (.slice A3 n3 c3)=w3:=⟨_,rfl⟩;have k3:Keeps w2 w3 [b]:=by rw[←hw3];exact Keeps.setCell _ _ _
 have HF:=zh (show Row w3 b 29 (zP p.k false false 0 [] [] p.id [] false 0 false [] [] 0 false false false [] [] false 0 (.slice none 0 0) (.slice none 0 0) (.slice A3 n3 c3))by rw[←hw3];exact HB6.out.store 23 _);replace HA:=zh (show Keeps w w3 []∧Row w3 w.heap.size 29 X from⟨HA.out.1.trans k3 (fun y hy hlt=>by have:=HBW.out;simp at hy;omega),HA.out.2.keep k3 (by simpa using HNE.out)⟩);replace HRS:=zh (HRS.out.keep k3 (by have:=HBW.out;simp;omega));rw[hw3];clear hw3 k3 xl yl fl;refine wp_region_lit ?_;refine wpList_loadX (by kernel_rfl) rfl rfl HF.out Tryz.underlying29 rfl (by kernel_rfl) ?_;refine wpList_store_row rfl (.tmp 2) (.tmp 95) 29 rfl (w.heap.size+1) (zP p.k false false 0 [] [] p.id [] false 0 false [] [] 0 false false false [] [] false 0 (.slice none 0 0) (.slice none 0 0) (.slice A3 n3 c3)) zP0 HRS.out (by kernel_rfl) rfl (by simp[Value.oneCell']) rfl rfl ?_;intro va ra ka;have HE:=zh (And.intro ra (HA.out.1.trans ka (fun y hy hlt=>by simp at hy;omega)));clear ra ka;simp only[Act.put,zsa,zsc,zsz];obtain⟨Y,hY⟩:∃Y:Array Value,(zP p.k false false 0 [] [] p.id [] false 0 false [] [] 0 false false false [] [] false 0 (.slice none 0 0) (.slice none 0 0) (.slice A3 n3 c3))=Y:=⟨_,rfl⟩;rw[hY]at HE
 go_wp2_with fail
 obtain⟨d,hu,hd⟩:=undPack;refine bodyPost_ret (results_row (s:=2) (cs:=Y.toList) rfl rfl (range_row HE.out.1) hu hd (by rw[←hY];kernel_rfl)) rfl ⟨.slice none 0 0,.slice none 0 0,.slice A3 n3 c3, ?_, ?_,HE.out.2⟩
 ·rw[←hY,al10 HKD.out]
  rfl
 ·intro W hl
  rw[al10 HKD.out];obtain⟨A,c,e,h⟩:=hl.lf;exact⟨⟨none,0,rfl,ListG.nil _ _ _ _⟩,⟨none,0,rfl,ListG.nil _ _ _ _⟩,⟨A,c,e,h⟩⟩
theorem alone_any (p:Pk)(X:Array Value)(sw sc sf:Value)(w:World)(h:PkAt p X sw sc sf)(hl:PkL w p sw sc sf)(hk:1≤p.k∧p.k≤14):Calls Tryz.prog 25 #[.agg X] w (AlPost w p sw sc sf):=by
 obtain⟨A1,c1,A2,c2,A3,c3,rfl,rfl,rfl⟩:=hl.slices
 rcases pk_kinds (pkIn_iff.2 hk)with e | e | e | e | e | e | e | e
 ·exact alone1_walk p X _ _ _ _ _ _ _ _ _ w h e
 ·exact alone2_walk p X _ _ _ _ _ _ _ _ _ w h e
 ·exact alone3_walk p X _ _ _ _ _ _ _ _ _ w h e
 ·exact alone8_walk p X _ _ _ _ _ _ _ _ _ w h e
 ·exact alone9_walk p X _ _ _ _ _ _ _ _ _ w h e
 ·exact alone10_walk p X _ _ _ _ _ _ _ _ _ w h e
 ·exact alone12_walk p X _ _ _ _ _ _ _ _ _ w h e
 ·exact alone4_walk p X _ _ _ _ _ _ _ _ _ w h e
end Go.Proofs.YtahbikfbjenfpaaGreatDoor
