/- Cells of a row stored in one go. Package packet: what a kind that has an ID has of a packet; its flags. slices.Clone of bytes. Walks over package wire (layer 3): a reader. -/
import Derived.Test.YtahbikfbjenfpaaGreatDoorPa0
import Derived.Deep.MidRow
import Derived.Test.YtahbikfbjenfpaaGreatDoorPa19
import Derived.Test.YtahbikfbjenfpaaGreatDoorPa2
import Derived.Handy
import Derived.StillTailTactics

namespace Go.Proofs.YtahbikfbjenfpaaGreatDoor
open Go.RowKit

def setFrom:List Value→Nat→Array Value→Array Value
 | [],_,cs=>cs
 | v::vs,o,cs=>setFrom vs (o+1) (cs.setIfInBounds o v)
theorem setFrom_size:∀(vs:List Value) (o:Nat) (cs:Array Value),(setFrom vs o cs).size=cs.size
 | [],_,_=>rfl
 | v::vs,o,cs=>by rw[setFrom,setFrom_size vs (o+1)];simp
theorem setFrom_get:∀(vs:List Value) (o:Nat) (cs:Array Value) (i:Nat),i < cs.size→(setFrom vs o cs)[i]? =if o≤i∧i < o+vs.length then vs[i - o]? else cs[i]?
 | [],o,cs,i,hi=>by rw[setFrom,if_neg (by simp)]
 | v::vs,o,cs,i,hi=>by
  rw[setFrom,setFrom_get vs (o+1) _ i (by simpa using hi)]
  by_cases h1:o+1≤i∧i < o+1+vs.length
  ·rw[if_pos h1,if_pos (by simp;omega),show i - o=(i - (o+1))+1 by omega,zgs]
  ·rw[if_neg h1]
   by_cases h2:i=o
   ·subst h2
    rw[if_pos (by simp),Nat.sub_self,zgz];simp[hi]
   ·rw[if_neg (by simp;omega)]
    simp[Ne.symm h2]
theorem Row.setCells {t:TypeId}{g:Nat}:∀(vs:List Value) (o:Nat) {w:World} {cs:Array Value},Row w g t cs→Row (w.setCells g o vs) g t (setFrom vs o cs)
 | [],_,_,_,h=>h
 | v::vs,o,_,_,h=>Row.setCells vs (o+1) (h.store o v)
theorem Keeps.setCells {g:Nat}:∀(vs:List Value) (o:Nat) (w:World),Keeps w (w.setCells g o vs) [g]
 | [],_,w=>Keeps.refl w [g]
 | v::vs,o,w=>(Keeps.setCell w ⟨g,o,none⟩ v).trans (Keeps.setCells vs (o+1) _) (fun _ h _=>h)
theorem Row.there {w:World}{g:Nat}{t:TypeId}{cs:Array Value}(h:Row w g t cs){o n:Nat}(hn:o+n≤cs.size):w.there g o n:=fun j hj=>⟨by rw[h.cell (o+j),Array.getElem?_eq_getElem (by omega)];rfl,h.frozen (o+j)⟩
theorem setFrom_all {X Z:Array Value}(h:Z.size=X.size):setFrom X.toList 0 Z=X:=by
 apply Array.ext_getElem?;intro i
 by_cases hi:i < Z.size
 ·rw[setFrom_get _ _ _ _ hi,if_pos ⟨Nat.zero_le _,by simp;omega⟩,Nat.sub_zero,Array.getElem?_toList]
 ·rw[Array.getElem?_eq_none (by rw[setFrom_size];omega),Array.getElem?_eq_none (by omega)]
/-- A whole value is laid into a box. -/
theorem wpList_store_row {P:Program}{ops:Array Oper}{Q:Exit→Act→World→Prop}{rest:List Oper}{op:Oper}{a:Act}{w:World}(hgd:op.guard=none)(x y:Operand)(t:TypeId)(ho:op.op= .store t x y)(g:Nat)(X Z:Array Value)(hr:Row w g t Z)(hi:(P.info? t).map (·.size)=some X.size)(hZ:Z.size=X.size)(h1:X.all (·.oneCell')=true)
  (hx:a.eval x= .pointer (some ⟨g,0,none⟩)) (hy:a.eval y= .agg X)
  (h:∀w',Row w' g t X→Keeps w w' [g]→wpList P ops Q rest (a.put op.dst undef) w'):wpList P ops Q (op::rest) a w:=by
 refine wpList_plain hgd fun _ hK=> ?_
 have hrun:=run_storeAt_mid (P:=P) w g 0 t X (hr.there (by omega)) hi h1;have h2:=hr.setCells X.toList 0;rw[setFrom_all hZ]at h2;unfold Oper.wp execOp;simp only[ho,hx,hy,Sem.run_bind,hrun,Result.andThen_ok,Sem.run_pure];exact hK _ _ (h _ h2 (Keeps.setCells _ _ _))

set_option maxRecDepth 100000 in
set_option maxHeartbeats 2000000 in
/-- A kind that has an ID: that, and what the kind has besides. -/
theorem pkHasList_any (p:Pk)(sw sc sf:Value)(A1 A2 A3:Option Addr)(n1 c1 n2 c2 n3 c3:Nat)(w:World)(i:FuncId)(bx:Nat)(hr:∀(args:Array Value) (w:World),(callFunc i args).run Tryz.prog w= .ok (.enter i args) w)(hb:Row w bx 51 #[.func (.func i) #[] #[]])
  (HC:∀W,Keeps w W []→Calls Tryz.prog i #[pkV p sw sc sf] W fun e w' =>e= .returned (.agg (zP 0 false false 0 [] [] 0 [] false 0 false [] [] 0 false false false [] [] false 0 (.slice A1 n1 c1) (.slice A2 n2 c2) (.slice A3 n3 c3)))∧Keeps W w' []):
  Calls Tryz.prog 110 #[pkV p sw sc sf,.pointer (some ⟨bx,0,none⟩)] w fun e w' =>e= .returned (.agg (zP 0 false false 0 [] [] p.id [] false 0 false [] [] 0 false false false [] [] false 0 (.slice A1 n1 c1) (.slice A2 n2 c2) (.slice A3 n3 c3)))∧Keeps w w' []:=by
 have HC:=zh HC;obtain⟨k,dup,ret,q,t,b,id,c,cl,keep,hw,wt,wb,wq,wr,hu,hp,u,pw,pr,code,wants,codes,fs⟩:=p;obtain⟨W0,hW0⟩:∃W,(w).alloc (.cells (zP k dup ret q t b id c cl keep hw wt wb wq wr hu hp u pw pr code sw sc sf) 29)=W:=⟨_,rfl⟩;have k0:Keeps (w) W0 []:=by rw[←hW0];exact Keeps.alloc _ _
 have r0:Row W0 (w).heap.size 29 (zP k dup ret q t b id c cl keep hw wt wb wq wr hu hp u pw pr code sw sc sf):=by rw[←hW0];exact Row.new _ _ _
 obtain⟨W1,hW1⟩:∃W1,W0.alloc (.cells zP0 29)=W1:=⟨_,rfl⟩;have k1:Keeps W0 W1 []:=by rw[←hW1];exact Keeps.alloc _ _
 have s0:W0.heap.size=w.heap.size+1:=by rw[←hW0];simp
 have s1:W1.heap.size=w.heap.size+2:=by rw[←hW1];simp[s0]
 have HP:=zh (r0.keeps k1);have HR:=zh (show Row W1 W0.heap.size 29 zP0 by rw[←hW1];exact Row.new _ _ _);have HK:=zh (k0.then_ k1);have HB:=zh ((hb.keeps k0).keeps k1);have HS:=zh (And.intro s0 s1);clear k0 r0 hb k1 s0 s1
 go_enter Tryz.func110,Tryz.ntmps110
 go_upto_region 1 with fail
 clear hW0 hW1;refine wp_region_line KeepsAll _ 4 rfl (by kernel_rfl) (by kernel_rfl) (fun _=>Keeps.refl _ _) (fun _ _ _ h k=>h.trans k (by simp)) ?_;simp only[zts,ztz,zds,zdz];refine ll 51 (.tmp 1) (⟨bx,0,none⟩) (.func (.func i) #[] #[]) (fun W hW=>((HB.out.keeps hW).cell 0).trans (by kernel_rfl)) ?_;refine lw 29 (.tmp 2) (w.heap.size) ((zL k dup ret q t b id c cl keep hw wt wb wq wr hu hp u pw pr code sw sc sf)) Tryz.underlying29 (fun W hW=>range_row (HP.out.keeps hW)) ?_;refine loose_qv i (#[]) (#[.agg (zP k dup ret q t b id c cl keep hw wt wb wq wr hu hp u pw pr code sw sc sf)]) (#[.agg (zP k dup ret q t b id c cl keep hw wt wb wq wr hu hp u pw pr code sw sc sf)]) (.agg (zP 0 false false 0 [] [] 0 [] false 0 false [] [] 0 false false false [] [] false 0 (.slice A1 n1 c1) (.slice A2 n2 c2) (.slice A3 n3 c3))) (by first | rfl | simp) rfl hr (fun _=>by kernel_rfl) (fun _ _=>by kernel_rfl) (fun W hW=>HC.out W (HK.out.then_ hW)) ?_;refine loose_has (fun v W' =>∃b,v= .pointer (some ⟨b,0,none⟩)∧Row W' b 29 zP0∧w.heap.size+2≤b) (fun W vals hW hkn φ' hφ=> ?_) ?_
 ·simp only[addEnt,knows]at hkn
  try simp only[and_true]at hkn
  clear hkn;refine⟨?_⟩;simp only[addEnt,fill];go_simp;exact looseUpon_value hφ (Keeps.alloc _ _) ⟨_,rfl,Row.new _ _ _,by have:=hW.size;have:=HS.out;omega⟩
 refine loose_nil (fun W vals hW hkn=> ?_);simp only[addEnt,knowsAll]at hkn
 try simp only[and_true]at hkn
 simp only[addEnt,fill,Act.put,zsa,zsc,zsz];obtain⟨W3,q0,q1,B,hv,hrow,hBs⟩:=hkn;have HK2:=zh hW;have HBx:=zh hBs;have hrow:=hrow.keeps q1;rw[hv];clear hW hBs q0 q1;refine wpList_store_row rfl (.tmp 4) (.tmp 7) 29 rfl B (zP 0 false false 0 [] [] 0 [] false 0 false [] [] 0 false false false [] [] false 0 (.slice A1 n1 c1) (.slice A2 n2 c2) (.slice A3 n3 c3)) zP0 hrow (by kernel_rfl) rfl (by simp[Value.oneCell']) rfl rfl ?_;intro w5 q9 k9;have HR5:=zh ((HR.out.keeps HK2.out).keep k9 (by have:=HBx.out;have:=HS.out;simp;omega));have HP5:=zh ((HP.out.keeps HK2.out).keep k9 (by have:=HBx.out;have:=HS.out;simp;omega));have H9:=zh (And.intro q9 ((HK.out.then_ HK2.out).trans k9 (fun x hx hlt=>by have:=HBx.out;simp at hx;omega)));have x6:=HP5.out.cell 6;have f6:=H9.out.1.frozen 6;have y6:=H9.out.1.cell 6;simp only[zga,zgz,zgs]at x6 y6;clear k9 q9 hrow hv
 go_upto_region 3 with fail
 clear x6 f6 y6;obtain⟨W6,hW6⟩:∃W6,w5.setCell ⟨B,6,none⟩ (.int .i64 id)=W6:=⟨_,rfl⟩;have r6:Row W6 B 29 (zP 0 false false 0 [] [] id [] false 0 false [] [] 0 false false false [] [] false 0 (.slice A1 n1 c1) (.slice A2 n2 c2) (.slice A3 n3 c3)):=by rw[←hW6];exact H9.out.1.store 6 _
 have k6:Keeps w5 W6 [B]:=by rw[←hW6];exact Keeps.setCell _ _ _
 have g6:Row W6 W0.heap.size 29 zP0:=HR5.out.keep k6 (by have:=HBx.out;have:=HS.out.1;simp;omega);have H6:=zh (And.intro r6 (And.intro g6 (H9.out.2.trans k6 (fun x hx hlt=>by have:=HBx.out;simp at hx;omega))));rw[hW6];clear hW6 r6 k6 g6;refine wp_region_line KeepsAll _ 1 rfl (by kernel_rfl) (by kernel_rfl) (fun _=>Keeps.refl _ _) (fun _ _ _ h k=>h.trans k (by simp)) ?_;simp only[zts,ztz,zds,zdz];refine lw 29 (.tmp 4) (B) ((zL 0 false false 0 [] [] id [] false 0 false [] [] 0 false false false [] [] false 0 (.slice A1 n1 c1) (.slice A2 n2 c2) (.slice A3 n3 c3))) Tryz.underlying29 (fun W hW=>range_row (H6.out.1.keeps hW)) ?_;refine loose_nil (fun W vals hW hkn=> ?_);simp only[addEnt,knowsAll]at hkn
 try simp only[and_true]at hkn
 simp only[addEnt,fill,Act.put,zsa,zsc,zsz];clear hkn;refine wpList_store_row rfl (.tmp 3) (.tmp 11) 29 rfl W0.heap.size (zP 0 false false 0 [] [] id [] false 0 false [] [] 0 false false false [] [] false 0 (.slice A1 n1 c1) (.slice A2 n2 c2) (.slice A3 n3 c3)) zP0 (H6.out.2.1.keeps hW) (by kernel_rfl) rfl (by simp[Value.oneCell']) rfl rfl ?_;intro w7 r7 k7;have H7:=zh (And.intro r7 ((H6.out.2.2.then_ hW).trans k7 (fun x hx hlt=>by have:=HS.out.1;simp at hx;omega)));clear r7 k7 hW;obtain⟨X,hX⟩:∃X:Array Value,(zP 0 false false 0 [] [] id [] false 0 false [] [] 0 false false false [] [] false 0 (.slice A1 n1 c1) (.slice A2 n2 c2) (.slice A3 n3 c3))=X:=⟨_,rfl⟩;rw[hX]at H7
 go_wp2_with fail
 obtain⟨d,hu,hd⟩:=undPack;refine bodyPost_ret (results_row (s:=3) (cs:=X.toList) rfl rfl (range_row H7.out.1) hu hd (by rw[←hX];kernel_rfl)) rfl ⟨?_,H7.out.2⟩;rw[←hX]
/-- What a kind has of a packet. -/
def PkHasPost (w:World)(p:Pk)(sw sc sf:Value)(e:Ending)(w' :World):Prop:=∃sw' sc' sf',e= .returned (pkV (pkHas p) sw' sc' sf')∧(∀W,PkL W p sw sc sf→PkL W (pkHas p) sw' sc' sf')∧Keeps w w' []
theorem PkL.slices {w:World}{p:Pk}{sw sc sf:Value}(h:PkL w p sw sc sf):∃A1 c1 A2 c2 A3 c3,sw= .slice A1 p.wants.length c1∧sc= .slice A2 p.codes.length c2∧sf= .slice A3 p.fs.length c3:=by
 obtain⟨A,a,rfl,_⟩:=h.lw;obtain⟨B,b,rfl,_⟩:=h.lc;obtain⟨C,c,rfl,_⟩:=h.lf;exact⟨A,a,B,b,C,c,rfl,rfl,rfl⟩
theorem PkL.empty {w:World}{p:Pk}(h1:p.wants= [])(h2:p.codes= [])(h3:p.fs= []):PkL w p (.slice none 0 0) (.slice none 0 0) (.slice none 0 0):=
 ⟨⟨none,0,by rw[h1];rfl,by rw[h1];exact ListG.nil _ _ _ _⟩,⟨none,0,by rw[h2];rfl,by rw[h2];exact ListG.nil _ _ _ _⟩,⟨none,0,by rw[h3];rfl,by rw[h3];exact ListG.nil _ _ _ _⟩⟩
theorem pkHasP1_any (p:Pk)(sw sc sf:Value)(w:World)(hk:p.k=1)(hl:PkL w p sw sc sf):Calls Tryz.prog 128 #[pkV p sw sc sf] w (PkHasPost w p sw sc sf):=by
 obtain⟨A1,c1,A2,c2,A3,c3,rfl,rfl,rfl⟩:=hl.slices;have e:pkHas p= {pkZ with c:=p.c,cl:=p.cl,keep:=p.keep,hw:=p.hw,wt:=p.wt,wb:=p.wb,wq:=p.wq,wr:=p.wr,hu:=p.hu,hp:=p.hp,u:=p.u,pw:=p.pw}:=by unfold pkHas pkAlone;rw[if_pos hk];rfl
 refine(pkHas1_any p A1 A2 A3 _ c1 _ c2 _ c3 w).mono fun e0 w' ⟨h1,h2⟩=>⟨_,_,_,h1.trans ?_,fun _ _=>PkL.empty (by rw[e];rfl) (by rw[e];rfl) (by rw[e];rfl),h2⟩
 rw[e];rfl
theorem pkHasP2_any (p:Pk)(sw sc sf:Value)(w:World)(hk:p.k=2)(hl:PkL w p sw sc sf):Calls Tryz.prog 53 #[pkV p sw sc sf] w (PkHasPost w p sw sc sf):=by
 obtain⟨A1,c1,A2,c2,A3,c3,rfl,rfl,rfl⟩:=hl.slices;have e:pkHas p= {pkZ with pr:=p.pr,code:=p.code}:=by unfold pkHas pkAlone;rw[if_neg (by omega),if_pos hk];rfl
 refine(pkHas2_any p A1 A2 A3 _ c1 _ c2 _ c3 w).mono fun e0 w' ⟨h1,h2⟩=>⟨_,_,_,h1.trans ?_,fun _ _=>PkL.empty (by rw[e];rfl) (by rw[e];rfl) (by rw[e];rfl),h2⟩
 rw[e];rfl
theorem pkHasP3_any (p:Pk)(sw sc sf:Value)(w:World)(hk:p.k=3)(hl:PkL w p sw sc sf):Calls Tryz.prog 133 #[pkV p sw sc sf] w (PkHasPost w p sw sc sf):=by
 obtain⟨A1,c1,A2,c2,A3,c3,rfl,rfl,rfl⟩:=hl.slices;have e:pkHas p= {pkZ with t:=p.t,b:=p.b,q:=p.q,ret:=p.ret,dup:=p.dup,id:=p.id}:=by unfold pkHas pkAlone;rw[if_neg (by omega),if_neg (by omega),if_pos hk];rfl
 refine(pkHas3_any p A1 A2 A3 _ c1 _ c2 _ c3 w).mono fun e0 w' ⟨h1,h2⟩=>⟨_,_,_,h1.trans ?_,fun _ _=>PkL.empty (by rw[e];rfl) (by rw[e];rfl) (by rw[e];rfl),h2⟩
 rw[e];rfl
theorem pkHasP12_any (p:Pk)(sw sc sf:Value)(w:World)(hk:p.k=12∨p.k=13∨p.k=14)(hl:PkL w p sw sc sf):Calls Tryz.prog 49 #[pkV p sw sc sf] w (PkHasPost w p sw sc sf):=by
 obtain⟨A1,c1,A2,c2,A3,c3,rfl,rfl,rfl⟩:=hl.slices;have e:pkHas p=pkZ:=by unfold pkHas pkAlone;rw[if_neg (by omega),if_neg (by omega),if_neg (by omega),if_neg (by omega),if_neg (by omega),if_neg (by omega),if_pos hk];rfl
 refine(pkHasNone_any p A1 A2 A3 _ c1 _ c2 _ c3 w).mono fun e0 w' ⟨h1,h2⟩=>⟨_,_,_,h1.trans ?_,fun _ _=>PkL.empty (by rw[e];rfl) (by rw[e];rfl) (by rw[e];rfl),h2⟩
 rw[e];rfl
theorem run_has8 (args:Array Value)(w:World):(callFunc 60 args).run Tryz.prog w= .ok (.enter 60 args) w:=by kernel_rfl
theorem run_has9 (args:Array Value)(w:World):(callFunc 72 args).run Tryz.prog w= .ok (.enter 72 args) w:=by kernel_rfl
theorem run_has10 (args:Array Value)(w:World):(callFunc 80 args).run Tryz.prog w= .ok (.enter 80 args) w:=by kernel_rfl
theorem run_has4 (args:Array Value)(w:World):(callFunc 139 args).run Tryz.prog w= .ok (.enter 139 args) w:=by kernel_rfl
theorem pkHasP8_any (p:Pk)(sw sc sf:Value)(w:World)(hk:p.k=8)(hl:PkL w p sw sc sf)(bx:Nat)(hb:Row w bx 51 #[.func (.func 60) #[] #[]]):Calls Tryz.prog 110 #[pkV p sw sc sf,.pointer (some ⟨bx,0,none⟩)] w (PkHasPost w p sw sc sf):=by
 obtain⟨A1,c1,A2,c2,A3,c3,rfl,rfl,rfl⟩:=hl.slices;have e:pkHas p= {pkZ with id:=p.id,wants:=p.wants}:=by unfold pkHas pkAlone;rw[if_neg (by omega),if_neg (by omega),if_neg (by omega),if_pos hk];rfl
 refine(pkHasList_any p _ _ _ A1 none none _ c1 0 0 0 0 w _ bx run_has8 hb fun W _=>pkHas8_any p A1 A2 A3 _ c1 _ c2 _ c3 W).mono fun e0 w' ⟨h1,h2⟩=>⟨.slice A1 p.wants.length c1,.slice none 0 0,.slice none 0 0,h1.trans ?_, ?_,h2⟩
 ·rw[e]
  rfl
 ·intro W hlW
  obtain⟨B,b,e1,h3⟩:=hlW.lw;rw[e];exact⟨⟨B,b,e1,h3⟩,⟨none,0,rfl,ListG.nil _ _ _ _⟩,⟨none,0,rfl,ListG.nil _ _ _ _⟩⟩
theorem pkHasP9_any (p:Pk)(sw sc sf:Value)(w:World)(hk:p.k=9)(hl:PkL w p sw sc sf)(bx:Nat)(hb:Row w bx 51 #[.func (.func 72) #[] #[]]):Calls Tryz.prog 110 #[pkV p sw sc sf,.pointer (some ⟨bx,0,none⟩)] w (PkHasPost w p sw sc sf):=by
 obtain⟨A1,c1,A2,c2,A3,c3,rfl,rfl,rfl⟩:=hl.slices;have e:pkHas p= {pkZ with id:=p.id,codes:=p.codes}:=by unfold pkHas pkAlone;rw[if_neg (by omega),if_neg (by omega),if_neg (by omega),if_neg (by omega),if_pos hk];rfl
 refine(pkHasList_any p _ _ _ none A2 none 0 0 _ c2 0 0 w _ bx run_has9 hb fun W _=>pkHas9_any p A1 A2 A3 _ c1 _ c2 _ c3 W).mono fun e0 w' ⟨h1,h2⟩=>⟨.slice none 0 0,.slice A2 p.codes.length c2,.slice none 0 0,h1.trans ?_, ?_,h2⟩
 ·rw[e]
  rfl
 ·intro W hlW
  obtain⟨B,b,e1,h3⟩:=hlW.lc;rw[e];exact⟨⟨none,0,rfl,ListG.nil _ _ _ _⟩,⟨B,b,e1,h3⟩,⟨none,0,rfl,ListG.nil _ _ _ _⟩⟩
theorem pkHasP10_any (p:Pk)(sw sc sf:Value)(w:World)(hk:p.k=10)(hl:PkL w p sw sc sf)(bx:Nat)(hb:Row w bx 51 #[.func (.func 80) #[] #[]]):Calls Tryz.prog 110 #[pkV p sw sc sf,.pointer (some ⟨bx,0,none⟩)] w (PkHasPost w p sw sc sf):=by
 obtain⟨A1,c1,A2,c2,A3,c3,rfl,rfl,rfl⟩:=hl.slices;have e:pkHas p= {pkZ with id:=p.id,fs:=p.fs}:=by unfold pkHas pkAlone;rw[if_neg (by omega),if_neg (by omega),if_neg (by omega),if_neg (by omega),if_neg (by omega),if_pos hk];rfl
 refine(pkHasList_any p _ _ _ none none A3 0 0 0 0 _ c3 w _ bx run_has10 hb fun W _=>pkHas10_any p A1 A2 A3 _ c1 _ c2 _ c3 W).mono fun e0 w' ⟨h1,h2⟩=>⟨.slice none 0 0,.slice none 0 0,.slice A3 p.fs.length c3,h1.trans ?_, ?_,h2⟩
 ·rw[e]
  rfl
 ·intro W hlW
  obtain⟨B,b,e1,h3⟩:=hlW.lf;rw[e];exact⟨⟨none,0,rfl,ListG.nil _ _ _ _⟩,⟨none,0,rfl,ListG.nil _ _ _ _⟩,⟨B,b,e1,h3⟩⟩
theorem pkHasP4_any (p:Pk)(sw sc sf:Value)(w:World)(hk:p.k=4∨p.k=5∨p.k=6∨p.k=7∨p.k=11)(hl:PkL w p sw sc sf)(bx:Nat)(hb:Row w bx 51 #[.func (.func 139) #[] #[]]):Calls Tryz.prog 110 #[pkV p sw sc sf,.pointer (some ⟨bx,0,none⟩)] w (PkHasPost w p sw sc sf):=by
 obtain⟨A1,c1,A2,c2,A3,c3,rfl,rfl,rfl⟩:=hl.slices;have e:pkHas p= {pkZ with id:=p.id}:=by unfold pkHas pkAlone;rw[if_neg (by omega),if_neg (by omega),if_neg (by omega),if_neg (by omega),if_neg (by omega),if_neg (by omega),if_neg (by omega)];rfl
 refine(pkHasList_any p _ _ _ none none none 0 0 0 0 0 0 w _ bx run_has4 hb fun W _=>pkHasAns_any p A1 A2 A3 _ c1 _ c2 _ c3 W).mono fun e0 w' ⟨h1,h2⟩=>⟨_,_,_,h1.trans ?_,fun _ _=>PkL.empty (by rw[e];rfl) (by rw[e];rfl) (by rw[e];rfl),h2⟩
 rw[e];rfl
set_option maxRecDepth 100000 in
set_option maxHeartbeats 400000 in
/-- A list's kind's flags. -/
theorem pkFlagsList_any (p:Pk)(sw sc sf:Value)(w:World)(n:Int)(bx:Nat)(hb:Row w bx 3 #[.int .i64 n]):Calls Tryz.prog 111 #[pkV p sw sc sf,.pointer (some ⟨bx,0,none⟩)] w fun e w' =>e= .returned (.int .i64 n)∧Keeps w w' []:=by
 obtain⟨k,dup,ret,q,t,b,id,c,cl,keep,hw,wt,wb,wq,wr,hu,hp,u,pw,pr,code,wants,codes,fs⟩:=p;have c0:=hb.cell 0;have hlt:=hb.lt;simp only[zga,zgz]at c0
 go_enter Tryz.func111,Tryz.ntmps111
 go_wp2_with fail
 go_ret;exact⟨rfl,Keeps.alloc _ _⟩

set_option maxRecDepth 100000 in
set_option maxHeartbeats 1000000 in
theorem clone_some (w:World)(ad:Addr)(c:Nat)(l:List UInt8)(hlen:l.length≤140737488351232)(hL:Lies w w.heap.size (some ad) (l.map byteV)):
  Calls Tryz.prog 90 #[.slice (some ad) l.length c] w fun e w' =>∃v,e= .returned v∧Owned w' w.heap.size v l∧Keeps w w' []:=by
 have HL:=zh hL;clear hL;obtain⟨i0,hi,hz0,hz1,hz2⟩:=info_parts infoByte
 go_enter Tryz.func90,Tryz.ntmps90
 have hnil:∀w:World,(binOp .eql 32 (.slice (some ad) l.length c) (.slice none 0 0)).run Tryz.prog w= .ok (.bool false) w:=fun w=>Lib.run_eql_slice_nil w _ _ _ _ _ _ _ undBytes
 go_wp2_with (at_builtin;refine wpList_append_lies' _ rfl (.tmp 5) (.tmp 6) 32 rfl w.heap.size 5 i0 (.int .u8 0) 1 undBytes hi hz0 hz1 hz2 rfl (.slice (some ⟨w.heap.size,0,none⟩) 0 0) 0 [] rfl (run_empty_own w w.heap.size (Nat.le_refl _)) w.heap.size (some ad) l.length c (l.map byteV) rfl (by simp) (HL.out.below ((Below.refl _ _).alloc (Nat.le_refl _) _)) (byteV_one l) (by simp[maxLen];omega) (by omega) (by simp) ?_;intro v' w1 hown hg hb)
 have HO:=zh (And.intro hown hg);clear hown hg
 go_wp2
 go_ret;refine⟨v',rfl,by simpa using HO.out.1,(Keeps.alloc _ _).trans (Keeps.of_grown HO.out.2) (by simp[Value.ownBlock])⟩

set_option maxRecDepth 100000 in
set_option maxHeartbeats 1000000 in
theorem clone_nil (w:World):
  Calls Tryz.prog 90 #[.slice none 0 0] w fun e w' =>e= .returned (.slice none 0 0)∧w=w' :=by
 have hnil:∀w:World,(binOp .eql 32 (.slice none 0 0) (.slice none 0 0)).run Tryz.prog w= .ok (.bool true) w:=fun w=>Lib.run_eql_slice_nil w _ _ _ _ _ _ _ undBytes
 go_enter Tryz.func90,Tryz.ntmps90
 go_wp2
 go_ret;exact⟨rfl,rfl⟩

theorem clone_any (w:World)(v:Value)(l:List UInt8)(h:Bytes w w.heap.size v l):
  Calls Tryz.prog 90 #[v] w fun e w' =>∃v',e= .returned v' ∧Owned w' w.heap.size v' l∧Keeps w w' []:=by
 obtain⟨A,c,rfl,hc,hnil,hcm,hlen,hL⟩:=h
 rcases A with _ | ad
 ·obtain rfl:=hnil rfl
  have hl:l= []:=List.eq_nil_of_length_eq_zero (by omega);subst hl;refine(clone_nil w).mono ?_;rintro e w' ⟨rfl,rfl⟩;exact⟨_,rfl,World.ownsRow_nil _ _ _ _,Keeps.refl _ _⟩
 ·exact clone_some w ad c l (by omega) hL

/-- A reader at r (in blocks from base on) that has the bytes l left. -/
def Rd (w:World)(base r:Nat)(l:List UInt8):Prop:=
 ∃A c,Row w r 130 #[.slice A l.length c,.bool true]∧base≤r∧l.length≤c∧(A=none→c=0)∧c≤maxLen∧Lies w w.heap.size A (l.map byteV)∧∀ad,A=some ad→base≤ad.block∧ad.block < r

theorem Rd.keep {w w' :World}{base r:Nat}{l:List UInt8}{S:List Nat}(h:Rd w base r l)(hk:Keeps w w' S)(hS:∀x,x∈S→x < base):Rd w' base r l:=by
 obtain⟨A,c,h1,h2,h3,h4,h5,h6,h7⟩:=h;refine⟨A,c,h1.keep hk (fun hm=>by have:=hS _ hm;omega),h2,h3,h4,h5, ?_,h7⟩;exact(h6.keep' hk (Nat.le_refl _) (fun b o e hm=>by have:=hS _ hm;have:=(h7 _ e).1;simp at this;omega)).mono hk.size

set_option maxRecDepth 100000 in
set_option maxHeartbeats 400000 in
theorem rdNone_any (w:World)(r:Nat)(v:Value)(h:Row w r 130 #[v,.bool true]):
  Calls Tryz.prog 100 #[.pointer (some ⟨r,0,none⟩)] w fun e w' =>e= .returned (.bool false)∧w=w' :=by
 have h1:=h.cell 1;have H:=zh h;clear h
 go_enter Tryz.func100,Tryz.ntmps100
 go_wp2
 go_ret;exact⟨rfl,rfl⟩

set_option maxRecDepth 100000 in
set_option maxHeartbeats 400000 in
theorem newReader_any (w:World)(v:Value)(l:List UInt8)(h:Bytes w w.heap.size v l):
  Calls Tryz.prog 32 #[v] w fun e w' =>∃r,e= .returned (.pointer (some ⟨r,0,none⟩))∧Rd w' w.heap.size r l∧Keeps w w' []:=by
 have hlen:=h.len;have H:=zh h;clear h
 go_enter Tryz.func32,Tryz.ntmps32
 go_wp2_with fail
 refine(clone_any _ _ _ H.out).mono ?_;rintro e w1 ⟨v',rfl,ho,hk⟩;obtain⟨A,c,rfl,hc,hcm,hnil,hL⟩:=ho.parts;have HO:=zh (And.intro ho hk);clear ho hk;have HL:=zh (And.intro hL hnil);clear hL hnil
 go_wp2
 go_ret;have ho:=HO.out.1;refine⟨w1.heap.size,rfl,⟨A,c,Row.new _ _ _,HO.out.2.size,hc,HL.out.2,hcm,(HL.out.1.keep (Keeps.alloc _ _) (Nat.le_refl _) (by simp)).mono (by simp), ?_⟩,HO.out.2.trans (Keeps.alloc _ _) (by simp)⟩;rintro ad rfl;have:=Owned.block ho;omega

set_option maxRecDepth 100000 in
set_option maxHeartbeats 400000 in
theorem rdTake_any (w:World)(r:Nat):
  Calls Tryz.prog 152 #[.pointer (some ⟨r,0,none⟩)] w fun e w' =>e= .returned (.func (.func 163) #[] #[.pointer (some ⟨w.heap.size,0,none⟩)])∧w' =w.alloc (.cells #[.pointer (some ⟨r,0,none⟩)] 71):=by
 have hmf:∀(fn:Fn) (first cap:Array Value) (w:World),(Instr.makeFunc fn first cap).run Tryz.prog w= .ok (.func fn first cap) w:=fun _ _ _ _=>rfl
 go_enter Tryz.func152,Tryz.ntmps152
 go_wp2
 go_ret;exact⟨rfl,rfl⟩

set_option maxRecDepth 100000 in
set_option maxHeartbeats 1000000 in
theorem rdTake1_any (w:World)(r bx n len c:Nat)(A:Option Addr)(h:Row w r 130 #[.slice A len c,.bool true])(hb:w.cell? ⟨bx,0,none⟩=some (.pointer (some ⟨r,0,none⟩)))(hn:n≤len)(hc:len≤c)(_hcm:c≤maxLen):
  Calls Tryz.prog 163 #[.int .i64 n,.pointer (some ⟨bx,0,none⟩)] w fun e w' =>e= .returned (.tuple #[.slice A n n,.bool true])∧
   w' =(w.setCell ⟨r,0,none⟩ (.slice (if c=n then A else A.map (·.add n)) (len - n) (c - n))).drew:=by
 have h0:=h.cell 0;have hf:=h.frozen 0;have H:=zh h;clear h;have hlt:decide ((len:Int) < (n:Int))=false:=by simp;omega
 go_enter Tryz.func163,Tryz.ntmps163
 go_wp2
 go_still_tail 11,(by kernel_rfl)
 go_wp2
 all_goals
  go_ret2
  exact⟨rfl,rfl⟩
end Go.Proofs.YtahbikfbjenfpaaGreatDoor
