/- Cells of a row stored in one go. Package packet: what a kind that has an ID has of a packet; its flags. slices.Clone of bytes. Walks over package wire (layer 3): a reader. -/
import Derived.Test.YtahbikfbjenfpaaGreatDoorPa0
import Derived.Deep.MidRow
import Derived.Test.YtahbikfbjenfpaaGreatDoorPa19
import Derived.Test.YtahbikfbjenfpaaGreatDoorPa2
import Derived.Handy
import Derived.StillTailTactics
set_option maxHeartbeats 2000000
set_option maxRecDepth 100000
namespace Go.Proofs.YtahbikfbjenfpaaGreatDoor
open Tryz Go.RowKit

def setFrom:List Value->Nat->Array Value->Array Value
 | [],_,cs=>cs
 | v::vs,o,cs=>setFrom vs (o+1) (cs.setIfInBounds o v)
theorem kI:∀(vs:List Value) (o:Nat) (cs:Array Value),(setFrom vs o cs).size=cs.size
 | [],_,_=>rfl
 | v::vs,o,cs=>by rw[setFrom,kI vs (o+1)];simp
theorem oW:∀(vs:List Value) (o:Nat) (cs:Array Value) (i:Nat),i < cs.size->(setFrom vs o cs)[i]? =if o<=i/\i < o+vs.length then vs[i - o]? else cs[i]?
 | [],o,cs,i,hi=>by rw[setFrom,aj (by simp)]
 | v::vs,o,cs,i,hi=>by
  rw[setFrom,oW vs (o+1) _ i (by simpa using hi)]
  by_cases h1:o+1<=i/\i < o+1+vs.length
  ·rw[aE h1,aE (by simp;omega),show i - o=(i - (o+1))+1 by omega,fe]
  ·rw[aj h1]
   by_cases h2:i=o
   ·subst h2
    rw[aE (by simp),Nat.sub_self,bU];simp[hi]
   ·rw[aj (by simp;omega)]
    simp[Ne.symm h2]
theorem Row.setCells {t:TypeId}{g:Nat}:∀(vs:List Value) (o:Nat) {w:au} {cs:Array Value},Row w g t cs->Row (w.setCells g o vs) g t (setFrom vs o cs)
 | [],_,_,_,h=>h
 | v::vs,o,_,_,h=>Row.setCells vs (o+1) (h.store o v)
theorem ae.setCells {g:Nat}:∀(vs:List Value) (o:Nat) (w:au),ae w (w.setCells g o vs) [g]
 | [],_,w=>ae.refl w [g]
 | v::vs,o,w=>(ae.setCell w ⟨g,o,none⟩ v).trans (ae.setCells vs (o+1) _) (λ_ h _=>h)
theorem Row.there {w:au}{g:Nat}{t:TypeId}{cs:Array Value}(h:Row w g t cs){o n:Nat}(hn:o+n<=cs.size):w.there g o n:=λj hj=>⟨by rw[h.cell (o+j),lS (by omega)];rfl,h.frozen (o+j)⟩
theorem tX {X Z:Array Value}(h:Z.size=X.size):setFrom X.toList 0 Z=X:=by
 apply xA;intro i
 by_cases hi:i < Z.size
 ·rw[oW _ _ _ _ hi,aE ⟨Nat.zero_le _,by simp;omega⟩,Nat.sub_zero,uS]
 ·rw[tW (by rw[kI];omega),tW (by omega)]
/-- A whole value is laid into a box. -/
theorem wpList_store_row {P:Program}{ops:Array Oper}{Q:Exit->Act->au->Prop}{rest:List Oper}{op:Oper}{a:Act}{w:au}(hgd:op.guard=none)(x y:Operand)(t:TypeId)(ho:op.op= .store t x y)(g:Nat)(X Z:Array Value)(hr:Row w g t Z)(hi:(P.info? t).map (·.size)=some X.size)(hZ:Z.size=X.size)(h1:X.all (·.oneCell')=true)
  (hx:a.eval x= .pointer (some ⟨g,0,none⟩)) (hy:a.eval y= .agg X)
  (h:∀w',Row w' g t X->ae w w' [g]->wpList P ops Q rest (a.put op.dst undef) w'):wpList P ops Q (op::rest) a w:=by
 refine tV hgd λ_ hK=> ?_
 have hrun:=run_storeAt_mid (P:=P) w g 0 t X (hr.there (by omega)) hi h1;have h2:=hr.setCells X.toList 0;rw[tX hZ]at h2;unfold Oper.wp execOp;simp only[ho,hx,hy,fo,hrun,fk,gq];exact hK _ _ (h _ h2 (ae.setCells _ _ _))

/-- A kind that has an ID: that, and what the kind has besides. -/
theorem jO (p:Pk)(sw sc sf:Value)(A1 A2 A3:Option Addr)(n1 c1 n2 c2 n3 c3:Nat)(w:au)(i:FuncId)(bx:Nat)(hr:∀(args:Array Value) (w:au),(callFunc i args).run prog w= .ok (.enter i args) w)(hb:Row w bx 51 #[.func (.func i) #[] #[]])
  (HC:∀W,ae w W []->Calls prog i #[eO p sw sc sf] W λe w' =>e= .returned (.agg (tf 0 0 (.slice A1 n1 c1) (.slice A2 n2 c2) (.slice A3 n3 c3)))/\ae W w' []):
  Calls prog 110 #[eO p sw sc sf,.pointer (some ⟨bx,0,none⟩)] w λe w' =>e= .returned (.agg (tf 0 p.id (.slice A1 n1 c1) (.slice A2 n2 c2) (.slice A3 n3 c3)))/\ae w w' []:=by
 have HC:=zh HC;obtain⟨k,dup,ret,q,t,b,id,c,cl,keep,hw,wt,wb,wq,wr,hu,hp,u,pw,pr,code,wants,aF,fs⟩:=p;obtain⟨W0,aV⟩:∃W,(w).alloc (.cells (zP k dup ret q t b id c cl keep hw wt wb wq wr hu hp u pw pr code sw sc sf) 29)=W:=⟨_,rfl⟩;have k0:ae (w) W0 []:=by rw[<-aV];exact ae.alloc _ _
 have r0:Row W0 (w).heap.size 29 (zP k dup ret q t b id c cl keep hw wt wb wq wr hu hp u pw pr code sw sc sf):=by rw[<-aV];exact Row.new _ _ _
 obtain⟨W1,hW1⟩:∃W1,W0.alloc (.cells eM 29)=W1:=⟨_,rfl⟩;have k1:ae W0 W1 []:=by rw[<-hW1];exact ae.alloc _ _
 have s0:W0.heap.size=w.heap.size+1:=by rw[<-aV];simp
 have s1:W1.heap.size=w.heap.size+2:=by rw[<-hW1];simp[s0]
 have HP:=zh (r0.keeps k1);have HR:=zh (show Row W1 W0.heap.size 29 eM by rw[<-hW1];exact Row.new _ _ _);have HK:=zh (k0.ah k1);have HB:=zh ((hb.keeps k0).keeps k1);have HS:=zh (And.intro s0 s1);clear k0 r0 hb k1 s0 s1
 go_enter func110,ntmps110
 go_upto_region 1 with fail
 clear aV hW1;refine av ax _ 4 rfl (by kernel_rfl) (by kernel_rfl) (λ_=>ae.refl _ _) (λ_ _ _ h k=>h.trans k (by simp)) ?_;simp only[dc,dg,dF,dK];refine ll 51 (.tmp 1) (⟨bx,0,none⟩) (.func (.func i) #[] #[]) (λW hW=>((HB.o.keeps hW).cell 0).trans (by kernel_rfl)) ?_;refine lw 29 (.tmp 2) (w.heap.size) ((zL k dup ret q t b id c cl keep hw wt wb wq wr hu hp u pw pr code sw sc sf)) underlying29 (λW hW=>aD (HP.o.keeps hW)) ?_;refine pg i (#[]) (#[.agg (zP k dup ret q t b id c cl keep hw wt wb wq wr hu hp u pw pr code sw sc sf)]) (#[.agg (zP k dup ret q t b id c cl keep hw wt wb wq wr hu hp u pw pr code sw sc sf)]) (.agg (tf 0 0 (.slice A1 n1 c1) (.slice A2 n2 c2) (.slice A3 n3 c3))) (by first | rfl | simp) rfl hr (λ_=>by kernel_rfl) (λ_ _=>by kernel_rfl) (λW hW=>HC.o W (HK.o.ah hW)) ?_;refine bH (λv W' =>∃b,v= .pointer (some ⟨b,0,none⟩)/\Row W' b 29 eM/\w.heap.size+2<=b) (λW vals hW ag φ' hφ=> ?_) ?_
 ·simp only[af,knows]at ag
  try simp only[ai]at ag
  clear ag;refine⟨?_⟩;simp only[af,fill];go_simp;exact oy hφ (ae.alloc _ _) ⟨_,rfl,Row.new _ _ _,by have:=hW.size;have:=HS.o;omega⟩
 refine aq (λW vals hW ag=> ?_);simp only[af,aw]at ag
 try simp only[ai]at ag
 simp only[af,fill,Act.put,bo,bn,bh];obtain⟨W3,q0,q1,B,hv,hrow,Tg⟩:=ag;have lN:=zh hW;have PA:=zh Tg;have hrow:=hrow.keeps q1;rw[hv];clear hW Tg q0 q1;refine wpList_store_row rfl (.tmp 4) (.tmp 7) 29 rfl B (tf 0 0 (.slice A1 n1 c1) (.slice A2 n2 c2) (.slice A3 n3 c3)) eM hrow (by kernel_rfl) rfl (by simp[Value.oneCell']) rfl rfl ?_;intro w5 q9 k9;have Nr:=zh ((HR.o.keeps lN.o).keep k9 (by have:=PA.o;have:=HS.o;simp;omega));have R3:=zh ((HP.o.keeps lN.o).keep k9 (by have:=PA.o;have:=HS.o;simp;omega));have H9:=zh (And.intro q9 ((HK.o.ah lN.o).trans k9 (λx hx hlt=>by have:=PA.o;simp at hx;omega)));have x6:=R3.o.cell 6;have f6:=H9.o.1.frozen 6;have y6:=H9.o.1.cell 6;simp only[cg,bU,fe]at x6 y6;clear k9 q9 hrow hv
 go_upto_region 3 with fail
 clear x6 f6 y6;obtain⟨W6,FC⟩:∃W6,w5.setCell ⟨B,6,none⟩ (.int .i64 id)=W6:=⟨_,rfl⟩;have r6:Row W6 B 29 (tf 0 id (.slice A1 n1 c1) (.slice A2 n2 c2) (.slice A3 n3 c3)):=by rw[<-FC];exact H9.o.1.store 6 _
 have k6:ae w5 W6 [B]:=by rw[<-FC];exact ae.setCell _ _ _
 have g6:Row W6 W0.heap.size 29 eM:=Nr.o.keep k6 (by have:=PA.o;have:=HS.o.1;simp;omega);have H6:=zh (And.intro r6 (And.intro g6 (H9.o.2.trans k6 (λx hx hlt=>by have:=PA.o;simp at hx;omega))));rw[FC];clear FC r6 k6 g6;refine av ax _ 1 rfl (by kernel_rfl) (by kernel_rfl) (λ_=>ae.refl _ _) (λ_ _ _ h k=>h.trans k (by simp)) ?_;simp only[dc,dg,dF,dK];refine lw 29 (.tmp 4) (B) ((Qn 0 id (.slice A1 n1 c1) (.slice A2 n2 c2) (.slice A3 n3 c3))) underlying29 (λW hW=>aD (H6.o.1.keeps hW)) ?_;refine aq (λW vals hW ag=> ?_);simp only[af,aw]at ag
 try simp only[ai]at ag
 simp only[af,fill,Act.put,bo,bn,bh];clear ag;refine wpList_store_row rfl (.tmp 3) (.tmp 11) 29 rfl W0.heap.size (tf 0 id (.slice A1 n1 c1) (.slice A2 n2 c2) (.slice A3 n3 c3)) eM (H6.o.2.1.keeps hW) (by kernel_rfl) rfl (by simp[Value.oneCell']) rfl rfl ?_;intro w7 r7 k7;have H7:=zh (And.intro r7 ((H6.o.2.2.ah hW).trans k7 (λx hx hlt=>by have:=HS.o.1;simp at hx;omega)));clear r7 k7 hW;obtain⟨X,hX⟩:∃X:Array Value,(tf 0 id (.slice A1 n1 c1) (.slice A2 n2 c2) (.slice A3 n3 c3))=X:=⟨_,rfl⟩;rw[hX]at H7
 go_wp2_with fail
 obtain⟨d,hu,hd⟩:=cI;refine bD (aW (s:=3) (cs:=X.toList) rfl rfl (aD H7.o.1) hu hd (by rw[<-hX];kernel_rfl)) rfl ⟨?_,H7.o.2⟩;rw[<-hX]
/-- What a kind has of a packet. -/
def gj (w:au)(p:Pk)(sw sc sf:Value)(e:Ending)(w' :au):Prop:=∃rK rO rN,e= .returned (eO (fG p) rK rO rN)/\(∀W,fR W p sw sc sf->fR W (fG p) rK rO rN)/\ae w w' []
theorem fR.slices {w:au}{p:Pk}{sw sc sf:Value}(h:fR w p sw sc sf):∃A1 c1 A2 c2 A3 c3,sw= .slice A1 p.wants.length c1/\sc= .slice A2 p.aF.length c2/\sf= .slice A3 p.fs.length c3:=by
 obtain⟨A,a,rfl,_⟩:=h.lw;obtain⟨B,b,rfl,_⟩:=h.lc;obtain⟨C,c,rfl,_⟩:=h.lf;exact⟨A,a,B,b,C,c,rfl,rfl,rfl⟩
theorem fR.empty {w:au}{p:Pk}(h1:p.wants= [])(h2:p.aF= [])(h3:p.fs= []):fR w p aN aN aN:=
 ⟨⟨none,0,by rw[h1];rfl,by rw[h1];exact cY.nil _ _ _ _⟩,⟨none,0,by rw[h2];rfl,by rw[h2];exact cY.nil _ _ _ _⟩,⟨none,0,by rw[h3];rfl,by rw[h3];exact cY.nil _ _ _ _⟩⟩
theorem A8 (p:Pk)(sw sc sf:Value)(w:au)(hk:p.k=1)(hl:fR w p sw sc sf):Calls prog 128 #[eO p sw sc sf] w (gj w p sw sc sf):=by
 obtain⟨A1,c1,A2,c2,A3,c3,rfl,rfl,rfl⟩:=hl.slices;have e:fG p= {bN with c:=p.c,cl:=p.cl,keep:=p.keep,hw:=p.hw,wt:=p.wt,wb:=p.wb,wq:=p.wq,wr:=p.wr,hu:=p.hu,hp:=p.hp,u:=p.u,pw:=p.pw}:=by unfold fG aL;rw[aE hk];rfl
 refine(C5 p A1 A2 A3 _ c1 _ c2 _ c3 w).mono λe0 w' ⟨h1,h2⟩=>⟨_,_,_,h1.trans ?_,λ_ _=>fR.empty (by rw[e];rfl) (by rw[e];rfl) (by rw[e];rfl),h2⟩
 rw[e];rfl
theorem AZ (p:Pk)(sw sc sf:Value)(w:au)(hk:p.k=2)(hl:fR w p sw sc sf):Calls prog 53 #[eO p sw sc sf] w (gj w p sw sc sf):=by
 obtain⟨A1,c1,A2,c2,A3,c3,rfl,rfl,rfl⟩:=hl.slices;have e:fG p= {bN with pr:=p.pr,code:=p.code}:=by unfold fG aL;rw[aj (by omega),aE hk];rfl
 refine(C4 p A1 A2 A3 _ c1 _ c2 _ c3 w).mono λe0 w' ⟨h1,h2⟩=>⟨_,_,_,h1.trans ?_,λ_ _=>fR.empty (by rw[e];rfl) (by rw[e];rfl) (by rw[e];rfl),h2⟩
 rw[e];rfl
theorem AY (p:Pk)(sw sc sf:Value)(w:au)(hk:p.k=3)(hl:fR w p sw sc sf):Calls prog 133 #[eO p sw sc sf] w (gj w p sw sc sf):=by
 obtain⟨A1,c1,A2,c2,A3,c3,rfl,rfl,rfl⟩:=hl.slices;have e:fG p= {bN with t:=p.t,b:=p.b,q:=p.q,ret:=p.ret,dup:=p.dup,id:=p.id}:=by unfold fG aL;rw[aj (by omega),aj (by omega),aE hk];rfl
 refine(C3 p A1 A2 A3 _ c1 _ c2 _ c3 w).mono λe0 w' ⟨h1,h2⟩=>⟨_,_,_,h1.trans ?_,λ_ _=>fR.empty (by rw[e];rfl) (by rw[e];rfl) (by rw[e];rfl),h2⟩
 rw[e];rfl
theorem yQ (p:Pk)(sw sc sf:Value)(w:au)(hk:p.k=12\/p.k=13\/p.k=14)(hl:fR w p sw sc sf):Calls prog 49 #[eO p sw sc sf] w (gj w p sw sc sf):=by
 obtain⟨A1,c1,A2,c2,A3,c3,rfl,rfl,rfl⟩:=hl.slices;have e:fG p=bN:=by unfold fG aL;rw[aj (by omega),aj (by omega),aj (by omega),aj (by omega),aj (by omega),aj (by omega),aE hk];rfl
 refine(wT p A1 A2 A3 _ c1 _ c2 _ c3 w).mono λe0 w' ⟨h1,h2⟩=>⟨_,_,_,h1.trans ?_,λ_ _=>fR.empty (by rw[e];rfl) (by rw[e];rfl) (by rw[e];rfl),h2⟩
 rw[e];rfl
theorem Gn (args:Array Value)(w:au):(callFunc 60 args).run prog w= .ok (.enter 60 args) w:=by kernel_rfl
theorem Gm (args:Array Value)(w:au):(callFunc 72 args).run prog w= .ok (.enter 72 args) w:=by kernel_rfl
theorem EL (args:Array Value)(w:au):(callFunc 80 args).run prog w= .ok (.enter 80 args) w:=by kernel_rfl
theorem Gp (args:Array Value)(w:au):(callFunc 139 args).run prog w= .ok (.enter 139 args) w:=by kernel_rfl
theorem AX (p:Pk)(sw sc sf:Value)(w:au)(hk:p.k=8)(hl:fR w p sw sc sf)(bx:Nat)(hb:Row w bx 51 #[.func (.func 60) #[] #[]]):Calls prog 110 #[eO p sw sc sf,.pointer (some ⟨bx,0,none⟩)] w (gj w p sw sc sf):=by
 obtain⟨A1,c1,A2,c2,A3,c3,rfl,rfl,rfl⟩:=hl.slices;have e:fG p= {bN with id:=p.id,wants:=p.wants}:=by unfold fG aL;rw[aj (by omega),aj (by omega),aj (by omega),aE hk];rfl
 refine(jO p _ _ _ A1 none none _ c1 0 0 0 0 w _ bx Gn hb λW _=>C2 p A1 A2 A3 _ c1 _ c2 _ c3 W).mono λe0 w' ⟨h1,h2⟩=>⟨.slice A1 p.wants.length c1,.slice none 0 0,.slice none 0 0,h1.trans ?_, ?_,h2⟩
 ·rw[e]
  rfl
 ·intro W Om
  obtain⟨B,b,e1,h3⟩:=Om.lw;rw[e];exact⟨⟨B,b,e1,h3⟩,⟨none,0,rfl,cY.nil _ _ _ _⟩,⟨none,0,rfl,cY.nil _ _ _ _⟩⟩
theorem AW (p:Pk)(sw sc sf:Value)(w:au)(hk:p.k=9)(hl:fR w p sw sc sf)(bx:Nat)(hb:Row w bx 51 #[.func (.func 72) #[] #[]]):Calls prog 110 #[eO p sw sc sf,.pointer (some ⟨bx,0,none⟩)] w (gj w p sw sc sf):=by
 obtain⟨A1,c1,A2,c2,A3,c3,rfl,rfl,rfl⟩:=hl.slices;have e:fG p= {bN with id:=p.id,aF:=p.aF}:=by unfold fG aL;rw[aj (by omega),aj (by omega),aj (by omega),aj (by omega),aE hk];rfl
 refine(jO p _ _ _ none A2 none 0 0 _ c2 0 0 w _ bx Gm hb λW _=>C0 p A1 A2 A3 _ c1 _ c2 _ c3 W).mono λe0 w' ⟨h1,h2⟩=>⟨.slice none 0 0,.slice A2 p.aF.length c2,.slice none 0 0,h1.trans ?_, ?_,h2⟩
 ·rw[e]
  rfl
 ·intro W Om
  obtain⟨B,b,e1,h3⟩:=Om.lc;rw[e];exact⟨⟨none,0,rfl,cY.nil _ _ _ _⟩,⟨B,b,e1,h3⟩,⟨none,0,rfl,cY.nil _ _ _ _⟩⟩
theorem yR (p:Pk)(sw sc sf:Value)(w:au)(hk:p.k=10)(hl:fR w p sw sc sf)(bx:Nat)(hb:Row w bx 51 #[.func (.func 80) #[] #[]]):Calls prog 110 #[eO p sw sc sf,.pointer (some ⟨bx,0,none⟩)] w (gj w p sw sc sf):=by
 obtain⟨A1,c1,A2,c2,A3,c3,rfl,rfl,rfl⟩:=hl.slices;have e:fG p= {bN with id:=p.id,fs:=p.fs}:=by unfold fG aL;rw[aj (by omega),aj (by omega),aj (by omega),aj (by omega),aj (by omega),aE hk];rfl
 refine(jO p _ _ _ none none A3 0 0 0 0 _ c3 w _ bx EL hb λW _=>A_ p A1 A2 A3 _ c1 _ c2 _ c3 W).mono λe0 w' ⟨h1,h2⟩=>⟨.slice none 0 0,.slice none 0 0,.slice A3 p.fs.length c3,h1.trans ?_, ?_,h2⟩
 ·rw[e]
  rfl
 ·intro W Om
  obtain⟨B,b,e1,h3⟩:=Om.lf;rw[e];exact⟨⟨none,0,rfl,cY.nil _ _ _ _⟩,⟨none,0,rfl,cY.nil _ _ _ _⟩,⟨B,b,e1,h3⟩⟩
theorem ui (p:Pk)(sw sc sf:Value)(w:au)(hk:p.k=4\/p.k=5\/p.k=6\/p.k=7\/p.k=11)(hl:fR w p sw sc sf)(bx:Nat)(hb:Row w bx 51 #[.func (.func 139) #[] #[]]):Calls prog 110 #[eO p sw sc sf,.pointer (some ⟨bx,0,none⟩)] w (gj w p sw sc sf):=by
 obtain⟨A1,c1,A2,c2,A3,c3,rfl,rfl,rfl⟩:=hl.slices;have e:fG p= {bN with id:=p.id}:=by unfold fG aL;rw[aj (by omega),aj (by omega),aj (by omega),aj (by omega),aj (by omega),aj (by omega),aj (by omega)];rfl
 refine(jO p _ _ _ none none none 0 0 0 0 0 0 w _ bx Gp hb λW _=>yS p A1 A2 A3 _ c1 _ c2 _ c3 W).mono λe0 w' ⟨h1,h2⟩=>⟨_,_,_,h1.trans ?_,λ_ _=>fR.empty (by rw[e];rfl) (by rw[e];rfl) (by rw[e];rfl),h2⟩
 rw[e];rfl
/-- A list's kind's flags. -/
theorem gN (p:Pk)(sw sc sf:Value)(w:au)(n:Int)(bx:Nat)(hb:Row w bx 3 #[.int .i64 n]):Calls prog 111 #[eO p sw sc sf,.pointer (some ⟨bx,0,none⟩)] w λe w' =>e= .returned (.int .i64 n)/\ae w w' []:=by
 obtain⟨k,dup,ret,q,t,b,id,c,cl,keep,hw,wt,wb,wq,wr,hu,hp,u,pw,pr,code,wants,aF,fs⟩:=p;have c0:=hb.cell 0;have hlt:=hb.lt;simp only[cg,bU]at c0
 go_enter func111,ntmps111
 go_wp2_with fail
 go_ret;exact⟨rfl,ae.alloc _ _⟩

theorem DC (w:au)(ad:Addr)(c:Nat)(l:aG)(hlen:l.length<=140737488351232)(hL:cG w w.heap.size (some ad) (l.map bq)):
  Calls prog 90 #[.slice (some ad) l.length c] w λe w' =>∃v,e= .returned v/\aS w' w.heap.size v l/\ae w w' []:=by
 have HL:=zh hL;clear hL;obtain⟨i0,hi,hz0,hz1,hz2⟩:=info_parts lB
 go_enter func90,ntmps90
 have hnil:∀w:au,(binOp .eql 32 (.slice (some ad) l.length c) aN).run prog w= .ok (.bool false) w:=λw=>Lib.run_eql_slice_nil w _ _ _ _ _ _ _ fF
 go_wp2_with (at_builtin;refine iI _ rfl (.tmp 5) (.tmp 6) 32 rfl w.heap.size 5 i0 (.int .u8 0) 1 fF hi hz0 hz1 hz2 rfl (.slice (some ⟨w.heap.size,0,none⟩) 0 0) 0 [] rfl (wP w w.heap.size (bE _)) w.heap.size (some ad) l.length c (l.map bq) rfl (by simp) (HL.o.below ((Below.refl _ _).alloc (bE _) _)) (tM l) (by simp[maxLen];omega) (by omega) (by simp) ?_;intro v' w1 hown hg hb)
 have HO:=zh (And.intro hown hg);clear hown hg
 go_wp2
 go_ret;refine⟨v',rfl,by simpa using HO.o.1,(ae.alloc _ _).trans (ae.fY HO.o.2) (by simp[Value.ownBlock])⟩

theorem FK (w:au):
  Calls prog 90 #[.slice none 0 0] w λe w' =>e= .returned aN/\w=w' :=by
 have hnil:∀w:au,(binOp .eql 32 aN aN).run prog w= .ok (.bool true) w:=λw=>Lib.run_eql_slice_nil w _ _ _ _ _ _ _ fF
 go_enter func90,ntmps90
 go_wp2
 go_ret;exact⟨rfl,rfl⟩

theorem yh (w:au)(v:Value)(l:aG)(h:Bytes w w.heap.size v l):
  Calls prog 90 #[v] w λe w' =>∃v',e= .returned v' /\aS w' w.heap.size v' l/\ae w w' []:=by
 obtain⟨A,c,rfl,hc,hnil,hcm,hlen,hL⟩:=h
 rcases A with _ | ad
 ·obtain rfl:=hnil rfl
  have hl:l= []:=Ex (by omega);subst hl;refine(FK w).mono ?_;rintro e w' ⟨rfl,rfl⟩;exact⟨_,rfl,xw _ _ _ _,ae.refl _ _⟩
 ·exact DC w ad c l (by omega) hL

/-- A reader at r (in blocks from base on) that has the bytes l left. -/
def Rd (w:au)(base r:Nat)(l:aG):Prop:=
 ∃A c,Row w r 130 #[.slice A l.length c,.bool true]/\base<=r/\l.length<=c/\(A=none->c=0)/\c<=maxLen/\cG w w.heap.size A (l.map bq)/\∀ad,A=some ad->base<=ad.block/\ad.block < r

theorem Rd.keep {w w' :au}{base r:Nat}{l:aG}{S:List Nat}(h:Rd w base r l)(hk:ae w w' S)(hS:∀x,x∈S->x < base):Rd w' base r l:=by
 obtain⟨A,c,h1,h2,h3,h4,h5,h6,h7⟩:=h;refine⟨A,c,h1.keep hk (λhm=>by have:=hS _ hm;omega),h2,h3,h4,h5, ?_,h7⟩;exact(h6.yc hk (bE _) (λb o e hm=>by have:=hS _ hm;have:=(h7 _ e).1;simp at this;omega)).mono hk.size

theorem jG (w:au)(r:Nat)(v:Value)(h:Row w r 130 #[v,.bool true]):
  Calls prog 100 #[.pointer (some ⟨r,0,none⟩)] w λe w' =>e= .returned (.bool false)/\w=w' :=by
 have h1:=h.cell 1;have H:=zh h;clear h
 go_enter func100,ntmps100
 go_wp2
 go_ret;exact⟨rfl,rfl⟩

theorem qH (w:au)(v:Value)(l:aG)(h:Bytes w w.heap.size v l):
  Calls prog 32 #[v] w λe w' =>∃r,e= .returned (.pointer (some ⟨r,0,none⟩))/\Rd w' w.heap.size r l/\ae w w' []:=by
 have hlen:=h.len;have H:=zh h;clear h
 go_enter func32,ntmps32
 go_wp2_with fail
 refine(yh _ _ _ H.o).mono ?_;rintro e w1 ⟨v',rfl,ho,hk⟩;obtain⟨A,c,rfl,hc,hcm,hnil,hL⟩:=ho.parts;have HO:=zh (And.intro ho hk);clear ho hk;have HL:=zh (And.intro hL hnil);clear hL hnil
 go_wp2
 go_ret;have ho:=HO.o.1;refine⟨w1.heap.size,rfl,⟨A,c,Row.new _ _ _,HO.o.2.size,hc,HL.o.2,hcm,(HL.o.1.keep (ae.alloc _ _) (bE _) (by simp)).mono (by simp), ?_⟩,HO.o.2.trans (ae.alloc _ _) (by simp)⟩;rintro ad rfl;have:=aS.block ho;omega

theorem ld (w:au)(r:Nat):
  Calls prog 152 #[.pointer (some ⟨r,0,none⟩)] w λe w' =>e= .returned (.func (.func 163) #[] #[.pointer (some ⟨w.heap.size,0,none⟩)])/\w' =w.alloc (.cells #[.pointer (some ⟨r,0,none⟩)] 71):=by
 have PT:∀(fn:Fn) (first cap:Array Value) (w:au),(Instr.makeFunc fn first cap).run prog w= .ok (.func fn first cap) w:=λ_ _ _ _=>rfl
 go_enter func152,ntmps152
 go_wp2
 go_ret;exact⟨rfl,rfl⟩

theorem oY (w:au)(r bx n len c:Nat)(A:Option Addr)(h:Row w r 130 #[.slice A len c,.bool true])(hb:w.cell? ⟨bx,0,none⟩=some (.pointer (some ⟨r,0,none⟩)))(hn:n<=len)(hc:len<=c)(_hcm:c<=maxLen):
  Calls prog 163 #[.int .i64 n,.pointer (some ⟨bx,0,none⟩)] w λe w' =>e= .returned (.tuple #[.slice A n n,.bool true])/\
   w' =(w.setCell ⟨r,0,none⟩ (.slice (if c=n then A else A.map (·.add n)) (len - n) (c - n))).drew:=by
 have h0:=h.cell 0;have hf:=h.frozen 0;have H:=zh h;clear h;have hlt:decide ((len:Int) < (n:Int))=false:=by simp;omega
 go_enter func163,ntmps163
 go_wp2
 go_still_tail 11,(by kernel_rfl)
 go_wp2
 all_goals
  go_ret2
  exact⟨rfl,rfl⟩
end Go.Proofs.YtahbikfbjenfpaaGreatDoor
