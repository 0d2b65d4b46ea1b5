/- Package packet: a writer that a call has made; how a packet is written, by its kind. Package packet: how lists are written, and a connect. Package packet: how a connect is written. -/
import Derived.Test.YtahbikfbjenfpaaGreatDoorPa20
import Derived.Test.YtahbikfbjenfpaaGreatDoorPa21
set_option maxHeartbeats 4000000
set_option maxRecDepth 100000
namespace Go.Proofs.YtahbikfbjenfpaaGreatDoor
open Tryz Go.RowKit

/-- A writer that was made since a world. -/
structure iM (w0 W:au)(p:Nat)(l:aG):Prop where
 k:ae w0 W []
 h:w0.heap.size<=p
 v:∃v,yn W w0.heap.size p v l
/-- What writing leaves alone: all rows but writers' and bytes'. -/
def b_ (W W' :au):Prop:=∀b t cs,Row W b t cs->120≠t->5≠t->Row W' b t cs
theorem b_.cA {W W' :au}(h:ae W W' []):b_ W W' :=λ_ _ _ hr _ _=>hr.keeps h
theorem b_.trans {W W' W'' :au}(h:b_ W W')(k:b_ W' W''):b_ W W'' :=λb t cs hr h1 h2=>k b t cs (h b t cs hr h1 h2) h1 h2
theorem iM.keeps {w0 W W' :au}{p:Nat}{l:aG}(h:iM w0 W p l)(hk:ae W W' []):iM w0 W' p l:=by
 obtain⟨v,hv⟩:=h.v;exact⟨h.k.ah hk,h.h,v,hv.keep hk (by simp) (by simp)⟩
theorem iM.of {w0 W W' :au}{p:Nat}{l l' :aG}{v v' :Value}(hK:ae w0 W [])(hh:w0.heap.size<=p)(hv:yn W w0.heap.size p v l)(hv' :yn W' w0.heap.size p v' l')(hk:ae W W' (p::v.ownBlock.toList)):iM w0 W' p l' /\b_ W W' :=by
 refine⟨⟨hK.trans hk (λx hx hlt=> ?_),hh,v',hv'⟩,λb t cs hr h1 h2=>hr.keep hk ?_⟩
 ·rcases List.mem_cons.1 hx with rfl | hx
  ·omega
  ·have:=dM hv.2 x (by simpa using hx)
   omega
 ·intro hb
  rcases List.mem_cons.1 hb with rfl | hb
  ·exact Row.fI hv.1 hr h1 rfl
  ·exact lr hv.2 hr h2 (by simpa using hb)
theorem nB {w0 W:au}{p:Nat}{l:aG}(h:iM w0 W p l)(s:aG)(hs:s.length<=65535)(hlen:l.length+(2+s.length)<=65536):
  Calls prog 67 #[.pointer (some ⟨p,0,none⟩),.string ⟨s.toArray⟩] W λe W' =>e= .returned (.int .i64 0)/\iM w0 W' p (l++aO s)/\b_ W W' :=by
 obtain⟨v,hv⟩:=h.v;refine(Ci W w0.heap.size p v l s hv hs hlen h.k.size).mono ?_;rintro e W' ⟨rfl,v',h1,h2,_⟩;exact⟨rfl,iM.of h.k h.h hv h1 h2⟩
theorem lW {w0 W:au}{p:Nat}{l:aG}(h:iM w0 W p l)(n k:Nat)(hk1:1<=k)(pG:k<=8)(hn:n < 256^k)(hlen:l.length+k<=65536){k' :Int}(hk:k' =k):
  Calls prog 56 #[.pointer (some ⟨p,0,none⟩),.int .u64 n,.int .i64 k'] W λe W' =>e= .returned (.int .i64 0)/\iM w0 W' p (l++dZ k n)/\b_ W W' :=by
 subst hk;obtain⟨v,hv⟩:=h.v;refine(nC W w0.heap.size p v l n k hv hk1 pG hn hlen h.k.size).mono ?_;rintro e W' ⟨rfl,v',h1,h2,_⟩;exact⟨rfl,iM.of h.k h.h hv h1 h2⟩
theorem Jj {w0 W:au}{p:Nat}{l:aG}(h:iM w0 W p l)(b:Bool)(hlen:l.length+1<=65536):
  Calls prog 55 #[.pointer (some ⟨p,0,none⟩),.bool b] W λe W' =>e= .returned (.int .i64 0)/\iM w0 W' p (l++aX (g_ b 1))/\b_ W W' :=by
 obtain⟨v,hv⟩:=h.v;refine(Ab W w0.heap.size p v l b hv hlen h.k.size).mono ?_;rintro e W' ⟨rfl,v',h1,h2,_⟩;have e:aX (g_ b 1)= [bif b then 1 else 0]:=by cases b <;> rfl
 rw[e];exact⟨rfl,iM.of h.k h.h hv h1 h2⟩
/-- What writing does. -/
def lE (w0 W:au)(p:Nat)(l:aG)(e:Ending)(W' :au):Prop:=e= .returned (.tuple #[])/\iM w0 W' p l/\b_ W W'
theorem nE {n:Nat}(h1:n<=65535):IntKind.u64.wrap (n:Int)=(n:Int):=IntWalk.u64_in _ ⟨by omega,by omega⟩
theorem EW (p:Pk)(sw sc sf:Value)(w0 w:au)(r:Nat)(l:aG)(h:iM w0 w r l)(hk:p.k=2)(hs:0<=p.code/\p.code<=5)(hl:l.length<=60000):
  Calls prog 54 #[.pointer (some ⟨r,0,none⟩),eO p sw sc sf] w (lE w0 w r (l++bg p)):=by
 rw[yY hk];obtain⟨N,hN⟩:∃N:Nat,p.code=(N:Int):=⟨p.code.toNat,by omega⟩;rw[hN]at hs;rw[hN,fT];obtain⟨k,dup,ret,q,t,b,id,c,cl,keep,hw,wt,wb,wq,wr,hu,hp,u,pw,pr,code,wants,aF,fs⟩:=p;simp only at hs hl hk;have jB:=zh hk;have mG:=zh hs;clear hk hs;obtain⟨W0,aV⟩:∃W,(w).alloc (.cells (zP k dup ret q t b id c cl keep hw wt wb wq wr hu hp u pw pr code sw sc sf) 29)=W:=⟨_,rfl⟩;have k0:ae (w) W0 []:=by rw[<-aV];exact ae.alloc _ _
 have r0:Row W0 (w).heap.size 29 (zP k dup ret q t b id c cl keep hw wt wb wq wr hu hp u pw pr code sw sc sf):=by rw[<-aV];exact Row.new _ _ _
 simp only at hN;subst hN;have HP:=zh r0;have HA:=zh (h.keeps k0);have HG:=zh (b_.cA k0);clear k0 r0 h
 go_enter func54,ntmps54
 go_upto_region 1 with fail
 clear aV;have hwc:=nE (n:=N) (by have:=mG.o;omega);refine av ax _ 3 rfl (by kernel_rfl) (by kernel_rfl) (λ_=>ae.refl _ _) (λ_ _ _ h k=>h.trans k (by simp)) ?_;simp only[dc,dg,dF,dK];refine lq (.pointer (some ⟨r,0,none⟩)) ?_;refine lq (.pointer (some ⟨w.heap.size,19,none⟩)) ?_;refine ll 4 (.tmp 5) (⟨w.heap.size,19,none⟩) (.bool pr) (λW hW=>((HP.o.keeps hW).cell 19).trans (by kernel_rfl)) ?_;refine aq (λW vals hW ag=> ?_);simp only[af,aw]at ag
 try simp only[ai]at ag
 simp only[af,fill,Act.put,bo,bn,bh];clear ag;have pS:=zh (HA.o.keeps hW);have rn:=zh (HP.o.keeps hW);have kF:=zh (HG.o.trans (b_.cA hW));clear hW
 go_wp2_with fail
 refine(Jj pS.o pr (by omega)).mono ?_;rintro e w1 ⟨rfl,ha,hg⟩;have HP:=zh (hg _ _ _ rn.o (by decide) (by decide));have HA:=zh ha;have HG:=zh (kF.o.trans hg);clear ha hg pS rn kF
 go_upto_region 2 with fail
 refine av ax _ 4 rfl (by kernel_rfl) (by kernel_rfl) (λ_=>ae.refl _ _) (λ_ _ _ h k=>h.trans k (by simp)) ?_;simp only[dc,dg,dF,dK];refine lq (.pointer (some ⟨r,0,none⟩)) ?_;refine lq (.pointer (some ⟨w.heap.size,20,none⟩)) ?_;refine ll 3 (.tmp 9) (⟨w.heap.size,20,none⟩) (.int .i64 (N:Int)) (λW hW=>((HP.o.keeps hW).cell 20).trans (by kernel_rfl)) ?_;refine aK (.int .u64 (N:Int)) (λ_=>by kernel_rfl) (λW _=>(show _=Result.ok (Next.value (.int .u64 (IntKind.u64.wrap (N:Int)))) W by kernel_rfl).trans (by rw[hwc])) ?_;refine aq (λW vals hW ag=> ?_);simp only[af,aw]at ag
 try simp only[ai]at ag
 simp only[af,fill,Act.put,bo,bn,bh];clear ag;have pS:=zh (HA.o.keeps hW);have rn:=zh (HP.o.keeps hW);have kF:=zh (HG.o.trans (b_.cA hW));clear hW
 go_wp2_with fail
 refine(lW pS.o N 1 (by omega) (by omega) (by have:=mG.o;simp;omega) (by simp only[bI,aX,aP];omega) rfl).mono ?_;rintro e w2 ⟨rfl,ha,hg⟩;have HP:=zh (hg _ _ _ rn.o (by decide) (by decide));have HA:=zh ha;have HG:=zh (kF.o.trans hg);clear ha hg pS rn kF
 go_wp2_with fail
 refine mM (jR rfl _ _ _) rfl ⟨rfl, ?_,HG.o⟩;rw[<-eK];exact HA.o
theorem EV (p:Pk)(sw sc sf:Value)(w0 w:au)(r:Nat)(l:aG)(h:iM w0 w r l)(hk:p.k=3)(hs:p.t.length<=200/\0<=p.id/\p.id<=65535)(hl:l.length<=60000):
  Calls prog 136 #[.pointer (some ⟨r,0,none⟩),eO p sw sc sf] w (lE w0 w r (l++(aO p.t++dB (decide (0 < p.q)) (bA p.id)))):=by
 obtain⟨N,hN⟩:∃N:Nat,p.id=(N:Int):=⟨p.id.toNat,by omega⟩;rw[hN]at hs;rw[hN,bA,fT]
 by_cases hq:0 < p.q
 ·rw[bz hq,show dB true (dZ 2 N)=dZ 2 N from rfl]
  have d1:decide (p.q > 0)=true:=bz hq;clear hq;obtain⟨k,dup,ret,q,t,b,id,c,cl,keep,hw,wt,wb,wq,wr,hu,hp,u,pw,pr,code,wants,aF,fs⟩:=p;simp only at hs hl hk;have jB:=zh hk;have mG:=zh hs;clear hk hs;obtain⟨W0,aV⟩:∃W,(w).alloc (.cells (zP k dup ret q t b id c cl keep hw wt wb wq wr hu hp u pw pr code sw sc sf) 29)=W:=⟨_,rfl⟩;have k0:ae (w) W0 []:=by rw[<-aV];exact ae.alloc _ _
  have r0:Row W0 (w).heap.size 29 (zP k dup ret q t b id c cl keep hw wt wb wq wr hu hp u pw pr code sw sc sf):=by rw[<-aV];exact Row.new _ _ _
  simp only at hN d1;subst hN;have HP:=zh r0;have HA:=zh (h.keeps k0);have HG:=zh (b_.cA k0);clear k0 r0 h
  go_enter func136,ntmps136
  go_upto_region 1 with fail
  clear aV;have hwc:=nE (n:=N) (by have:=mG.o;omega);refine av ax _ 3 rfl (by kernel_rfl) (by kernel_rfl) (λ_=>ae.refl _ _) (λ_ _ _ h k=>h.trans k (by simp)) ?_;simp only[dc,dg,dF,dK];refine lq (.pointer (some ⟨r,0,none⟩)) ?_;refine lq (.pointer (some ⟨w.heap.size,4,none⟩)) ?_;refine ll 9 (.tmp 5) (⟨w.heap.size,4,none⟩) (.string ⟨t.toArray⟩) (λW hW=>((HP.o.keeps hW).cell 4).trans (by kernel_rfl)) ?_;refine aq (λW vals hW ag=> ?_);simp only[af,aw]at ag
  try simp only[ai]at ag
  simp only[af,fill,Act.put,bo,bn,bh];clear ag;have pS:=zh (HA.o.keeps hW);have rn:=zh (HP.o.keeps hW);have kF:=zh (HG.o.trans (b_.cA hW));clear hW
  go_wp2_with fail
  refine(nB pS.o t (by have:=mG.o;omega) (by have:=mG.o;omega)).mono ?_;rintro e w1 ⟨rfl,ha,hg⟩;have HP:=zh (hg _ _ _ rn.o (by decide) (by decide));have HA:=zh ha;have HG:=zh (kF.o.trans hg);clear ha hg pS rn kF;have x3:=HP.o.cell 3;simp only[cg,bU,fe]at x3
  go_upto_region 3 with fail
  refine av ax _ 4 rfl (by kernel_rfl) (by kernel_rfl) (λ_=>ae.refl _ _) (λ_ _ _ h k=>h.trans k (by simp)) ?_;simp only[dc,dg,dF,dK];refine lq (.pointer (some ⟨r,0,none⟩)) ?_;refine lq (.pointer (some ⟨w.heap.size,6,none⟩)) ?_;refine ll 2 (.tmp 12) (⟨w.heap.size,6,none⟩) (.int .i64 (N:Int)) (λW hW=>((HP.o.keeps hW).cell 6).trans (by kernel_rfl)) ?_;refine aK (.int .u64 (N:Int)) (λ_=>by kernel_rfl) (λW _=>(show _=Result.ok (Next.value (.int .u64 (IntKind.u64.wrap (N:Int)))) W by kernel_rfl).trans (by rw[hwc])) ?_;refine aq (λW vals hW ag=> ?_);simp only[af,aw]at ag
  try simp only[ai]at ag
  simp only[af,fill,Act.put,bo,bn,bh];clear ag;have pS:=zh (HA.o.keeps hW);have rn:=zh (HP.o.keeps hW);have kF:=zh (HG.o.trans (b_.cA hW));clear hW
  go_wp2_with fail
  refine(lW pS.o N 2 (by omega) (by omega) (by have:=mG.o;simp;omega) (by have:=mG.o;simp only[bI,bB];omega) rfl).mono ?_;rintro e w2 ⟨rfl,ha,hg⟩;have HP:=zh (hg _ _ _ rn.o (by decide) (by decide));have HA:=zh ha;have HG:=zh (kF.o.trans hg);clear ha hg pS rn kF
  go_wp2_with fail
  refine mM (jR rfl _ _ _) rfl ⟨rfl, ?_,HG.o⟩;rw[<-eK];exact HA.o
 ·rw[aZ hq,show dB false (dZ 2 N)= []from rfl,dJ]
  have d1:decide (p.q > 0)=false:=aZ hq;clear hq;obtain⟨k,dup,ret,q,t,b,id,c,cl,keep,hw,wt,wb,wq,wr,hu,hp,u,pw,pr,code,wants,aF,fs⟩:=p;simp only at hs hl hk;have jB:=zh hk;have mG:=zh hs;clear hk hs;obtain⟨W0,aV⟩:∃W,(w).alloc (.cells (zP k dup ret q t b id c cl keep hw wt wb wq wr hu hp u pw pr code sw sc sf) 29)=W:=⟨_,rfl⟩;have k0:ae (w) W0 []:=by rw[<-aV];exact ae.alloc _ _
  have r0:Row W0 (w).heap.size 29 (zP k dup ret q t b id c cl keep hw wt wb wq wr hu hp u pw pr code sw sc sf):=by rw[<-aV];exact Row.new _ _ _
  simp only at hN d1;subst hN;have HP:=zh r0;have HA:=zh (h.keeps k0);have HG:=zh (b_.cA k0);clear k0 r0 h
  go_enter func136,ntmps136
  go_upto_region 1 with fail
  clear aV;refine av ax _ 3 rfl (by kernel_rfl) (by kernel_rfl) (λ_=>ae.refl _ _) (λ_ _ _ h k=>h.trans k (by simp)) ?_;simp only[dc,dg,dF,dK];refine lq (.pointer (some ⟨r,0,none⟩)) ?_;refine lq (.pointer (some ⟨w.heap.size,4,none⟩)) ?_;refine ll 9 (.tmp 5) (⟨w.heap.size,4,none⟩) (.string ⟨t.toArray⟩) (λW hW=>((HP.o.keeps hW).cell 4).trans (by kernel_rfl)) ?_;refine aq (λW vals hW ag=> ?_);simp only[af,aw]at ag
  try simp only[ai]at ag
  simp only[af,fill,Act.put,bo,bn,bh];clear ag;have pS:=zh (HA.o.keeps hW);have rn:=zh (HP.o.keeps hW);have kF:=zh (HG.o.trans (b_.cA hW));clear hW
  go_wp2_with fail
  refine(nB pS.o t (by have:=mG.o;omega) (by have:=mG.o;omega)).mono ?_;rintro e w1 ⟨rfl,ha,hg⟩;have HP:=zh (hg _ _ _ rn.o (by decide) (by decide));have HA:=zh ha;have HG:=zh (kF.o.trans hg);clear ha hg pS rn kF;have x3:=HP.o.cell 3;simp only[cg,bU,fe]at x3
  go_wp2_with fail
  exact mM (jR rfl _ _ _) rfl ⟨rfl,HA.o,HG.o⟩
theorem uf (p:Pk)(sw sc sf:Value)(w0 w:au)(r:Nat)(l:aG)(h:iM w0 w r l):
  Calls prog 141 #[.pointer (some ⟨r,0,none⟩),eO p sw sc sf] w (lE w0 w r l):=by
 obtain⟨k,dup,ret,q,t,b,id,c,cl,keep,hw,wt,wb,wq,wr,hu,hp,u,pw,pr,code,wants,aF,fs⟩:=p;have HA:=zh h;clear h
 go_enter func141,ntmps141
 go_wp2_with fail
 exact mM (jR rfl _ _ _) rfl ⟨rfl,HA.o.keeps (ae.alloc _ _),b_.cA (ae.alloc _ _)⟩
/-- A kind that has an ID: that, and what is written besides. -/
theorem jm (p:Pk)(sw sc sf:Value)(w0 w:au)(r:Nat)(l B:aG)(i:FuncId)(bx:Nat)(h:iM w0 w r l)(hk:4<=p.k/\p.k<=11)(hs:0<=p.id/\p.id<=65535)(hl:l.length<=60000)(hr:∀(args:Array Value) (w:au),(callFunc i args).run prog w= .ok (.enter i args) w)(hb:Row w bx 53 #[.func (.func i) #[] #[]])
  (HC:∀W l',iM w0 W r l' ->l'.length<=60002->Calls prog i #[.pointer (some ⟨r,0,none⟩),eO p sw sc sf] W (lE w0 W r (l' ++B))):
  Calls prog 112 #[.pointer (some ⟨r,0,none⟩),eO p sw sc sf,.pointer (some ⟨bx,0,none⟩)] w (lE w0 w r (l++(bA p.id++B))):=by
 obtain⟨N,hN⟩:∃N:Nat,p.id=(N:Int):=⟨p.id.toNat,by omega⟩;have HC:=zh HC;rw[hN]at hs;rw[hN,bA,fT];obtain⟨k,dup,ret,q,t,b,id,c,cl,keep,hw,wt,wb,wq,wr,hu,hp,u,pw,pr,code,wants,aF,fs⟩:=p;simp only at hs hl hk;have jB:=zh hk;have mG:=zh hs;clear hk hs;obtain⟨W0,aV⟩:∃W,(w).alloc (.cells (zP k dup ret q t b id c cl keep hw wt wb wq wr hu hp u pw pr code sw sc sf) 29)=W:=⟨_,rfl⟩;have k0:ae (w) W0 []:=by rw[<-aV];exact ae.alloc _ _
 have r0:Row W0 (w).heap.size 29 (zP k dup ret q t b id c cl keep hw wt wb wq wr hu hp u pw pr code sw sc sf):=by rw[<-aV];exact Row.new _ _ _
 simp only at hN;subst hN;have HP:=zh r0;have HA:=zh (h.keeps k0);have HG:=zh (b_.cA k0);clear k0 r0 h
 go_enter func112,ntmps112
 go_upto_region 1 with fail
 clear aV;have HB:=zh (HG.o _ _ _ hb (by decide) (by decide));clear hb;have hwc:=nE (n:=N) (by have:=mG.o;omega);refine av ax _ 4 rfl (by kernel_rfl) (by kernel_rfl) (λ_=>ae.refl _ _) (λ_ _ _ h k=>h.trans k (by simp)) ?_;simp only[dc,dg,dF,dK];refine lq (.pointer (some ⟨r,0,none⟩)) ?_;refine lq (.pointer (some ⟨w.heap.size,6,none⟩)) ?_;refine ll 2 (.tmp 6) (⟨w.heap.size,6,none⟩) (.int .i64 (N:Int)) (λW hW=>((HP.o.keeps hW).cell 6).trans (by kernel_rfl)) ?_;refine aK (.int .u64 (N:Int)) (λ_=>by kernel_rfl) (λW _=>(show _=Result.ok (Next.value (.int .u64 (IntKind.u64.wrap (N:Int)))) W by kernel_rfl).trans (by rw[hwc])) ?_;refine aq (λW vals hW ag=> ?_);simp only[af,aw]at ag
 try simp only[ai]at ag
 simp only[af,fill,Act.put,bo,bn,bh];have Cg:=zh (HB.o.keeps hW);clear ag;have pS:=zh (HA.o.keeps hW);have rn:=zh (HP.o.keeps hW);have kF:=zh (HG.o.trans (b_.cA hW));clear hW
 go_wp2_with fail
 refine(lW pS.o N 2 (by omega) (by omega) (by have:=mG.o;simp;omega) (by omega) rfl).mono ?_;rintro e w2 ⟨rfl,ha,hg⟩;have HB:=zh (hg _ _ _ Cg.o (by decide) (by decide));have HP:=zh (hg _ _ _ rn.o (by decide) (by decide));have HA:=zh ha;have HG:=zh (kF.o.trans hg);clear ha hg pS rn kF
 go_upto_region 2 with fail
 refine av ax _ 3 rfl (by kernel_rfl) (by kernel_rfl) (λ_=>ae.refl _ _) (λ_ _ _ h k=>h.trans k (by simp)) ?_;simp only[dc,dg,dF,dK];refine ll 53 (.tmp 2) (⟨bx,0,none⟩) (.func (.func i) #[] #[]) (λW hW=>((HB.o.keeps hW).cell 0).trans (by kernel_rfl)) ?_;refine lq (.pointer (some ⟨r,0,none⟩)) ?_;refine lw 29 (.tmp 4) (w.heap.size) ((zL k dup ret q t b (N:Int) c cl keep hw wt wb wq wr hu hp u pw pr code sw sc sf)) underlying29 (λW hW=>aD (HP.o.keeps hW)) ?_;refine aq (λW vals hW ag=> ?_);simp only[af,aw]at ag
 try simp only[ai]at ag
 simp only[af,fill,Act.put,bo,bn,bh];clear ag;have pS:=zh (HA.o.keeps hW);have rn:=zh (HP.o.keeps hW);have kF:=zh (HG.o.trans (b_.cA hW));clear hW
 go_wp2_with fail
 refine(HC.o _ _ pS.o (by simp only[bI,aP];omega)).mono ?_;rintro e w3 ⟨rfl,ha,hg⟩;have HA:=zh ha;have HG:=zh (kF.o.trans hg);clear ha hg pS rn kF
 go_wp2_with fail
 refine mM (jR rfl _ _ _) rfl ⟨rfl, ?_,HG.o⟩;rw[<-eK];exact HA.o

theorem p8 {α:Type}(f:α->aG)(l:List α){j:Nat}(hj:j < l.length):(l.take (j+1)).flatMap f=(l.take j).flatMap f++f l[j]:=by
 rw[hO hj,zW,kA,List.flatMap_nil,dJ]
theorem rJ {α:Type}{l:List α}{j:Nat}{x:α}(h:x∈l.take j):x∈l:=List.mem_of_mem_take h
theorem ES (p:Pk)(sw sc sf:Value)(w0 w:au)(r:Nat)(l:aG)(h:iM w0 w r l)(Fz:fR w0 p sw sc sf)(hk:p.k=9)(hs:p.aF.length<=8/\∀x∈p.aF,0<=x/\x<=255)(hl:l.length<=60002):
  Calls prog 76 #[.pointer (some ⟨r,0,none⟩),eO p sw sc sf] w (lE w0 w r (l++p.aF.flatMap (λc:Int=>aX c.toNat))):=by
 obtain⟨A,c9,hsw,Bt⟩:=Fz.lc;have HL:=zh Bt;clear Fz Bt;obtain⟨k,dup,ret,q,t,b,id,c,cl,keep,hw,wt,wb,wq,wr,hu,hp,u,pw,pr,code,wants,aF,fs⟩:=p;simp only at hs hl hk;have jB:=zh hk;have mG:=zh hs;clear hk hs;obtain⟨W0,aV⟩:∃W,(w).alloc (.cells (zP k dup ret q t b id c cl keep hw wt wb wq wr hu hp u pw pr code sw sc sf) 29)=W:=⟨_,rfl⟩;have k0:ae (w) W0 []:=by rw[<-aV];exact ae.alloc _ _
 have r0:Row W0 (w).heap.size 29 (zP k dup ret q t b id c cl keep hw wt wb wq wr hu hp u pw pr code sw sc sf):=by rw[<-aV];exact Row.new _ _ _
 (simp only at hsw HL;have F3:=zh hsw;clear hsw)
 have HP:=zh r0;have HA:=zh (h.keeps k0);have HG:=zh (b_.cA k0);clear k0 r0 h
 go_enter func76,ntmps76
 go_upto_region 1 with fail
 clear aV;have ju:=HP.o.cell 22;simp only[cg,bU,fe]at ju;rw[F3.o]at ju;have hle:aF.length<=8:=mG.o.1;have lM:=zh (λj:Nat=>(jY (f:=(λc:Int=>aX c.toNat)) (m:=1) (l:=aF.take j) (λx hx=>by
  have:=mG.o.2 x (rJ hx);simp[aX,aP])))
 have wK:=zh (λj:Nat=>show(aF.take j).length*1<=8 by
  have:=mG.o.1;have h2:(aF.take j).length<=8:=by rw[dq];omega
  omega)
 go_wp2_with fail
 go_loopw [9] (λi wr=>∃j:Nat,j<=aF.length/\i= .int .i64 j/\Hid (iM w0 wr r (l++(aF.take j).flatMap (λc:Int=>aX c.toNat))/\b_ w wr)) (λi _=>aF.length - (intOf i).toNat)
 case atStart=>exact⟨0,by omega,rfl,zh ⟨by simpa using HA.o,HG.o⟩⟩
 case round=>
  obtain⟨j,hj,rfl,HJ⟩:=hrel
  by_cases hjl:j < aF.length
  ·obtain⟨b1,o1,cs1,rfl,hr1,hc1⟩:=HL.o (by omega)
   have hr2:=hr1.keeps HJ.o.1.k;have gO:=hc1 j hjl;have tP:=zh (p8 ((λc:Int=>aX c.toNat)) aF hjl);have K2:=zh (And.intro (lM.o j) (wK.o j));have HE:=zh (mG.o.2 aF[j] (fS hjl))
   generalize aF[j]=x at gO tP HE
   obtain⟨N,hN⟩:∃N:Nat,x=(N:Int):=⟨x.toNat,by have:=HE.o;omega⟩;subst hN;rw[fT]at tP;have m0:=(hr2.cell (o1+j*1+0)).trans (gO 0 (by omega));simp only[jJ,bU,iO,fj]at m0;have hwc:=nE (n:=N) (by have:=HE.o;omega);clear hr1 hr2 hc1 gO
   go_upto_region 4 with fail
   clear m0;refine av ax _ 3 rfl (by kernel_rfl) (by kernel_rfl) (λ_=>ae.refl _ _) (λ_ _ _ h k=>h.trans k (by simp)) ?_;simp only[dc,dg,dF,dK];refine lq (.pointer (some ⟨r,0,none⟩)) ?_;refine lq (.int .i64 (N:Int)) ?_;refine aK (.int .u64 (N:Int)) (λ_=>by kernel_rfl) (λW _=>(show _=Result.ok (Next.value (.int .u64 (IntKind.u64.wrap (N:Int)))) W by kernel_rfl).trans (by rw[hwc])) ?_;refine aq (λW vals hW ag=> ?_);simp only[af,aw]at ag
   try simp only[ai]at ag
   simp only[af,fill,Act.put,bo,bn,bh];clear ag;have Sk:=zh (HJ.o.1.keeps hW);have Ps:=zh (HJ.o.2.trans (b_.cA hW));clear hW
   go_wp2_with fail
   refine(lW Sk.o N 1 (by omega) (by omega) (by have:=HE.o;simp;omega) (by have:=HE.o;have:=K2.o;rw[bI];omega) rfl).mono ?_;rintro e w9 ⟨rfl,ha,hg⟩;have MZ:=zh ha;have MR:=zh (Ps.o.trans hg);clear ha hg
   go_wp2_with fail
   refine⟨⟨j+1,by omega,by go_num,zh ⟨?_,MR.o⟩⟩,by simp[intOf];omega⟩;rw[tP.o];have:=MZ.o
   rwa [eK]at this
  ·obtain rfl:j=aF.length:=by omega
   rw[eQ]at HJ
   go_wp2_with fail
   exact mM (jR rfl _ _ _) rfl ⟨rfl,HJ.o.1,HJ.o.2⟩
theorem Cw (p:Pk)(sw sc sf:Value)(w0 w:au)(r:Nat)(l:aG)(h:iM w0 w r l)(Fz:fR w0 p sw sc sf)(hk:p.k=10)(hs:p.fs.length<=8/\∀x∈p.fs,x.length<=200)(hl:l.length<=60002):
  Calls prog 83 #[.pointer (some ⟨r,0,none⟩),eO p sw sc sf] w (lE w0 w r (l++p.fs.flatMap aO)):=by
 obtain⟨A,c9,hsw,Bt⟩:=Fz.lf;have HL:=zh Bt;clear Fz Bt;obtain⟨k,dup,ret,q,t,b,id,c,cl,keep,hw,wt,wb,wq,wr,hu,hp,u,pw,pr,code,wants,aF,fs⟩:=p;simp only at hs hl hk;have jB:=zh hk;have mG:=zh hs;clear hk hs;obtain⟨W0,aV⟩:∃W,(w).alloc (.cells (zP k dup ret q t b id c cl keep hw wt wb wq wr hu hp u pw pr code sw sc sf) 29)=W:=⟨_,rfl⟩;have k0:ae (w) W0 []:=by rw[<-aV];exact ae.alloc _ _
 have r0:Row W0 (w).heap.size 29 (zP k dup ret q t b id c cl keep hw wt wb wq wr hu hp u pw pr code sw sc sf):=by rw[<-aV];exact Row.new _ _ _
 (simp only at hsw HL;have F3:=zh hsw;clear hsw)
 have HP:=zh r0;have HA:=zh (h.keeps k0);have HG:=zh (b_.cA k0);clear k0 r0 h
 go_enter func83,ntmps83
 go_upto_region 1 with fail
 clear aV;have ju:=HP.o.cell 23;simp only[cg,bU,fe]at ju;rw[F3.o]at ju;have hle:fs.length<=8:=mG.o.1;have lM:=zh (λj:Nat=>(jY (f:=aO) (m:=202) (l:=fs.take j) (λx hx=>by
  have:=mG.o.2 x (rJ hx);rw[bB];omega)))
 have wK:=zh (λj:Nat=>show(fs.take j).length*202<=1616 by
  have:=mG.o.1;have h2:(fs.take j).length<=8:=by rw[dq];omega
  omega)
 go_wp2_with fail
 go_loopw [9] (λi wr=>∃j:Nat,j<=fs.length/\i= .int .i64 j/\Hid (iM w0 wr r (l++(fs.take j).flatMap aO)/\b_ w wr)) (λi _=>fs.length - (intOf i).toNat)
 case atStart=>exact⟨0,by omega,rfl,zh ⟨by simpa using HA.o,HG.o⟩⟩
 case round=>
  obtain⟨j,hj,rfl,HJ⟩:=hrel
  by_cases hjl:j < fs.length
  ·obtain⟨b1,o1,cs1,rfl,hr1,hc1⟩:=HL.o (by omega)
   have hr2:=hr1.keeps HJ.o.1.k;have gO:=hc1 j hjl;have tP:=zh (p8 (aO) fs hjl);have K2:=zh (And.intro (lM.o j) (wK.o j));have HE:=zh (mG.o.2 fs[j] (fS hjl))
   generalize fs[j]=x at gO tP HE
   have m0:=(hr2.cell (o1+j*1+0)).trans (gO 0 (by omega));simp only[fC,bU,iO,fj]at m0;clear hr1 hr2 hc1 gO
   go_wp2_with fail
   refine(nB HJ.o.1 x (by have:=HE.o;omega) (by have:=HE.o;have:=K2.o;rw[bI];omega)).mono ?_;rintro e w9 ⟨rfl,ha,hg⟩;have MZ:=zh ha;have MR:=zh (HJ.o.2.trans hg);clear ha hg m0
   go_wp2_with fail
   refine⟨⟨j+1,by omega,by go_num,zh ⟨?_,MR.o⟩⟩,by simp[intOf];omega⟩;rw[tP.o];have:=MZ.o
   rwa [eK]at this
  ·obtain rfl:j=fs.length:=by omega
   rw[eQ]at HJ
   go_wp2_with fail
   exact mM (jR rfl _ _ _) rfl ⟨rfl,HJ.o.1,HJ.o.2⟩
theorem ET (p:Pk)(sw sc sf:Value)(w0 w:au)(r:Nat)(l:aG)(h:iM w0 w r l)(Fz:fR w0 p sw sc sf)(hk:p.k=8)(hs:p.wants.length<=8/\∀x∈p.wants,x.1.length<=200/\0<=x.2/\x.2<=2)(hl:l.length<=60002):
  Calls prog 66 #[.pointer (some ⟨r,0,none⟩),eO p sw sc sf] w (lE w0 w r (l++p.wants.flatMap λw=>aO w.1++aX w.2.toNat)):=by
 obtain⟨A,c9,hsw,Bt⟩:=Fz.lw;have HL:=zh Bt;clear Fz Bt;obtain⟨k,dup,ret,q,t,b,id,c,cl,keep,hw,wt,wb,wq,wr,hu,hp,u,pw,pr,code,wants,aF,fs⟩:=p;simp only at hs hl hk;have jB:=zh hk;have mG:=zh hs;clear hk hs;obtain⟨W0,aV⟩:∃W,(w).alloc (.cells (zP k dup ret q t b id c cl keep hw wt wb wq wr hu hp u pw pr code sw sc sf) 29)=W:=⟨_,rfl⟩;have k0:ae (w) W0 []:=by rw[<-aV];exact ae.alloc _ _
 have r0:Row W0 (w).heap.size 29 (zP k dup ret q t b id c cl keep hw wt wb wq wr hu hp u pw pr code sw sc sf):=by rw[<-aV];exact Row.new _ _ _
 (simp only at hsw HL;have F3:=zh hsw;clear hsw)
 have HP:=zh r0;have HA:=zh (h.keeps k0);have HG:=zh (b_.cA k0);clear k0 r0 h
 go_enter func66,ntmps66
 go_upto_region 1 with fail
 clear aV;have ju:=HP.o.cell 21;simp only[cg,bU,fe]at ju;rw[F3.o]at ju;have hle:wants.length<=8:=mG.o.1;have lM:=zh (λj:Nat=>(jY (f:=λw:aG×Int=>aO w.1++aX w.2.toNat) (m:=203) (l:=wants.take j) (λx hx=>by
  have:=(mG.o.2 x (rJ hx)).1;rw[bI,bB];simp only[aX,aP];omega)))
 have wK:=zh (λj:Nat=>show(wants.take j).length*203<=1624 by
  have:=mG.o.1;have h2:(wants.take j).length<=8:=by rw[dq];omega
  omega)
 go_wp2_with fail
 go_loopw [9] (λi wr=>∃j:Nat,j<=wants.length/\i= .int .i64 j/\Hid (iM w0 wr r (l++(wants.take j).flatMap λw=>aO w.1++aX w.2.toNat)/\b_ w wr)) (λi _=>wants.length - (intOf i).toNat)
 case atStart=>exact⟨0,by omega,rfl,zh ⟨by simpa using HA.o,HG.o⟩⟩
 case round=>
  obtain⟨j,hj,rfl,HJ⟩:=hrel
  by_cases hjl:j < wants.length
  ·obtain⟨b1,o1,cs1,rfl,hr1,hc1⟩:=HL.o (by omega)
   have hr2:=hr1.keeps HJ.o.1.k;have gO:=hc1 j hjl;have tP:=zh (p8 (λw:aG×Int=>aO w.1++aX w.2.toNat) wants hjl);have K2:=zh (And.intro (lM.o j) (wK.o j));have HE:=zh (mG.o.2 wants[j] (fS hjl))
   generalize wants[j]=x at gO tP HE
   obtain⟨f,q'⟩:=x;simp only at tP HE;obtain⟨N,hN⟩:∃N:Nat,q' =(N:Int):=⟨q'.toNat,by have:=HE.o;omega⟩;subst hN;rw[fT]at tP;have m0:=(hr2.cell (o1+j*2+0)).trans (gO 0 (by omega));have m1:=(hr2.cell (o1+j*2+1)).trans (gO 1 (by omega));simp only[gK,bU,fe,fj]at m0 m1;have hwc:=nE (n:=N) (by have:=HE.o;omega);clear hr1 hr2 hc1 gO;obtain⟨W5,Nd⟩:∃W5,wr.alloc (.cells #[.string ⟨f.toArray⟩,.int .i64 (N:Int)] 50)=W5:=⟨_,rfl⟩;have Nr:=zh (show Row W5 wr.heap.size 50 #[.string ⟨f.toArray⟩,.int .i64 (N:Int)]by rw[<-Nd];exact Row.new _ _ _);have tR:=zh (show ae wr W5 []by rw[<-Nd];exact ae.alloc _ _)
   go_upto_region 4 with fail
   clear m0 m1 Nd;refine av ax _ 3 rfl (by kernel_rfl) (by kernel_rfl) (λ_=>ae.refl _ _) (λ_ _ _ h k=>h.trans k (by simp)) ?_;simp only[dc,dg,dF,dK];refine lq (.pointer (some ⟨r,0,none⟩)) ?_;refine lq (.pointer (some ⟨wr.heap.size,0,none⟩)) ?_;refine ll 9 (.tmp 14) (⟨wr.heap.size,0,none⟩) (.string ⟨f.toArray⟩) (λW hW=>((Nr.o.keeps hW).cell 0).trans (by kernel_rfl)) ?_;refine aq (λW vals hW ag=> ?_);simp only[af,aw]at ag
   try simp only[ai]at ag
   simp only[af,fill,Act.put,bo,bn,bh];clear ag;have Nx:=zh (tR.o.ah hW);have Qg:=zh (Nr.o.keeps hW);clear hW
   go_wp2_with fail
   refine(nB (HJ.o.1.keeps Nx.o) f (by have:=HE.o;omega) (by have:=HE.o;have:=K2.o;rw[bI];omega)).mono ?_;rintro e w7 ⟨rfl,ha,hg⟩;have ku:=zh (hg _ _ _ Qg.o (by decide) (by decide));have V0:=zh ha;have VO:=zh ((HJ.o.2.trans (b_.cA Nx.o)).trans hg);clear ha hg
   go_upto_region 5 with fail
   refine av ax _ 4 rfl (by kernel_rfl) (by kernel_rfl) (λ_=>ae.refl _ _) (λ_ _ _ h k=>h.trans k (by simp)) ?_;simp only[dc,dg,dF,dK];refine lq (.pointer (some ⟨r,0,none⟩)) ?_;refine lq (.pointer (some ⟨wr.heap.size,1,none⟩)) ?_;refine ll 3 (.tmp 18) (⟨wr.heap.size,1,none⟩) (.int .i64 (N:Int)) (λW hW=>((ku.o.keeps hW).cell 1).trans (by kernel_rfl)) ?_;refine aK (.int .u64 (N:Int)) (λ_=>by kernel_rfl) (λW _=>(show _=Result.ok (Next.value (.int .u64 (IntKind.u64.wrap (N:Int)))) W by kernel_rfl).trans (by rw[hwc])) ?_;refine aq (λW vals hW ag=> ?_);simp only[af,aw]at ag
   try simp only[ai]at ag
   simp only[af,fill,Act.put,bo,bn,bh];clear ag;have Sk:=zh (V0.o.keeps hW);have Ps:=zh (VO.o.trans (b_.cA hW));clear hW
   go_wp2_with fail
   refine(lW Sk.o N 1 (by omega) (by omega) (by have:=HE.o;simp;omega) (by have:=HE.o;have:=K2.o;rw[bI,bI,bB];omega) rfl).mono ?_;rintro e w9 ⟨rfl,ha,hg⟩;have MZ:=zh ha;have MR:=zh (Ps.o.trans hg);clear ha hg
   go_wp2_with fail
   refine⟨⟨j+1,by omega,by go_num,zh ⟨?_,MR.o⟩⟩,by simp[intOf];omega⟩;rw[tP.o];have:=MZ.o
   rwa [eK,eK]at this
  ·obtain rfl:j=wants.length:=by omega
   rw[eQ]at HJ
   go_wp2_with fail
   exact mM (jR rfl _ _ _) rfl ⟨rfl,HJ.o.1,HJ.o.2⟩

def Ee (x:Bool×aG):List Value:= [.bool x.1,.string ⟨x.2.toArray⟩]
theorem Hl:Ch 2 Ee:=⟨by omega,λ_=>rfl,λp u hu=>by
 simp only[Ee,tU,tT,or_false]at hu
 rcases hu with rfl | rfl <;> rfl⟩
def C6 (p:Pk):List (Bool×aG):= [(p.hw,p.wt),(p.hw,p.wb),(p.hu,p.u),(p.hp,p.pw)]
def GI (p:Pk):aG:=aO [77,81,84,84]++(aX 4++(aX (cM p)++(bA p.keep++aO p.c)))
theorem yZ {p:Pk}(h:p.k=1):bg p=GI p++(C6 p).flatMap λx=>dB x.1 (aO x.2):=by
 rw[uM h];unfold GI C6;have ew:dB p.hw (aO p.wt++aO p.wb)=dB p.hw (aO p.wt)++dB p.hw (aO p.wb):=by cases p.hw <;> rfl
 rw[ew];simp
theorem EX (p:Pk)(sw sc sf:Value)(w0 w:au)(r:Nat)(l:aG)(h:iM w0 w r l)(hk:p.k=1)(hf:Iq p)(hl:l.length<=1000):
  Calls prog 129 #[.pointer (some ⟨r,0,none⟩),eO p sw sc sf] w (lE w0 w r (l++bg p)):=by
 rw[yZ hk];have CN:=zh (λW=>bQ p sw sc sf W ⟨hf.will.2.2.1,by have:=hf.will.2.2.2;omega⟩);have hcn:=mX hf.will.2.2.2;have hs:((cM p < 256/\0<=p.keep/\p.keep<=65535)/\p.c.length<=23)/\p.wt.length<=200/\p.wb.length<=2000/\p.u.length<=200/\p.pw.length<=200:=⟨⟨⟨hcn,hf.keep⟩,hf.c⟩,hf.will.1,hf.will.2.1,hf.u.1,hf.pw.1⟩;unfold GI C6;obtain⟨KP,hN⟩:∃N:Nat,p.keep=(N:Int):=⟨p.keep.toNat,by have:=hf.keep;omega⟩;clear hf hcn;rw[hN]at hs;rw[hN,bA,fT]
 generalize cM p=X at CN hs ⊢
 obtain⟨k,dup,ret,q,t,b,id,c,cl,keep,hw,wt,wb,wq,wr,hu,hp,u,pw,pr,code,wants,aF,fs⟩:=p;simp only at hs hl hk;have jB:=zh hk;have mG:=zh hs;clear hk hs;obtain⟨W0,aV⟩:∃W,(w).alloc (.cells (zP k dup ret q t b id c cl keep hw wt wb wq wr hu hp u pw pr code sw sc sf) 29)=W:=⟨_,rfl⟩;have k0:ae (w) W0 []:=by rw[<-aV];exact ae.alloc _ _
 have r0:Row W0 (w).heap.size 29 (zP k dup ret q t b id c cl keep hw wt wb wq wr hu hp u pw pr code sw sc sf):=by rw[<-aV];exact Row.new _ _ _
 (simp only at hN CN;subst hN)
 have HP:=zh r0;have HA:=zh (h.keeps k0);have HG:=zh (b_.cA k0);clear k0 r0 h
 go_enter func129,ntmps129
 go_upto_region 1 with fail
 clear aV;have hwk:=nE (n:=KP) (by have:=mG.o;omega);have hwx:=nE (n:=X) (by have:=mG.o;omega)
 go_wp2_with fail
 refine(nB HA.o [77,81,84,84] (by simp) (by simp;omega)).mono ?_;rintro e w1 ⟨rfl,ha,hg⟩;have rn:=zh (hg _ _ _ HP.o (by decide) (by decide));have pS:=zh ha;have kF:=zh (HG.o.trans hg);clear ha hg HA HP HG
 go_wp2_with fail
 refine(lW pS.o 4 1 (by omega) (by omega) (by simp) (by rw[bI,bB];simp;omega) rfl).mono ?_;rintro e w2 ⟨rfl,ha,hg⟩;have HP:=zh (hg _ _ _ rn.o (by decide) (by decide));have HA:=zh ha;have HG:=zh (kF.o.trans hg);clear ha hg pS rn kF
 go_upto_region 3 with fail
 refine av ax _ 4 rfl (by kernel_rfl) (by kernel_rfl) (λ_=>ae.refl _ _) (λ_ _ _ h k=>h.trans k (by simp)) ?_;simp only[dc,dg,dF,dK];refine lq (.pointer (some ⟨r,0,none⟩)) ?_;refine lw 29 (.tmp 3) (w.heap.size) ((zL k dup ret q t b id c cl (KP:Int) hw wt wb wq wr hu hp u pw pr code sw sc sf)) underlying29 (λW hW=>aD (HP.o.keeps hW)) ?_;refine aT 130 (#[.agg (zP k dup ret q t b id c cl (KP:Int) hw wt wb wq wr hu hp u pw pr code sw sc sf)]) (.int .i64 (X:Int)) (λ_=>by kernel_rfl) (λ_ _=>by kernel_rfl) (λW hW=>CN.o W) ?_;refine aK (.int .u64 (X:Int)) (λ_=>by kernel_rfl) (λW _=>(show _=Result.ok (Next.value (.int .u64 (IntKind.u64.wrap (X:Int)))) W by kernel_rfl).trans (by rw[hwx])) ?_;refine aq (λW vals hW ag=> ?_);simp only[af,aw]at ag
 try simp only[ai]at ag
 simp only[af,fill,Act.put,bo,bn,bh];clear ag;have pS:=zh (HA.o.keeps hW);have rn:=zh (HP.o.keeps hW);have kF:=zh (HG.o.trans (b_.cA hW));clear hW
 go_wp2_with fail
 refine(lW pS.o X 1 (by omega) (by omega) (by have:=mG.o;simp;omega) (by rw[bI,bI,bB,aP];simp;omega) rfl).mono ?_;rintro e w3 ⟨rfl,ha,hg⟩;have HP:=zh (hg _ _ _ rn.o (by decide) (by decide));have HA:=zh ha;have HG:=zh (kF.o.trans hg);clear ha hg pS rn kF
 go_upto_region 4 with fail
 refine av ax _ 4 rfl (by kernel_rfl) (by kernel_rfl) (λ_=>ae.refl _ _) (λ_ _ _ h k=>h.trans k (by simp)) ?_;simp only[dc,dg,dF,dK];refine lq (.pointer (some ⟨r,0,none⟩)) ?_;refine lq (.pointer (some ⟨w.heap.size,9,none⟩)) ?_;refine ll 2 (.tmp 16) (⟨w.heap.size,9,none⟩) (.int .i64 (KP:Int)) (λW hW=>((HP.o.keeps hW).cell 9).trans (by kernel_rfl)) ?_;refine aK (.int .u64 (KP:Int)) (λ_=>by kernel_rfl) (λW _=>(show _=Result.ok (Next.value (.int .u64 (IntKind.u64.wrap (KP:Int)))) W by kernel_rfl).trans (by rw[hwk])) ?_;refine aq (λW vals hW ag=> ?_);simp only[af,aw]at ag
 try simp only[ai]at ag
 simp only[af,fill,Act.put,bo,bn,bh];clear ag;have pS:=zh (HA.o.keeps hW);have rn:=zh (HP.o.keeps hW);have kF:=zh (HG.o.trans (b_.cA hW));clear hW
 go_wp2_with fail
 refine(lW pS.o KP 2 (by omega) (by omega) (by have:=mG.o;simp;omega) (by simp only[bI,bB,aP,du,dR];omega) rfl).mono ?_;rintro e w4 ⟨rfl,ha,hg⟩;have HP:=zh (hg _ _ _ rn.o (by decide) (by decide));have HA:=zh ha;have HG:=zh (kF.o.trans hg);clear ha hg pS rn kF
 go_upto_region 5 with fail
 refine av ax _ 3 rfl (by kernel_rfl) (by kernel_rfl) (λ_=>ae.refl _ _) (λ_ _ _ h k=>h.trans k (by simp)) ?_;simp only[dc,dg,dF,dK];refine lq (.pointer (some ⟨r,0,none⟩)) ?_;refine lq (.pointer (some ⟨w.heap.size,7,none⟩)) ?_;refine ll 9 (.tmp 21) (⟨w.heap.size,7,none⟩) (.string ⟨c.toArray⟩) (λW hW=>((HP.o.keeps hW).cell 7).trans (by kernel_rfl)) ?_;refine aq (λW vals hW ag=> ?_);simp only[af,aw]at ag
 try simp only[ai]at ag
 simp only[af,fill,Act.put,bo,bn,bh];clear ag;have pS:=zh (HA.o.keeps hW);have rn:=zh (HP.o.keeps hW);have kF:=zh (HG.o.trans (b_.cA hW));clear hW
 go_wp2_with fail
 refine(nB pS.o c (by have:=mG.o;omega) (by have:=mG.o;simp only[bI,bB,aP,du,dR];omega)).mono ?_;rintro e w5 ⟨rfl,ha,hg⟩;have HP:=zh (hg _ _ _ rn.o (by decide) (by decide));have HA:=zh ha;have HG:=zh (kF.o.trans hg);clear ha hg pS rn kF;obtain⟨L,hL⟩:∃L,l++aO [77,81,84,84]++dZ 1 4++dZ 1 X++dZ 2 KP++aO c=L:=⟨_,rfl⟩;have II:=zh (show L.length<=1100 by rw[<-hL];have:=mG.o;simp only[bI,bB,aP,du,dR];omega);have VM:=zh (show∀R:aG,l++(aO [77,81,84,84]++(aX 4++(aX X++(dZ 2 KP++aO c)))++R)=L++R by
  intro R;rw[<-hL];simp only[eK,aX])
 rw[hL]at HA;clear hL;obtain⟨F,hF⟩:∃F:List (Bool×aG), [(hw,wt),(hw,wb),(hu,u),(hp,pw)]=F:=⟨_,rfl⟩;have HF:=zh (show F.length=4/\∀x∈F,x.2.length<=2000 by
  rw[<-hF];refine⟨rfl,λx hx=> ?_⟩;have:=mG.o;simp only[tU,tT,or_false]at hx
  rcases hx with rfl | rfl | rfl | rfl <;> simp only <;> omega)
 have y0:=HP.o;have x0:=y0.cell 0;have x1:=y0.cell 1;have x2:=y0.cell 2;have x3:=y0.cell 3;have x4:=y0.cell 4;have x5:=y0.cell 5;have x6:=y0.cell 6;have x7:=y0.cell 7;have x8:=y0.cell 8;have x9:=y0.cell 9;have iB:=y0.cell 10;have mz:=y0.cell 11;have lV:=y0.cell 12;have lU:=y0.cell 13;have mw:=y0.cell 14;have jf:=y0.cell 15;have hU:=y0.cell 16;have lT:=y0.cell 17;have mL:=y0.cell 18;have mK:=y0.cell 19;have x20:=y0.cell 20;have ju:=y0.cell 21;have mr:=y0.cell 22;have mJ:=y0.cell 23;simp only[cg,bU,fe]at x0 x1 x2 x3 x4 x5 x6 x7 x8 x9 iB mz lV lU mw jf hU lT mL mK x20 ju mr mJ;clear y0;obtain⟨W6,FC⟩:∃W6,w5.alloc (.cells #[.bool hw,.string ⟨wt.toArray⟩,.bool hw,.string ⟨wb.toArray⟩,.bool hu,.string ⟨u.toArray⟩,.bool hp,.string ⟨pw.toArray⟩] 145)=W6:=⟨_,rfl⟩;have Pj:=zh (show bw W6 145 2 Ee (some ⟨w5.heap.size,0,none⟩) F by
  rw[<-hF,<-FC];exact Dh Hl (Row.new _ _ _))
 have V_:=zh (show iM w0 W6 r L from HA.o.keeps (by rw[<-FC];exact ae.alloc _ _));have VP:=zh (show b_ w W6 from HG.o.trans (b_.cA (by rw[<-FC];exact ae.alloc _ _)));have VQ:=zh hF;have lM:=zh (λj:Nat=>(jY (f:=λx:Bool×aG=>dB x.1 (aO x.2)) (m:=2002) (l:=F.take j) (λx hx=>by
  have h1:=jV x.1 (aO x.2);have h2:=HF.o.2 x (rJ hx);rw[bB]at h1;omega)))
 have wK:=zh (λj:Nat=>show(F.take j).length*2002<=8008 by
  have:=HF.o.1;have h2:(F.take j).length<=4:=by rw[dq];omega
  omega)
 clear hF
 go_wp2_with fail
 clear x0 x1 x2 x3 x4 x5 x6 x7 x8 x9 iB mz lV lU mw jf hU lT mL mK x20 ju mr mJ;clear FC
 go_loopw [48] (λi Qo=>∃j:Nat,j<=4/\i= .int .i64 j/\Hid ((iM w0 Qo r (L++(F.take j).flatMap λx=>dB x.1 (aO x.2))/\b_ w Qo)/\b_ W6 Qo)) (λi _=>4 - (intOf i).toNat)
 case atStart=>exact⟨0,by omega,rfl,zh ⟨⟨by simpa using V_.o,VP.o⟩,b_.cA (ae.refl _ _)⟩⟩
 case round=>
  obtain⟨j,hj,rfl,HJ⟩:=hrel
  by_cases hjl:j < 4
  ·have Q7:j < F.length:=by have:=HF.o.1;omega
   obtain⟨b1,o1,cs1,e1,hr1,hc1⟩:=Pj.o (by omega);injection e1 with e1
   injection e1 with e2 e3
   subst e2 e3;have hr2:=HJ.o.2 _ _ _ hr1 (by decide) (by decide);have gO:=hc1 j Q7;have tP:=zh (p8 (λx:Bool×aG=>dB x.1 (aO x.2)) F Q7);have K2:=zh (And.intro (lM.o j) (wK.o j));have HE:=zh (HF.o.2 F[j] (fS Q7))
   generalize F[j]=x at gO tP HE
   obtain⟨is,s⟩:=x;simp only at tP HE;have m0:=(hr2.cell (0+j*2+0)).trans (gO 0 (by omega));have m1:=(hr2.cell (0+j*2+1)).trans (gO 1 (by omega));simp only[Ee,bU,fe,fj,iP]at m0 m1;clear hr1 hr2 hc1 gO;obtain⟨W7,FV⟩:∃W7,wr.alloc (.cells #[.bool is,.string ⟨s.toArray⟩] 145)=W7:=⟨_,rfl⟩;have ku:=zh (show Row W7 wr.heap.size 145 #[.bool is,.string ⟨s.toArray⟩]by rw[<-FV];exact Row.new _ _ _);have iN:=zh (show ae wr W7 []by rw[<-FV];exact ae.alloc _ _);have n0:=ku.o.cell 0;have n1:=ku.o.cell 1;simp only[cg,bU,fe]at n0 n1
   cases is with
   | true=>
    go_wp2_with fail
    clear m0 m1 n0 n1 FV;refine(nB (HJ.o.1.1.keeps iN.o) s (by have:=HE.o;omega) (by have:=HE.o;have:=K2.o;have:=II.o;rw[bI];omega)).mono ?_;rintro e w9 ⟨rfl,ha,hg⟩;have MZ:=zh ha;have MR:=zh ((HJ.o.1.2.trans (b_.cA iN.o)).trans hg);have Ps:=zh ((HJ.o.2.trans (b_.cA iN.o)).trans hg);clear ha hg
    go_wp2_with fail
    refine⟨⟨j+1,by omega,by go_num,zh ⟨⟨?_,MR.o⟩,Ps.o⟩⟩,by simp[intOf];omega⟩;rw[tP.o];have:=MZ.o
    rwa [eK]at this
   | false=>
    go_wp2_with fail
    clear m0 m1 n0 n1 FV;refine⟨⟨j+1,by omega,by go_num,zh ⟨⟨?_,HJ.o.1.2.trans (b_.cA iN.o)⟩,HJ.o.2.trans (b_.cA iN.o)⟩⟩,by simp[intOf];omega⟩;rw[tP.o];have:=HJ.o.1.1.keeps iN.o
    rwa [show dB false (aO s)= []from rfl,dJ]
  ·obtain rfl:j=4:=by omega
   rw[show F.take 4=F from qD (by rw[HF.o.1];exact bE _)]at HJ
   go_wp2_with fail
   exact mM (jR rfl _ _ _) rfl ⟨rfl,by rw[VM.o,VQ.o];exact HJ.o.1.1,HJ.o.1.2⟩
end Go.Proofs.YtahbikfbjenfpaaGreatDoor
