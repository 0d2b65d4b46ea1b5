/- Package packet: a writer that a call has made; how a packet is written, by its kind. Package packet: how lists are written, and a connect. Package packet: how a connect is written. -/
import Derived.Test.YtahbikfbjenfpaaGreatDoorPa20
import Derived.Test.YtahbikfbjenfpaaGreatDoorPa21

namespace Go.Proofs.YtahbikfbjenfpaaGreatDoor
open Go.RowKit

/-- A writer that was made since a world. -/
structure WrAt (w0 W:World)(p:Nat)(l:List UInt8):Prop where
 k:Keeps w0 W []
 h:w0.heap.size≤p
 v:∃v,WrB W w0.heap.size p v l
/-- What writing leaves alone: all rows but writers' and bytes'. -/
def RowsGo (W W' :World):Prop:=∀b t cs,Row W b t cs→120≠t→5≠t→Row W' b t cs
theorem RowsGo.of_keeps {W W' :World}(h:Keeps W W' []):RowsGo W W' :=fun _ _ _ hr _ _=>hr.keeps h
theorem RowsGo.trans {W W' W'' :World}(h:RowsGo W W')(k:RowsGo W' W''):RowsGo W W'' :=fun b t cs hr h1 h2=>k b t cs (h b t cs hr h1 h2) h1 h2
theorem WrAt.keeps {w0 W W' :World}{p:Nat}{l:List UInt8}(h:WrAt w0 W p l)(hk:Keeps W W' []):WrAt w0 W' p l:=by
 obtain⟨v,hv⟩:=h.v;exact⟨h.k.then_ hk,h.h,v,hv.keep hk (by simp) (by simp)⟩
theorem WrAt.of {w0 W W' :World}{p:Nat}{l l' :List UInt8}{v v' :Value}(hK:Keeps w0 W [])(hh:w0.heap.size≤p)(hv:WrB W w0.heap.size p v l)(hv' :WrB W' w0.heap.size p v' l')(hk:Keeps W W' (p::v.ownBlock.toList)):WrAt w0 W' p l' ∧RowsGo W W' :=by
 refine⟨⟨hK.trans hk (fun x hx hlt=> ?_),hh,v',hv'⟩,fun b t cs hr h1 h2=>hr.keep hk ?_⟩
 ·rcases List.mem_cons.1 hx with rfl | hx
  ·omega
  ·have:=owned_lt hv.2 x (by simpa using hx)
   omega
 ·intro hb
  rcases List.mem_cons.1 hb with rfl | hb
  ·exact Row.ne_type hv.1 hr h1 rfl
  ·exact own_ne_row hv.2 hr h2 (by simpa using hb)
theorem wrT_any {w0 W:World}{p:Nat}{l:List UInt8}(h:WrAt w0 W p l)(s:List UInt8)(hs:s.length≤65535)(hlen:l.length+(2+s.length)≤65536):
  Calls Tryz.prog 67 #[.pointer (some ⟨p,0,none⟩),.string ⟨s.toArray⟩] W fun e W' =>e= .returned (.int .i64 0)∧WrAt w0 W' p (l++pkTx s)∧RowsGo W W' :=by
 obtain⟨v,hv⟩:=h.v;refine(wrText_any W w0.heap.size p v l s hv hs hlen h.k.size).mono ?_;rintro e W' ⟨rfl,v',h1,h2,_⟩;exact⟨rfl,WrAt.of h.k h.h hv h1 h2⟩
theorem wrN_any {w0 W:World}{p:Nat}{l:List UInt8}(h:WrAt w0 W p l)(n k:Nat)(hk1:1≤k)(hk8:k≤8)(hn:n < 256^k)(hlen:l.length+k≤65536){k' :Int}(hk:k' =k):
  Calls Tryz.prog 56 #[.pointer (some ⟨p,0,none⟩),.int .u64 n,.int .i64 k'] W fun e W' =>e= .returned (.int .i64 0)∧WrAt w0 W' p (l++toBE k n)∧RowsGo W W' :=by
 subst hk;obtain⟨v,hv⟩:=h.v;refine(wrNumber_any W w0.heap.size p v l n k hv hk1 hk8 hn hlen h.k.size).mono ?_;rintro e W' ⟨rfl,v',h1,h2,_⟩;exact⟨rfl,WrAt.of h.k h.h hv h1 h2⟩
theorem wrB_any {w0 W:World}{p:Nat}{l:List UInt8}(h:WrAt w0 W p l)(b:Bool)(hlen:l.length+1≤65536):
  Calls Tryz.prog 55 #[.pointer (some ⟨p,0,none⟩),.bool b] W fun e W' =>e= .returned (.int .i64 0)∧WrAt w0 W' p (l++pkOne (pkB b 1))∧RowsGo W W' :=by
 obtain⟨v,hv⟩:=h.v;refine(wrTruth_any W w0.heap.size p v l b hv hlen h.k.size).mono ?_;rintro e W' ⟨rfl,v',h1,h2,_⟩;have e:pkOne (pkB b 1)= [bif b then 1 else 0]:=by cases b <;> rfl
 rw[e];exact⟨rfl,WrAt.of h.k h.h hv h1 h2⟩
/-- What writing does. -/
def WrPost (w0 W:World)(p:Nat)(l:List UInt8)(e:Ending)(W' :World):Prop:=e= .returned (.tuple #[])∧WrAt w0 W' p l∧RowsGo W W'
theorem u64_nat {n:Nat}(h1:n≤65535):IntKind.u64.wrap (n:Int)=(n:Int):=IntWalk.u64_in _ ⟨by omega,by omega⟩
set_option maxRecDepth 100000 in
set_option maxHeartbeats 1000000 in
theorem pkWr2_any (p:Pk)(sw sc sf:Value)(w0 w:World)(r:Nat)(l:List UInt8)(h:WrAt w0 w r l)(hk:p.k=2)(hs:0≤p.code∧p.code≤5)(hl:l.length≤60000):
  Calls Tryz.prog 54 #[.pointer (some ⟨r,0,none⟩),pkV p sw sc sf] w (WrPost w0 w r (l++pkBody p)):=by
 rw[pkBody2 hk];obtain⟨N,hN⟩:∃N:Nat,p.code=(N:Int):=⟨p.code.toNat,by omega⟩;rw[hN]at hs;rw[hN,Int.toNat_natCast];obtain⟨k,dup,ret,q,t,b,id,c,cl,keep,hw,wt,wb,wq,wr,hu,hp,u,pw,pr,code,wants,codes,fs⟩:=p;simp only at hs hl hk;have HKK:=zh hk;have HSS:=zh hs;clear hk hs;obtain⟨W0,hW0⟩:∃W,(w).alloc (.cells (zP k dup ret q t b id c cl keep hw wt wb wq wr hu hp u pw pr code sw sc sf) 29)=W:=⟨_,rfl⟩;have k0:Keeps (w) W0 []:=by rw[←hW0];exact Keeps.alloc _ _
 have r0:Row W0 (w).heap.size 29 (zP k dup ret q t b id c cl keep hw wt wb wq wr hu hp u pw pr code sw sc sf):=by rw[←hW0];exact Row.new _ _ _
 simp only at hN;subst hN;have HP:=zh r0;have HA:=zh (h.keeps k0);have HG:=zh (RowsGo.of_keeps k0);clear k0 r0 h
 go_enter Tryz.func54,Tryz.ntmps54
 go_upto_region 1 with fail
 clear hW0;have hwc:=u64_nat (n:=N) (by have:=HSS.out;omega);refine wp_region_line KeepsAll _ 3 rfl (by kernel_rfl) (by kernel_rfl) (fun _=>Keeps.refl _ _) (fun _ _ _ h k=>h.trans k (by simp)) ?_;simp only[zts,ztz,zds,zdz];refine lq (.pointer (some ⟨r,0,none⟩)) ?_;refine lq (.pointer (some ⟨w.heap.size,19,none⟩)) ?_;refine ll 4 (.tmp 5) (⟨w.heap.size,19,none⟩) (.bool pr) (fun W hW=>((HP.out.keeps hW).cell 19).trans (by kernel_rfl)) ?_;refine loose_nil (fun W vals hW hkn=> ?_);simp only[addEnt,knowsAll]at hkn
 try simp only[and_true]at hkn
 simp only[addEnt,fill,Act.put,zsa,zsc,zsz];clear hkn;have HA1:=zh (HA.out.keeps hW);have HP1:=zh (HP.out.keeps hW);have HG1:=zh (HG.out.trans (RowsGo.of_keeps hW));clear hW
 go_wp2_with fail
 refine(wrB_any HA1.out pr (by omega)).mono ?_;rintro e w1 ⟨rfl,ha,hg⟩;have HP:=zh (hg _ _ _ HP1.out (by decide) (by decide));have HA:=zh ha;have HG:=zh (HG1.out.trans hg);clear ha hg HA1 HP1 HG1
 go_upto_region 2 with fail
 refine wp_region_line KeepsAll _ 4 rfl (by kernel_rfl) (by kernel_rfl) (fun _=>Keeps.refl _ _) (fun _ _ _ h k=>h.trans k (by simp)) ?_;simp only[zts,ztz,zds,zdz];refine lq (.pointer (some ⟨r,0,none⟩)) ?_;refine lq (.pointer (some ⟨w.heap.size,20,none⟩)) ?_;refine ll 3 (.tmp 9) (⟨w.heap.size,20,none⟩) (.int .i64 (N:Int)) (fun W hW=>((HP.out.keeps hW).cell 20).trans (by kernel_rfl)) ?_;refine loose_q (.int .u64 (N:Int)) (fun _=>by kernel_rfl) (fun W _=>(show _=Result.ok (Next.value (.int .u64 (IntKind.u64.wrap (N:Int)))) W by kernel_rfl).trans (by rw[hwc])) ?_;refine loose_nil (fun W vals hW hkn=> ?_);simp only[addEnt,knowsAll]at hkn
 try simp only[and_true]at hkn
 simp only[addEnt,fill,Act.put,zsa,zsc,zsz];clear hkn;have HA1:=zh (HA.out.keeps hW);have HP1:=zh (HP.out.keeps hW);have HG1:=zh (HG.out.trans (RowsGo.of_keeps hW));clear hW
 go_wp2_with fail
 refine(wrN_any HA1.out N 1 (by omega) (by omega) (by have:=HSS.out;simp;omega) (by simp only[List.length_append,pkOne,toBE_length];omega) rfl).mono ?_;rintro e w2 ⟨rfl,ha,hg⟩;have HP:=zh (hg _ _ _ HP1.out (by decide) (by decide));have HA:=zh ha;have HG:=zh (HG1.out.trans hg);clear ha hg HA1 HP1 HG1
 go_wp2_with fail
 refine bodyPost_end (results_none rfl _ _ _) rfl ⟨rfl, ?_,HG.out⟩;rw[←List.append_assoc];exact HA.out
set_option maxRecDepth 100000 in
set_option maxHeartbeats 1000000 in
theorem pkWr3_any (p:Pk)(sw sc sf:Value)(w0 w:World)(r:Nat)(l:List UInt8)(h:WrAt w0 w r l)(hk:p.k=3)(hs:p.t.length≤200∧0≤p.id∧p.id≤65535)(hl:l.length≤60000):
  Calls Tryz.prog 136 #[.pointer (some ⟨r,0,none⟩),pkV p sw sc sf] w (WrPost w0 w r (l++(pkTx p.t++pkIf (decide (0 < p.q)) (pkTwo p.id)))):=by
 obtain⟨N,hN⟩:∃N:Nat,p.id=(N:Int):=⟨p.id.toNat,by omega⟩;rw[hN]at hs;rw[hN,pkTwo,Int.toNat_natCast]
 by_cases hq:0 < p.q
 ·rw[decide_eq_true hq,show pkIf true (toBE 2 N)=toBE 2 N from rfl]
  have d1:decide (p.q > 0)=true:=decide_eq_true hq;clear hq;obtain⟨k,dup,ret,q,t,b,id,c,cl,keep,hw,wt,wb,wq,wr,hu,hp,u,pw,pr,code,wants,codes,fs⟩:=p;simp only at hs hl hk;have HKK:=zh hk;have HSS:=zh hs;clear hk hs;obtain⟨W0,hW0⟩:∃W,(w).alloc (.cells (zP k dup ret q t b id c cl keep hw wt wb wq wr hu hp u pw pr code sw sc sf) 29)=W:=⟨_,rfl⟩;have k0:Keeps (w) W0 []:=by rw[←hW0];exact Keeps.alloc _ _
  have r0:Row W0 (w).heap.size 29 (zP k dup ret q t b id c cl keep hw wt wb wq wr hu hp u pw pr code sw sc sf):=by rw[←hW0];exact Row.new _ _ _
  simp only at hN d1;subst hN;have HP:=zh r0;have HA:=zh (h.keeps k0);have HG:=zh (RowsGo.of_keeps k0);clear k0 r0 h
  go_enter Tryz.func136,Tryz.ntmps136
  go_upto_region 1 with fail
  clear hW0;have hwc:=u64_nat (n:=N) (by have:=HSS.out;omega);refine wp_region_line KeepsAll _ 3 rfl (by kernel_rfl) (by kernel_rfl) (fun _=>Keeps.refl _ _) (fun _ _ _ h k=>h.trans k (by simp)) ?_;simp only[zts,ztz,zds,zdz];refine lq (.pointer (some ⟨r,0,none⟩)) ?_;refine lq (.pointer (some ⟨w.heap.size,4,none⟩)) ?_;refine ll 9 (.tmp 5) (⟨w.heap.size,4,none⟩) (.string ⟨t.toArray⟩) (fun W hW=>((HP.out.keeps hW).cell 4).trans (by kernel_rfl)) ?_;refine loose_nil (fun W vals hW hkn=> ?_);simp only[addEnt,knowsAll]at hkn
  try simp only[and_true]at hkn
  simp only[addEnt,fill,Act.put,zsa,zsc,zsz];clear hkn;have HA1:=zh (HA.out.keeps hW);have HP1:=zh (HP.out.keeps hW);have HG1:=zh (HG.out.trans (RowsGo.of_keeps hW));clear hW
  go_wp2_with fail
  refine(wrT_any HA1.out t (by have:=HSS.out;omega) (by have:=HSS.out;omega)).mono ?_;rintro e w1 ⟨rfl,ha,hg⟩;have HP:=zh (hg _ _ _ HP1.out (by decide) (by decide));have HA:=zh ha;have HG:=zh (HG1.out.trans hg);clear ha hg HA1 HP1 HG1;have x3:=HP.out.cell 3;simp only[zga,zgz,zgs]at x3
  go_upto_region 3 with fail
  refine wp_region_line KeepsAll _ 4 rfl (by kernel_rfl) (by kernel_rfl) (fun _=>Keeps.refl _ _) (fun _ _ _ h k=>h.trans k (by simp)) ?_;simp only[zts,ztz,zds,zdz];refine lq (.pointer (some ⟨r,0,none⟩)) ?_;refine lq (.pointer (some ⟨w.heap.size,6,none⟩)) ?_;refine ll 2 (.tmp 12) (⟨w.heap.size,6,none⟩) (.int .i64 (N:Int)) (fun W hW=>((HP.out.keeps hW).cell 6).trans (by kernel_rfl)) ?_;refine loose_q (.int .u64 (N:Int)) (fun _=>by kernel_rfl) (fun W _=>(show _=Result.ok (Next.value (.int .u64 (IntKind.u64.wrap (N:Int)))) W by kernel_rfl).trans (by rw[hwc])) ?_;refine loose_nil (fun W vals hW hkn=> ?_);simp only[addEnt,knowsAll]at hkn
  try simp only[and_true]at hkn
  simp only[addEnt,fill,Act.put,zsa,zsc,zsz];clear hkn;have HA1:=zh (HA.out.keeps hW);have HP1:=zh (HP.out.keeps hW);have HG1:=zh (HG.out.trans (RowsGo.of_keeps hW));clear hW
  go_wp2_with fail
  refine(wrN_any HA1.out N 2 (by omega) (by omega) (by have:=HSS.out;simp;omega) (by have:=HSS.out;simp only[List.length_append,pkTx_length];omega) rfl).mono ?_;rintro e w2 ⟨rfl,ha,hg⟩;have HP:=zh (hg _ _ _ HP1.out (by decide) (by decide));have HA:=zh ha;have HG:=zh (HG1.out.trans hg);clear ha hg HA1 HP1 HG1
  go_wp2_with fail
  refine bodyPost_end (results_none rfl _ _ _) rfl ⟨rfl, ?_,HG.out⟩;rw[←List.append_assoc];exact HA.out
 ·rw[decide_eq_false hq,show pkIf false (toBE 2 N)= []from rfl,List.append_nil]
  have d1:decide (p.q > 0)=false:=decide_eq_false hq;clear hq;obtain⟨k,dup,ret,q,t,b,id,c,cl,keep,hw,wt,wb,wq,wr,hu,hp,u,pw,pr,code,wants,codes,fs⟩:=p;simp only at hs hl hk;have HKK:=zh hk;have HSS:=zh hs;clear hk hs;obtain⟨W0,hW0⟩:∃W,(w).alloc (.cells (zP k dup ret q t b id c cl keep hw wt wb wq wr hu hp u pw pr code sw sc sf) 29)=W:=⟨_,rfl⟩;have k0:Keeps (w) W0 []:=by rw[←hW0];exact Keeps.alloc _ _
  have r0:Row W0 (w).heap.size 29 (zP k dup ret q t b id c cl keep hw wt wb wq wr hu hp u pw pr code sw sc sf):=by rw[←hW0];exact Row.new _ _ _
  simp only at hN d1;subst hN;have HP:=zh r0;have HA:=zh (h.keeps k0);have HG:=zh (RowsGo.of_keeps k0);clear k0 r0 h
  go_enter Tryz.func136,Tryz.ntmps136
  go_upto_region 1 with fail
  clear hW0;refine wp_region_line KeepsAll _ 3 rfl (by kernel_rfl) (by kernel_rfl) (fun _=>Keeps.refl _ _) (fun _ _ _ h k=>h.trans k (by simp)) ?_;simp only[zts,ztz,zds,zdz];refine lq (.pointer (some ⟨r,0,none⟩)) ?_;refine lq (.pointer (some ⟨w.heap.size,4,none⟩)) ?_;refine ll 9 (.tmp 5) (⟨w.heap.size,4,none⟩) (.string ⟨t.toArray⟩) (fun W hW=>((HP.out.keeps hW).cell 4).trans (by kernel_rfl)) ?_;refine loose_nil (fun W vals hW hkn=> ?_);simp only[addEnt,knowsAll]at hkn
  try simp only[and_true]at hkn
  simp only[addEnt,fill,Act.put,zsa,zsc,zsz];clear hkn;have HA1:=zh (HA.out.keeps hW);have HP1:=zh (HP.out.keeps hW);have HG1:=zh (HG.out.trans (RowsGo.of_keeps hW));clear hW
  go_wp2_with fail
  refine(wrT_any HA1.out t (by have:=HSS.out;omega) (by have:=HSS.out;omega)).mono ?_;rintro e w1 ⟨rfl,ha,hg⟩;have HP:=zh (hg _ _ _ HP1.out (by decide) (by decide));have HA:=zh ha;have HG:=zh (HG1.out.trans hg);clear ha hg HA1 HP1 HG1;have x3:=HP.out.cell 3;simp only[zga,zgz,zgs]at x3
  go_wp2_with fail
  exact bodyPost_end (results_none rfl _ _ _) rfl ⟨rfl,HA.out,HG.out⟩
set_option maxRecDepth 100000 in
theorem pkWrAns_any (p:Pk)(sw sc sf:Value)(w0 w:World)(r:Nat)(l:List UInt8)(h:WrAt w0 w r l):
  Calls Tryz.prog 141 #[.pointer (some ⟨r,0,none⟩),pkV p sw sc sf] w (WrPost w0 w r l):=by
 obtain⟨k,dup,ret,q,t,b,id,c,cl,keep,hw,wt,wb,wq,wr,hu,hp,u,pw,pr,code,wants,codes,fs⟩:=p;have HA:=zh h;clear h
 go_enter Tryz.func141,Tryz.ntmps141
 go_wp2_with fail
 exact bodyPost_end (results_none rfl _ _ _) rfl ⟨rfl,HA.out.keeps (Keeps.alloc _ _),RowsGo.of_keeps (Keeps.alloc _ _)⟩
set_option maxRecDepth 100000 in
set_option maxHeartbeats 1000000 in
/-- A kind that has an ID: that, and what is written besides. -/
theorem pkWrList_any (p:Pk)(sw sc sf:Value)(w0 w:World)(r:Nat)(l B:List UInt8)(i:FuncId)(bx:Nat)(h:WrAt w0 w r l)(hk:4≤p.k∧p.k≤11)(hs:0≤p.id∧p.id≤65535)(hl:l.length≤60000)(hr:∀(args:Array Value) (w:World),(callFunc i args).run Tryz.prog w= .ok (.enter i args) w)(hb:Row w bx 53 #[.func (.func i) #[] #[]])
  (HC:∀W l',WrAt w0 W r l' →l'.length≤60002→Calls Tryz.prog i #[.pointer (some ⟨r,0,none⟩),pkV p sw sc sf] W (WrPost w0 W r (l' ++B))):
  Calls Tryz.prog 112 #[.pointer (some ⟨r,0,none⟩),pkV p sw sc sf,.pointer (some ⟨bx,0,none⟩)] w (WrPost w0 w r (l++(pkTwo p.id++B))):=by
 obtain⟨N,hN⟩:∃N:Nat,p.id=(N:Int):=⟨p.id.toNat,by omega⟩;have HC:=zh HC;rw[hN]at hs;rw[hN,pkTwo,Int.toNat_natCast];obtain⟨k,dup,ret,q,t,b,id,c,cl,keep,hw,wt,wb,wq,wr,hu,hp,u,pw,pr,code,wants,codes,fs⟩:=p;simp only at hs hl hk;have HKK:=zh hk;have HSS:=zh hs;clear hk hs;obtain⟨W0,hW0⟩:∃W,(w).alloc (.cells (zP k dup ret q t b id c cl keep hw wt wb wq wr hu hp u pw pr code sw sc sf) 29)=W:=⟨_,rfl⟩;have k0:Keeps (w) W0 []:=by rw[←hW0];exact Keeps.alloc _ _
 have r0:Row W0 (w).heap.size 29 (zP k dup ret q t b id c cl keep hw wt wb wq wr hu hp u pw pr code sw sc sf):=by rw[←hW0];exact Row.new _ _ _
 simp only at hN;subst hN;have HP:=zh r0;have HA:=zh (h.keeps k0);have HG:=zh (RowsGo.of_keeps k0);clear k0 r0 h
 go_enter Tryz.func112,Tryz.ntmps112
 go_upto_region 1 with fail
 clear hW0;have HB:=zh (HG.out _ _ _ hb (by decide) (by decide));clear hb;have hwc:=u64_nat (n:=N) (by have:=HSS.out;omega);refine wp_region_line KeepsAll _ 4 rfl (by kernel_rfl) (by kernel_rfl) (fun _=>Keeps.refl _ _) (fun _ _ _ h k=>h.trans k (by simp)) ?_;simp only[zts,ztz,zds,zdz];refine lq (.pointer (some ⟨r,0,none⟩)) ?_;refine lq (.pointer (some ⟨w.heap.size,6,none⟩)) ?_;refine ll 2 (.tmp 6) (⟨w.heap.size,6,none⟩) (.int .i64 (N:Int)) (fun W hW=>((HP.out.keeps hW).cell 6).trans (by kernel_rfl)) ?_;refine loose_q (.int .u64 (N:Int)) (fun _=>by kernel_rfl) (fun W _=>(show _=Result.ok (Next.value (.int .u64 (IntKind.u64.wrap (N:Int)))) W by kernel_rfl).trans (by rw[hwc])) ?_;refine loose_nil (fun W vals hW hkn=> ?_);simp only[addEnt,knowsAll]at hkn
 try simp only[and_true]at hkn
 simp only[addEnt,fill,Act.put,zsa,zsc,zsz];have HB1:=zh (HB.out.keeps hW);clear hkn;have HA1:=zh (HA.out.keeps hW);have HP1:=zh (HP.out.keeps hW);have HG1:=zh (HG.out.trans (RowsGo.of_keeps hW));clear hW
 go_wp2_with fail
 refine(wrN_any HA1.out N 2 (by omega) (by omega) (by have:=HSS.out;simp;omega) (by omega) rfl).mono ?_;rintro e w2 ⟨rfl,ha,hg⟩;have HB:=zh (hg _ _ _ HB1.out (by decide) (by decide));have HP:=zh (hg _ _ _ HP1.out (by decide) (by decide));have HA:=zh ha;have HG:=zh (HG1.out.trans hg);clear ha hg HA1 HP1 HG1
 go_upto_region 2 with fail
 refine wp_region_line KeepsAll _ 3 rfl (by kernel_rfl) (by kernel_rfl) (fun _=>Keeps.refl _ _) (fun _ _ _ h k=>h.trans k (by simp)) ?_;simp only[zts,ztz,zds,zdz];refine ll 53 (.tmp 2) (⟨bx,0,none⟩) (.func (.func i) #[] #[]) (fun W hW=>((HB.out.keeps hW).cell 0).trans (by kernel_rfl)) ?_;refine lq (.pointer (some ⟨r,0,none⟩)) ?_;refine lw 29 (.tmp 4) (w.heap.size) ((zL k dup ret q t b (N:Int) c cl keep hw wt wb wq wr hu hp u pw pr code sw sc sf)) Tryz.underlying29 (fun W hW=>range_row (HP.out.keeps hW)) ?_;refine loose_nil (fun W vals hW hkn=> ?_);simp only[addEnt,knowsAll]at hkn
 try simp only[and_true]at hkn
 simp only[addEnt,fill,Act.put,zsa,zsc,zsz];clear hkn;have HA1:=zh (HA.out.keeps hW);have HP1:=zh (HP.out.keeps hW);have HG1:=zh (HG.out.trans (RowsGo.of_keeps hW));clear hW
 go_wp2_with fail
 refine(HC.out _ _ HA1.out (by simp only[List.length_append,toBE_length];omega)).mono ?_;rintro e w3 ⟨rfl,ha,hg⟩;have HA:=zh ha;have HG:=zh (HG1.out.trans hg);clear ha hg HA1 HP1 HG1
 go_wp2_with fail
 refine bodyPost_end (results_none rfl _ _ _) rfl ⟨rfl, ?_,HG.out⟩;rw[←List.append_assoc];exact HA.out

theorem flat_take {α:Type}(f:α→List UInt8)(l:List α){j:Nat}(hj:j < l.length):(l.take (j+1)).flatMap f=(l.take j).flatMap f++f l[j]:=by
 rw[List.take_succ_eq_append_getElem hj,List.flatMap_append,List.flatMap_cons,List.flatMap_nil,List.append_nil]
theorem take_mem {α:Type}{l:List α}{j:Nat}{x:α}(h:x∈l.take j):x∈l:=List.mem_of_mem_take h
set_option maxRecDepth 100000 in
set_option maxHeartbeats 2000000 in
theorem pkWr9_any (p:Pk)(sw sc sf:Value)(w0 w:World)(r:Nat)(l:List UInt8)(h:WrAt w0 w r l)(hlw:PkL w0 p sw sc sf)(hk:p.k=9)(hs:p.codes.length≤8∧∀x∈p.codes,0≤x∧x≤255)(hl:l.length≤60002):
  Calls Tryz.prog 76 #[.pointer (some ⟨r,0,none⟩),pkV p sw sc sf] w (WrPost w0 w r (l++p.codes.flatMap (fun c:Int=>pkOne c.toNat))):=by
 obtain⟨A,c9,hsw,hlst⟩:=hlw.lc;have HL:=zh hlst;clear hlw hlst;obtain⟨k,dup,ret,q,t,b,id,c,cl,keep,hw,wt,wb,wq,wr,hu,hp,u,pw,pr,code,wants,codes,fs⟩:=p;simp only at hs hl hk;have HKK:=zh hk;have HSS:=zh hs;clear hk hs;obtain⟨W0,hW0⟩:∃W,(w).alloc (.cells (zP k dup ret q t b id c cl keep hw wt wb wq wr hu hp u pw pr code sw sc sf) 29)=W:=⟨_,rfl⟩;have k0:Keeps (w) W0 []:=by rw[←hW0];exact Keeps.alloc _ _
 have r0:Row W0 (w).heap.size 29 (zP k dup ret q t b id c cl keep hw wt wb wq wr hu hp u pw pr code sw sc sf):=by rw[←hW0];exact Row.new _ _ _
 (simp only at hsw HL;have HSW:=zh hsw;clear hsw)
 have HP:=zh r0;have HA:=zh (h.keeps k0);have HG:=zh (RowsGo.of_keeps k0);clear k0 r0 h
 go_enter Tryz.func76,Tryz.ntmps76
 go_upto_region 1 with fail
 clear hW0;have x21:=HP.out.cell 22;simp only[zga,zgz,zgs]at x21;rw[HSW.out]at x21;have hle:codes.length≤8:=HSS.out.1;have HLN:=zh (fun j:Nat=>(flat_len (f:=(fun c:Int=>pkOne c.toNat)) (m:=1) (l:=codes.take j) (fun x hx=>by
  have:=HSS.out.2 x (take_mem hx);simp[pkOne,toBE_length])))
 have HLM:=zh (fun j:Nat=>show(codes.take j).length*1≤8 by
  have:=HSS.out.1;have h2:(codes.take j).length≤8:=by rw[List.length_take];omega
  omega)
 go_wp2_with fail
 go_loopw [9] (fun i wr=>∃j:Nat,j≤codes.length∧i= .int .i64 j∧Hid (WrAt w0 wr r (l++(codes.take j).flatMap (fun c:Int=>pkOne c.toNat))∧RowsGo w wr)) (fun i _=>codes.length - (intOf i).toNat)
 case atStart=>exact⟨0,by omega,rfl,zh ⟨by simpa using HA.out,HG.out⟩⟩
 case round=>
  obtain⟨j,hj,rfl,HJ⟩:=hrel
  by_cases hjl:j < codes.length
  ·obtain⟨b1,o1,cs1,rfl,hr1,hc1⟩:=HL.out (by omega)
   have hr2:=hr1.keeps HJ.out.1.k;have hc2:=hc1 j hjl;have HST:=zh (flat_take ((fun c:Int=>pkOne c.toNat)) codes hjl);have HLJ:=zh (And.intro (HLN.out j) (HLM.out j));have HE:=zh (HSS.out.2 codes[j] (List.getElem_mem hjl))
   generalize codes[j]=x at hc2 HST HE
   obtain⟨N,hN⟩:∃N:Nat,x=(N:Int):=⟨x.toNat,by have:=HE.out;omega⟩;subst hN;rw[Int.toNat_natCast]at HST;have m0:=(hr2.cell (o1+j*1+0)).trans (hc2 0 (by omega));simp only[intC,zgz,Nat.mul_one,Nat.add_zero]at m0;have hwc:=u64_nat (n:=N) (by have:=HE.out;omega);clear hr1 hr2 hc1 hc2
   go_upto_region 4 with fail
   clear m0;refine wp_region_line KeepsAll _ 3 rfl (by kernel_rfl) (by kernel_rfl) (fun _=>Keeps.refl _ _) (fun _ _ _ h k=>h.trans k (by simp)) ?_;simp only[zts,ztz,zds,zdz];refine lq (.pointer (some ⟨r,0,none⟩)) ?_;refine lq (.int .i64 (N:Int)) ?_;refine loose_q (.int .u64 (N:Int)) (fun _=>by kernel_rfl) (fun W _=>(show _=Result.ok (Next.value (.int .u64 (IntKind.u64.wrap (N:Int)))) W by kernel_rfl).trans (by rw[hwc])) ?_;refine loose_nil (fun W vals hW hkn=> ?_);simp only[addEnt,knowsAll]at hkn
   try simp only[and_true]at hkn
   simp only[addEnt,fill,Act.put,zsa,zsc,zsz];clear hkn;have HA8:=zh (HJ.out.1.keeps hW);have HG8:=zh (HJ.out.2.trans (RowsGo.of_keeps hW));clear hW
   go_wp2_with fail
   refine(wrN_any HA8.out N 1 (by omega) (by omega) (by have:=HE.out;simp;omega) (by have:=HE.out;have:=HLJ.out;rw[List.length_append];omega) rfl).mono ?_;rintro e w9 ⟨rfl,ha,hg⟩;have HA9:=zh ha;have HG9:=zh (HG8.out.trans hg);clear ha hg
   go_wp2_with fail
   refine⟨⟨j+1,by omega,by go_num,zh ⟨?_,HG9.out⟩⟩,by simp[intOf];omega⟩;rw[HST.out];have:=HA9.out
   rwa [List.append_assoc]at this
  ·obtain rfl:j=codes.length:=by omega
   rw[List.take_length]at HJ
   go_wp2_with fail
   exact bodyPost_end (results_none rfl _ _ _) rfl ⟨rfl,HJ.out.1,HJ.out.2⟩
set_option maxRecDepth 100000 in
set_option maxHeartbeats 2000000 in
theorem pkWr10_any (p:Pk)(sw sc sf:Value)(w0 w:World)(r:Nat)(l:List UInt8)(h:WrAt w0 w r l)(hlw:PkL w0 p sw sc sf)(hk:p.k=10)(hs:p.fs.length≤8∧∀x∈p.fs,x.length≤200)(hl:l.length≤60002):
  Calls Tryz.prog 83 #[.pointer (some ⟨r,0,none⟩),pkV p sw sc sf] w (WrPost w0 w r (l++p.fs.flatMap pkTx)):=by
 obtain⟨A,c9,hsw,hlst⟩:=hlw.lf;have HL:=zh hlst;clear hlw hlst;obtain⟨k,dup,ret,q,t,b,id,c,cl,keep,hw,wt,wb,wq,wr,hu,hp,u,pw,pr,code,wants,codes,fs⟩:=p;simp only at hs hl hk;have HKK:=zh hk;have HSS:=zh hs;clear hk hs;obtain⟨W0,hW0⟩:∃W,(w).alloc (.cells (zP k dup ret q t b id c cl keep hw wt wb wq wr hu hp u pw pr code sw sc sf) 29)=W:=⟨_,rfl⟩;have k0:Keeps (w) W0 []:=by rw[←hW0];exact Keeps.alloc _ _
 have r0:Row W0 (w).heap.size 29 (zP k dup ret q t b id c cl keep hw wt wb wq wr hu hp u pw pr code sw sc sf):=by rw[←hW0];exact Row.new _ _ _
 (simp only at hsw HL;have HSW:=zh hsw;clear hsw)
 have HP:=zh r0;have HA:=zh (h.keeps k0);have HG:=zh (RowsGo.of_keeps k0);clear k0 r0 h
 go_enter Tryz.func83,Tryz.ntmps83
 go_upto_region 1 with fail
 clear hW0;have x21:=HP.out.cell 23;simp only[zga,zgz,zgs]at x21;rw[HSW.out]at x21;have hle:fs.length≤8:=HSS.out.1;have HLN:=zh (fun j:Nat=>(flat_len (f:=pkTx) (m:=202) (l:=fs.take j) (fun x hx=>by
  have:=HSS.out.2 x (take_mem hx);rw[pkTx_length];omega)))
 have HLM:=zh (fun j:Nat=>show(fs.take j).length*202≤1616 by
  have:=HSS.out.1;have h2:(fs.take j).length≤8:=by rw[List.length_take];omega
  omega)
 go_wp2_with fail
 go_loopw [9] (fun i wr=>∃j:Nat,j≤fs.length∧i= .int .i64 j∧Hid (WrAt w0 wr r (l++(fs.take j).flatMap pkTx)∧RowsGo w wr)) (fun i _=>fs.length - (intOf i).toNat)
 case atStart=>exact⟨0,by omega,rfl,zh ⟨by simpa using HA.out,HG.out⟩⟩
 case round=>
  obtain⟨j,hj,rfl,HJ⟩:=hrel
  by_cases hjl:j < fs.length
  ·obtain⟨b1,o1,cs1,rfl,hr1,hc1⟩:=HL.out (by omega)
   have hr2:=hr1.keeps HJ.out.1.k;have hc2:=hc1 j hjl;have HST:=zh (flat_take (pkTx) fs hjl);have HLJ:=zh (And.intro (HLN.out j) (HLM.out j));have HE:=zh (HSS.out.2 fs[j] (List.getElem_mem hjl))
   generalize fs[j]=x at hc2 HST HE
   have m0:=(hr2.cell (o1+j*1+0)).trans (hc2 0 (by omega));simp only[txtV,zgz,Nat.mul_one,Nat.add_zero]at m0;clear hr1 hr2 hc1 hc2
   go_wp2_with fail
   refine(wrT_any HJ.out.1 x (by have:=HE.out;omega) (by have:=HE.out;have:=HLJ.out;rw[List.length_append];omega)).mono ?_;rintro e w9 ⟨rfl,ha,hg⟩;have HA9:=zh ha;have HG9:=zh (HJ.out.2.trans hg);clear ha hg m0
   go_wp2_with fail
   refine⟨⟨j+1,by omega,by go_num,zh ⟨?_,HG9.out⟩⟩,by simp[intOf];omega⟩;rw[HST.out];have:=HA9.out
   rwa [List.append_assoc]at this
  ·obtain rfl:j=fs.length:=by omega
   rw[List.take_length]at HJ
   go_wp2_with fail
   exact bodyPost_end (results_none rfl _ _ _) rfl ⟨rfl,HJ.out.1,HJ.out.2⟩
set_option maxRecDepth 100000 in
set_option maxHeartbeats 2000000 in
theorem pkWr8_any (p:Pk)(sw sc sf:Value)(w0 w:World)(r:Nat)(l:List UInt8)(h:WrAt w0 w r l)(hlw:PkL w0 p sw sc sf)(hk:p.k=8)(hs:p.wants.length≤8∧∀x∈p.wants,x.1.length≤200∧0≤x.2∧x.2≤2)(hl:l.length≤60002):
  Calls Tryz.prog 66 #[.pointer (some ⟨r,0,none⟩),pkV p sw sc sf] w (WrPost w0 w r (l++p.wants.flatMap fun w=>pkTx w.1++pkOne w.2.toNat)):=by
 obtain⟨A,c9,hsw,hlst⟩:=hlw.lw;have HL:=zh hlst;clear hlw hlst;obtain⟨k,dup,ret,q,t,b,id,c,cl,keep,hw,wt,wb,wq,wr,hu,hp,u,pw,pr,code,wants,codes,fs⟩:=p;simp only at hs hl hk;have HKK:=zh hk;have HSS:=zh hs;clear hk hs;obtain⟨W0,hW0⟩:∃W,(w).alloc (.cells (zP k dup ret q t b id c cl keep hw wt wb wq wr hu hp u pw pr code sw sc sf) 29)=W:=⟨_,rfl⟩;have k0:Keeps (w) W0 []:=by rw[←hW0];exact Keeps.alloc _ _
 have r0:Row W0 (w).heap.size 29 (zP k dup ret q t b id c cl keep hw wt wb wq wr hu hp u pw pr code sw sc sf):=by rw[←hW0];exact Row.new _ _ _
 (simp only at hsw HL;have HSW:=zh hsw;clear hsw)
 have HP:=zh r0;have HA:=zh (h.keeps k0);have HG:=zh (RowsGo.of_keeps k0);clear k0 r0 h
 go_enter Tryz.func66,Tryz.ntmps66
 go_upto_region 1 with fail
 clear hW0;have x21:=HP.out.cell 21;simp only[zga,zgz,zgs]at x21;rw[HSW.out]at x21;have hle:wants.length≤8:=HSS.out.1;have HLN:=zh (fun j:Nat=>(flat_len (f:=fun w:List UInt8×Int=>pkTx w.1++pkOne w.2.toNat) (m:=203) (l:=wants.take j) (fun x hx=>by
  have:=(HSS.out.2 x (take_mem hx)).1;rw[List.length_append,pkTx_length];simp only[pkOne,toBE_length];omega)))
 have HLM:=zh (fun j:Nat=>show(wants.take j).length*203≤1624 by
  have:=HSS.out.1;have h2:(wants.take j).length≤8:=by rw[List.length_take];omega
  omega)
 go_wp2_with fail
 go_loopw [9] (fun i wr=>∃j:Nat,j≤wants.length∧i= .int .i64 j∧Hid (WrAt w0 wr r (l++(wants.take j).flatMap fun w=>pkTx w.1++pkOne w.2.toNat)∧RowsGo w wr)) (fun i _=>wants.length - (intOf i).toNat)
 case atStart=>exact⟨0,by omega,rfl,zh ⟨by simpa using HA.out,HG.out⟩⟩
 case round=>
  obtain⟨j,hj,rfl,HJ⟩:=hrel
  by_cases hjl:j < wants.length
  ·obtain⟨b1,o1,cs1,rfl,hr1,hc1⟩:=HL.out (by omega)
   have hr2:=hr1.keeps HJ.out.1.k;have hc2:=hc1 j hjl;have HST:=zh (flat_take (fun w:List UInt8×Int=>pkTx w.1++pkOne w.2.toNat) wants hjl);have HLJ:=zh (And.intro (HLN.out j) (HLM.out j));have HE:=zh (HSS.out.2 wants[j] (List.getElem_mem hjl))
   generalize wants[j]=x at hc2 HST HE
   obtain⟨f,q'⟩:=x;simp only at HST HE;obtain⟨N,hN⟩:∃N:Nat,q' =(N:Int):=⟨q'.toNat,by have:=HE.out;omega⟩;subst hN;rw[Int.toNat_natCast]at HST;have m0:=(hr2.cell (o1+j*2+0)).trans (hc2 0 (by omega));have m1:=(hr2.cell (o1+j*2+1)).trans (hc2 1 (by omega));simp only[wantC,zgz,zgs,Nat.add_zero]at m0 m1;have hwc:=u64_nat (n:=N) (by have:=HE.out;omega);clear hr1 hr2 hc1 hc2;obtain⟨W5,hW5⟩:∃W5,wr.alloc (.cells #[.string ⟨f.toArray⟩,.int .i64 (N:Int)] 50)=W5:=⟨_,rfl⟩;have HR5:=zh (show Row W5 wr.heap.size 50 #[.string ⟨f.toArray⟩,.int .i64 (N:Int)]by rw[←hW5];exact Row.new _ _ _);have HK5:=zh (show Keeps wr W5 []by rw[←hW5];exact Keeps.alloc _ _)
   go_upto_region 4 with fail
   clear m0 m1 hW5;refine wp_region_line KeepsAll _ 3 rfl (by kernel_rfl) (by kernel_rfl) (fun _=>Keeps.refl _ _) (fun _ _ _ h k=>h.trans k (by simp)) ?_;simp only[zts,ztz,zds,zdz];refine lq (.pointer (some ⟨r,0,none⟩)) ?_;refine lq (.pointer (some ⟨wr.heap.size,0,none⟩)) ?_;refine ll 9 (.tmp 14) (⟨wr.heap.size,0,none⟩) (.string ⟨f.toArray⟩) (fun W hW=>((HR5.out.keeps hW).cell 0).trans (by kernel_rfl)) ?_;refine loose_nil (fun W vals hW hkn=> ?_);simp only[addEnt,knowsAll]at hkn
   try simp only[and_true]at hkn
   simp only[addEnt,fill,Act.put,zsa,zsc,zsz];clear hkn;have HK6:=zh (HK5.out.then_ hW);have HR6:=zh (HR5.out.keeps hW);clear hW
   go_wp2_with fail
   refine(wrT_any (HJ.out.1.keeps HK6.out) f (by have:=HE.out;omega) (by have:=HE.out;have:=HLJ.out;rw[List.length_append];omega)).mono ?_;rintro e w7 ⟨rfl,ha,hg⟩;have HR7:=zh (hg _ _ _ HR6.out (by decide) (by decide));have HA7:=zh ha;have HG7:=zh ((HJ.out.2.trans (RowsGo.of_keeps HK6.out)).trans hg);clear ha hg
   go_upto_region 5 with fail
   refine wp_region_line KeepsAll _ 4 rfl (by kernel_rfl) (by kernel_rfl) (fun _=>Keeps.refl _ _) (fun _ _ _ h k=>h.trans k (by simp)) ?_;simp only[zts,ztz,zds,zdz];refine lq (.pointer (some ⟨r,0,none⟩)) ?_;refine lq (.pointer (some ⟨wr.heap.size,1,none⟩)) ?_;refine ll 3 (.tmp 18) (⟨wr.heap.size,1,none⟩) (.int .i64 (N:Int)) (fun W hW=>((HR7.out.keeps hW).cell 1).trans (by kernel_rfl)) ?_;refine loose_q (.int .u64 (N:Int)) (fun _=>by kernel_rfl) (fun W _=>(show _=Result.ok (Next.value (.int .u64 (IntKind.u64.wrap (N:Int)))) W by kernel_rfl).trans (by rw[hwc])) ?_;refine loose_nil (fun W vals hW hkn=> ?_);simp only[addEnt,knowsAll]at hkn
   try simp only[and_true]at hkn
   simp only[addEnt,fill,Act.put,zsa,zsc,zsz];clear hkn;have HA8:=zh (HA7.out.keeps hW);have HG8:=zh (HG7.out.trans (RowsGo.of_keeps hW));clear hW
   go_wp2_with fail
   refine(wrN_any HA8.out N 1 (by omega) (by omega) (by have:=HE.out;simp;omega) (by have:=HE.out;have:=HLJ.out;rw[List.length_append,List.length_append,pkTx_length];omega) rfl).mono ?_;rintro e w9 ⟨rfl,ha,hg⟩;have HA9:=zh ha;have HG9:=zh (HG8.out.trans hg);clear ha hg
   go_wp2_with fail
   refine⟨⟨j+1,by omega,by go_num,zh ⟨?_,HG9.out⟩⟩,by simp[intOf];omega⟩;rw[HST.out];have:=HA9.out
   rwa [List.append_assoc,List.append_assoc]at this
  ·obtain rfl:j=wants.length:=by omega
   rw[List.take_length]at HJ
   go_wp2_with fail
   exact bodyPost_end (results_none rfl _ _ _) rfl ⟨rfl,HJ.out.1,HJ.out.2⟩

def pairC (x:Bool×List UInt8):List Value:= [.bool x.1,.string ⟨x.2.toArray⟩]
theorem encPairC:Enc 2 pairC:=⟨by omega,fun _=>rfl,fun p u hu=>by
 simp only[pairC,List.mem_cons,List.not_mem_nil,or_false]at hu
 rcases hu with rfl | rfl <;> rfl⟩
def pkFour (p:Pk):List (Bool×List UInt8):= [(p.hw,p.wt),(p.hw,p.wb),(p.hu,p.u),(p.hp,p.pw)]
def pkPre (p:Pk):List UInt8:=pkTx [77,81,84,84]++(pkOne 4++(pkOne (pkConn p)++(pkTwo p.keep++pkTx p.c)))
theorem pkBody1_four {p:Pk}(h:p.k=1):pkBody p=pkPre p++(pkFour p).flatMap fun x=>pkIf x.1 (pkTx x.2):=by
 rw[pkBody1 h];unfold pkPre pkFour;have ew:pkIf p.hw (pkTx p.wt++pkTx p.wb)=pkIf p.hw (pkTx p.wt)++pkIf p.hw (pkTx p.wb):=by cases p.hw <;> rfl
 rw[ew];simp
set_option maxRecDepth 100000 in
set_option maxHeartbeats 4000000 in
theorem pkWr1_any (p:Pk)(sw sc sf:Value)(w0 w:World)(r:Nat)(l:List UInt8)(h:WrAt w0 w r l)(hk:p.k=1)(hf:PkFit1 p)(hl:l.length≤1000):
  Calls Tryz.prog 129 #[.pointer (some ⟨r,0,none⟩),pkV p sw sc sf] w (WrPost w0 w r (l++pkBody p)):=by
 rw[pkBody1_four hk];have CN:=zh (fun W=>pkConnects_any p sw sc sf W ⟨hf.will.2.2.1,by have:=hf.will.2.2.2;omega⟩);have hcn:=pkConn_lt hf.will.2.2.2;have hs:((pkConn p < 256∧0≤p.keep∧p.keep≤65535)∧p.c.length≤23)∧p.wt.length≤200∧p.wb.length≤2000∧p.u.length≤200∧p.pw.length≤200:=⟨⟨⟨hcn,hf.keep⟩,hf.c⟩,hf.will.1,hf.will.2.1,hf.u.1,hf.pw.1⟩;unfold pkPre pkFour;obtain⟨KP,hN⟩:∃N:Nat,p.keep=(N:Int):=⟨p.keep.toNat,by have:=hf.keep;omega⟩;clear hf hcn;rw[hN]at hs;rw[hN,pkTwo,Int.toNat_natCast]
 generalize pkConn p=X at CN hs ⊢
 obtain⟨k,dup,ret,q,t,b,id,c,cl,keep,hw,wt,wb,wq,wr,hu,hp,u,pw,pr,code,wants,codes,fs⟩:=p;simp only at hs hl hk;have HKK:=zh hk;have HSS:=zh hs;clear hk hs;obtain⟨W0,hW0⟩:∃W,(w).alloc (.cells (zP k dup ret q t b id c cl keep hw wt wb wq wr hu hp u pw pr code sw sc sf) 29)=W:=⟨_,rfl⟩;have k0:Keeps (w) W0 []:=by rw[←hW0];exact Keeps.alloc _ _
 have r0:Row W0 (w).heap.size 29 (zP k dup ret q t b id c cl keep hw wt wb wq wr hu hp u pw pr code sw sc sf):=by rw[←hW0];exact Row.new _ _ _
 (simp only at hN CN;subst hN)
 have HP:=zh r0;have HA:=zh (h.keeps k0);have HG:=zh (RowsGo.of_keeps k0);clear k0 r0 h
 go_enter Tryz.func129,Tryz.ntmps129
 go_upto_region 1 with fail
 clear hW0;have hwk:=u64_nat (n:=KP) (by have:=HSS.out;omega);have hwx:=u64_nat (n:=X) (by have:=HSS.out;omega)
 go_wp2_with fail
 refine(wrT_any HA.out [77,81,84,84] (by simp) (by simp;omega)).mono ?_;rintro e w1 ⟨rfl,ha,hg⟩;have HP1:=zh (hg _ _ _ HP.out (by decide) (by decide));have HA1:=zh ha;have HG1:=zh (HG.out.trans hg);clear ha hg HA HP HG
 go_wp2_with fail
 refine(wrN_any HA1.out 4 1 (by omega) (by omega) (by simp) (by rw[List.length_append,pkTx_length];simp;omega) rfl).mono ?_;rintro e w2 ⟨rfl,ha,hg⟩;have HP:=zh (hg _ _ _ HP1.out (by decide) (by decide));have HA:=zh ha;have HG:=zh (HG1.out.trans hg);clear ha hg HA1 HP1 HG1
 go_upto_region 3 with fail
 refine wp_region_line KeepsAll _ 4 rfl (by kernel_rfl) (by kernel_rfl) (fun _=>Keeps.refl _ _) (fun _ _ _ h k=>h.trans k (by simp)) ?_;simp only[zts,ztz,zds,zdz];refine lq (.pointer (some ⟨r,0,none⟩)) ?_;refine lw 29 (.tmp 3) (w.heap.size) ((zL k dup ret q t b id c cl (KP:Int) hw wt wb wq wr hu hp u pw pr code sw sc sf)) Tryz.underlying29 (fun W hW=>range_row (HP.out.keeps hW)) ?_;refine loose_qc 130 (#[.agg (zP k dup ret q t b id c cl (KP:Int) hw wt wb wq wr hu hp u pw pr code sw sc sf)]) (.int .i64 (X:Int)) (fun _=>by kernel_rfl) (fun _ _=>by kernel_rfl) (fun W hW=>CN.out W) ?_;refine loose_q (.int .u64 (X:Int)) (fun _=>by kernel_rfl) (fun W _=>(show _=Result.ok (Next.value (.int .u64 (IntKind.u64.wrap (X:Int)))) W by kernel_rfl).trans (by rw[hwx])) ?_;refine loose_nil (fun W vals hW hkn=> ?_);simp only[addEnt,knowsAll]at hkn
 try simp only[and_true]at hkn
 simp only[addEnt,fill,Act.put,zsa,zsc,zsz];clear hkn;have HA1:=zh (HA.out.keeps hW);have HP1:=zh (HP.out.keeps hW);have HG1:=zh (HG.out.trans (RowsGo.of_keeps hW));clear hW
 go_wp2_with fail
 refine(wrN_any HA1.out X 1 (by omega) (by omega) (by have:=HSS.out;simp;omega) (by rw[List.length_append,List.length_append,pkTx_length,toBE_length];simp;omega) rfl).mono ?_;rintro e w3 ⟨rfl,ha,hg⟩;have HP:=zh (hg _ _ _ HP1.out (by decide) (by decide));have HA:=zh ha;have HG:=zh (HG1.out.trans hg);clear ha hg HA1 HP1 HG1
 go_upto_region 4 with fail
 refine wp_region_line KeepsAll _ 4 rfl (by kernel_rfl) (by kernel_rfl) (fun _=>Keeps.refl _ _) (fun _ _ _ h k=>h.trans k (by simp)) ?_;simp only[zts,ztz,zds,zdz];refine lq (.pointer (some ⟨r,0,none⟩)) ?_;refine lq (.pointer (some ⟨w.heap.size,9,none⟩)) ?_;refine ll 2 (.tmp 16) (⟨w.heap.size,9,none⟩) (.int .i64 (KP:Int)) (fun W hW=>((HP.out.keeps hW).cell 9).trans (by kernel_rfl)) ?_;refine loose_q (.int .u64 (KP:Int)) (fun _=>by kernel_rfl) (fun W _=>(show _=Result.ok (Next.value (.int .u64 (IntKind.u64.wrap (KP:Int)))) W by kernel_rfl).trans (by rw[hwk])) ?_;refine loose_nil (fun W vals hW hkn=> ?_);simp only[addEnt,knowsAll]at hkn
 try simp only[and_true]at hkn
 simp only[addEnt,fill,Act.put,zsa,zsc,zsz];clear hkn;have HA1:=zh (HA.out.keeps hW);have HP1:=zh (HP.out.keeps hW);have HG1:=zh (HG.out.trans (RowsGo.of_keeps hW));clear hW
 go_wp2_with fail
 refine(wrN_any HA1.out KP 2 (by omega) (by omega) (by have:=HSS.out;simp;omega) (by simp only[List.length_append,pkTx_length,toBE_length,List.length_cons,List.length_nil];omega) rfl).mono ?_;rintro e w4 ⟨rfl,ha,hg⟩;have HP:=zh (hg _ _ _ HP1.out (by decide) (by decide));have HA:=zh ha;have HG:=zh (HG1.out.trans hg);clear ha hg HA1 HP1 HG1
 go_upto_region 5 with fail
 refine wp_region_line KeepsAll _ 3 rfl (by kernel_rfl) (by kernel_rfl) (fun _=>Keeps.refl _ _) (fun _ _ _ h k=>h.trans k (by simp)) ?_;simp only[zts,ztz,zds,zdz];refine lq (.pointer (some ⟨r,0,none⟩)) ?_;refine lq (.pointer (some ⟨w.heap.size,7,none⟩)) ?_;refine ll 9 (.tmp 21) (⟨w.heap.size,7,none⟩) (.string ⟨c.toArray⟩) (fun W hW=>((HP.out.keeps hW).cell 7).trans (by kernel_rfl)) ?_;refine loose_nil (fun W vals hW hkn=> ?_);simp only[addEnt,knowsAll]at hkn
 try simp only[and_true]at hkn
 simp only[addEnt,fill,Act.put,zsa,zsc,zsz];clear hkn;have HA1:=zh (HA.out.keeps hW);have HP1:=zh (HP.out.keeps hW);have HG1:=zh (HG.out.trans (RowsGo.of_keeps hW));clear hW
 go_wp2_with fail
 refine(wrT_any HA1.out c (by have:=HSS.out;omega) (by have:=HSS.out;simp only[List.length_append,pkTx_length,toBE_length,List.length_cons,List.length_nil];omega)).mono ?_;rintro e w5 ⟨rfl,ha,hg⟩;have HP:=zh (hg _ _ _ HP1.out (by decide) (by decide));have HA:=zh ha;have HG:=zh (HG1.out.trans hg);clear ha hg HA1 HP1 HG1;obtain⟨L,hL⟩:∃L,l++pkTx [77,81,84,84]++toBE 1 4++toBE 1 X++toBE 2 KP++pkTx c=L:=⟨_,rfl⟩;have HLn:=zh (show L.length≤1100 by rw[←hL];have:=HSS.out;simp only[List.length_append,pkTx_length,toBE_length,List.length_cons,List.length_nil];omega);have HLe:=zh (show∀R:List UInt8,l++(pkTx [77,81,84,84]++(pkOne 4++(pkOne X++(toBE 2 KP++pkTx c)))++R)=L++R by
  intro R;rw[←hL];simp only[List.append_assoc,pkOne])
 rw[hL]at HA;clear hL;obtain⟨F,hF⟩:∃F:List (Bool×List UInt8), [(hw,wt),(hw,wb),(hu,u),(hp,pw)]=F:=⟨_,rfl⟩;have HF:=zh (show F.length=4∧∀x∈F,x.2.length≤2000 by
  rw[←hF];refine⟨rfl,fun x hx=> ?_⟩;have:=HSS.out;simp only[List.mem_cons,List.not_mem_nil,or_false]at hx
  rcases hx with rfl | rfl | rfl | rfl <;> simp only <;> omega)
 have y0:=HP.out;have x0:=y0.cell 0;have x1:=y0.cell 1;have x2:=y0.cell 2;have x3:=y0.cell 3;have x4:=y0.cell 4;have x5:=y0.cell 5;have x6:=y0.cell 6;have x7:=y0.cell 7;have x8:=y0.cell 8;have x9:=y0.cell 9;have x10:=y0.cell 10;have x11:=y0.cell 11;have x12:=y0.cell 12;have x13:=y0.cell 13;have x14:=y0.cell 14;have x15:=y0.cell 15;have x16:=y0.cell 16;have x17:=y0.cell 17;have x18:=y0.cell 18;have x19:=y0.cell 19;have x20:=y0.cell 20;have x21:=y0.cell 21;have x22:=y0.cell 22;have x23:=y0.cell 23;simp only[zga,zgz,zgs]at x0 x1 x2 x3 x4 x5 x6 x7 x8 x9 x10 x11 x12 x13 x14 x15 x16 x17 x18 x19 x20 x21 x22 x23;clear y0;obtain⟨W6,hW6⟩:∃W6,w5.alloc (.cells #[.bool hw,.string ⟨wt.toArray⟩,.bool hw,.string ⟨wb.toArray⟩,.bool hu,.string ⟨u.toArray⟩,.bool hp,.string ⟨pw.toArray⟩] 145)=W6:=⟨_,rfl⟩;have HLA:=zh (show ListAt W6 145 2 pairC (some ⟨w5.heap.size,0,none⟩) F by
  rw[←hF,←hW6];exact listAt_row encPairC (Row.new _ _ _))
 have HA6:=zh (show WrAt w0 W6 r L from HA.out.keeps (by rw[←hW6];exact Keeps.alloc _ _));have HG6:=zh (show RowsGo w W6 from HG.out.trans (RowsGo.of_keeps (by rw[←hW6];exact Keeps.alloc _ _)));have HFe:=zh hF;have HLN:=zh (fun j:Nat=>(flat_len (f:=fun x:Bool×List UInt8=>pkIf x.1 (pkTx x.2)) (m:=2002) (l:=F.take j) (fun x hx=>by
  have h1:=pkIf_length x.1 (pkTx x.2);have h2:=HF.out.2 x (take_mem hx);rw[pkTx_length]at h1;omega)))
 have HLM:=zh (fun j:Nat=>show(F.take j).length*2002≤8008 by
  have:=HF.out.1;have h2:(F.take j).length≤4:=by rw[List.length_take];omega
  omega)
 clear hF
 go_wp2_with fail
 clear x0 x1 x2 x3 x4 x5 x6 x7 x8 x9 x10 x11 x12 x13 x14 x15 x16 x17 x18 x19 x20 x21 x22 x23;clear hW6
 go_loopw [48] (fun i wr9=>∃j:Nat,j≤4∧i= .int .i64 j∧Hid ((WrAt w0 wr9 r (L++(F.take j).flatMap fun x=>pkIf x.1 (pkTx x.2))∧RowsGo w wr9)∧RowsGo W6 wr9)) (fun i _=>4 - (intOf i).toNat)
 case atStart=>exact⟨0,by omega,rfl,zh ⟨⟨by simpa using HA6.out,HG6.out⟩,RowsGo.of_keeps (Keeps.refl _ _)⟩⟩
 case round=>
  obtain⟨j,hj,rfl,HJ⟩:=hrel
  by_cases hjl:j < 4
  ·have hjF:j < F.length:=by have:=HF.out.1;omega
   obtain⟨b1,o1,cs1,e1,hr1,hc1⟩:=HLA.out (by omega);injection e1 with e1
   injection e1 with e2 e3
   subst e2 e3;have hr2:=HJ.out.2 _ _ _ hr1 (by decide) (by decide);have hc2:=hc1 j hjF;have HST:=zh (flat_take (fun x:Bool×List UInt8=>pkIf x.1 (pkTx x.2)) F hjF);have HLJ:=zh (And.intro (HLN.out j) (HLM.out j));have HE:=zh (HF.out.2 F[j] (List.getElem_mem hjF))
   generalize F[j]=x at hc2 HST HE
   obtain⟨is,s⟩:=x;simp only at HST HE;have m0:=(hr2.cell (0+j*2+0)).trans (hc2 0 (by omega));have m1:=(hr2.cell (0+j*2+1)).trans (hc2 1 (by omega));simp only[pairC,zgz,zgs,Nat.add_zero,Nat.zero_add]at m0 m1;clear hr1 hr2 hc1 hc2;obtain⟨W7,hW7⟩:∃W7,wr.alloc (.cells #[.bool is,.string ⟨s.toArray⟩] 145)=W7:=⟨_,rfl⟩;have HR7:=zh (show Row W7 wr.heap.size 145 #[.bool is,.string ⟨s.toArray⟩]by rw[←hW7];exact Row.new _ _ _);have HK7:=zh (show Keeps wr W7 []by rw[←hW7];exact Keeps.alloc _ _);have n0:=HR7.out.cell 0;have n1:=HR7.out.cell 1;simp only[zga,zgz,zgs]at n0 n1
   cases is with
   | true=>
    go_wp2_with fail
    clear m0 m1 n0 n1 hW7;refine(wrT_any (HJ.out.1.1.keeps HK7.out) s (by have:=HE.out;omega) (by have:=HE.out;have:=HLJ.out;have:=HLn.out;rw[List.length_append];omega)).mono ?_;rintro e w9 ⟨rfl,ha,hg⟩;have HA9:=zh ha;have HG9:=zh ((HJ.out.1.2.trans (RowsGo.of_keeps HK7.out)).trans hg);have HG8:=zh ((HJ.out.2.trans (RowsGo.of_keeps HK7.out)).trans hg);clear ha hg
    go_wp2_with fail
    refine⟨⟨j+1,by omega,by go_num,zh ⟨⟨?_,HG9.out⟩,HG8.out⟩⟩,by simp[intOf];omega⟩;rw[HST.out];have:=HA9.out
    rwa [List.append_assoc]at this
   | false=>
    go_wp2_with fail
    clear m0 m1 n0 n1 hW7;refine⟨⟨j+1,by omega,by go_num,zh ⟨⟨?_,HJ.out.1.2.trans (RowsGo.of_keeps HK7.out)⟩,HJ.out.2.trans (RowsGo.of_keeps HK7.out)⟩⟩,by simp[intOf];omega⟩;rw[HST.out];have:=HJ.out.1.1.keeps HK7.out
    rwa [show pkIf false (pkTx s)= []from rfl,List.append_nil]
  ·obtain rfl:j=4:=by omega
   rw[show F.take 4=F from List.take_of_length_le (by rw[HF.out.1];exact Nat.le_refl _)]at HJ
   go_wp2_with fail
   exact bodyPost_end (results_none rfl _ _ _) rfl ⟨rfl,by rw[HLe.out,HFe.out];exact HJ.out.1.1,HJ.out.1.2⟩
end Go.Proofs.YtahbikfbjenfpaaGreatDoor
