/- The reference of packets: body, of a connect. -/
import Derived.Test.YtahbikfbjenfpaaGreatDoorPa47
import Derived.Test.YtahbikfbjenfpaaGreatDoorPa50
set_option maxHeartbeats 4000000
set_option maxRecDepth 100000
namespace Go.Proofs.YtahbikfbjenfpaaGreatDoor
open Tryz Go.RowKit Go.Shelf

theorem GM (W:au)(y:UInt8):aS (W.alloc (.cells #[.int .u8 4,.int .u8 (y.toNat:Nat)] 5)) W.heap.size (.slice (some ⟨W.heap.size,0,none⟩) 2 2) [4,y]:=
 ⟨rfl,.inr ⟨W.heap.size,2, #[.int .u8 4,.int .u8 (y.toNat:Nat)],rfl,bE _,Row.new _ _ _,bE _,by simp[maxLen],rfl,by simp[bq]⟩⟩
theorem DH (p:Pk)(X:Array Value)(sw sc sf:Value)(w:au)(hX:jA p X sw sc sf)(h1:p.k=1)(hq:0<=p.wq/\p.wq<=2)(hkp:0<=p.keep/\p.keep<=65535)
  (hc:p.c.length<=60000) (FU:p.wt.length<=60000) (JO:p.wb.length<=60000) (hu:p.u.length<=60000) (QW:p.pw.length<=60000):
  Calls prog 35 #[.agg X] w λe w' =>∃v,e= .returned v/\aS w' w.heap.size v (bg p)/\ae w w' []:=by
 have HM:Hid (bg p=aO [77,81,84,84]++(aX 4++(aX (cM p)++(bA p.keep++(aO p.c++(dB p.hw (aO p.wt++aO p.wb)++(dB p.hu (aO p.u)++dB p.hp (aO p.pw)))))))):=zh (by unfold bg;rw[aE h1]);have HX:=zh hX;have TH:=zh (λw=>gD w [77,81,84,84] (by decide));have TI:=zh (λw=>gD w p.c (by omega));have yq:=zh (λw=>gD w p.wt (by omega));have VB:=zh (λw=>gD w p.wb (by omega));have Vy:=zh (λw=>gD w p.u (by omega));have Vz:=zh (λw=>gD w p.pw (by omega));have TG:=zh (λw=>tw w p.keep hkp.1 hkp.2);have nA:=zh (show∀s:aG,(aO s).length=2+s.length from λs=>by simp[aO,aP]);have wF:=zh (show(bA p.keep).length=2 by simp[bA,aP]);have zE:=zh (And.intro hc (And.intro FU (And.intro JO (And.intro hu QW))));obtain⟨n1,e1,b1⟩:∃n,g_ p.hu 128=n/\n<=128:=⟨_,rfl,bY _ _⟩;obtain⟨n2,e2,b2⟩:∃n,g_ p.hp 64=n/\n<=64:=⟨_,rfl,bY _ _⟩;obtain⟨n3,e3,b3⟩:∃n,g_ p.wr 32=n/\n<=32:=⟨_,rfl,bY _ _⟩;obtain⟨n4,e4,b4⟩:∃n,g_ p.hw 4=n/\n<=4:=⟨_,rfl,bY _ _⟩;obtain⟨n5,e5,b5⟩:∃n,g_ p.cl 2=n/\n<=2:=⟨_,rfl,bY _ _⟩;obtain⟨q,eq⟩:∃q:Nat,p.wq=(q:Int):=⟨p.wq.toNat,by omega⟩;have hcn:cM p=n1+n2+n3+n4+n5+8*q:=by unfold cM;rw[e1,e2,e3,e4,e5,eq,fT]
 have K0:=zh (show∀W,Calls prog 34 #[.bool p.hu,.int .i64 128] W λe w' =>e= .returned (.int .i64 (n1:Nat))/\ae W w' []from λW=>e1▸fX W p.hu 128);have Pc:=zh (show∀W,Calls prog 34 #[.bool p.hp,.int .i64 64] W λe w' =>e= .returned (.int .i64 (n2:Nat))/\ae W w' []from λW=>e2▸fX W p.hp 64);have Pd:=zh (show∀W,Calls prog 34 #[.bool p.wr,.int .i64 32] W λe w' =>e= .returned (.int .i64 (n3:Nat))/\ae W w' []from λW=>e3▸fX W p.wr 32);have TT:=zh (show∀W,Calls prog 34 #[.bool p.hw,.int .i64 4] W λe w' =>e= .returned (.int .i64 (n4:Nat))/\ae W w' []from λW=>e4▸fX W p.hw 4);have KZ:=zh (show∀W,Calls prog 34 #[.bool p.cl,.int .i64 2] W λe w' =>e= .returned (.int .i64 (n5:Nat))/\ae W w' []from λW=>e5▸fX W p.cl 2);obtain⟨y,hy⟩:∃y:UInt8,y.toNat=cM p:=⟨UInt8.ofNat (cM p),by rw[hcn];simp;omega⟩;have HY:=zh (show aX (cM p)= [y]by rw[<-hy];simp[aX,dZ]);rw[hcn]at hy;have s1:IntKind.i64.wrap ((n1:Int)+(n2:Int))=((n1+n2:Nat):Int):=by rw[IntWalk.i64_in _ ⟨by omega,by omega⟩];omega
 have s2:IntKind.i64.wrap (((n1+n2:Nat):Int)+(n3:Int))=((n1+n2+n3:Nat):Int):=by rw[IntWalk.i64_in _ ⟨by omega,by omega⟩];omega
 have s3:IntKind.i64.wrap (8*(q:Int))=((8*q:Nat):Int):=by rw[IntWalk.i64_in _ ⟨by omega,by omega⟩];omega
 have s4:IntKind.i64.wrap (((n1+n2+n3:Nat):Int)+((8*q:Nat):Int))=((n1+n2+n3+8*q:Nat):Int):=by rw[IntWalk.i64_in _ ⟨by omega,by omega⟩];omega
 have s5:IntKind.i64.wrap (((n1+n2+n3+8*q:Nat):Int)+(n4:Int))=((n1+n2+n3+8*q+n4:Nat):Int):=by rw[IntWalk.i64_in _ ⟨by omega,by omega⟩];omega
 have s6:IntKind.i64.wrap (((n1+n2+n3+8*q+n4:Nat):Int)+(n5:Int))=(y.toNat:Nat):=by rw[IntWalk.i64_in _ ⟨by omega,by omega⟩,hy];omega
 have s7:IntKind.u8.wrap ((y.toNat:Nat):Int)=(y.toNat:Nat):=IntWalk.u8_in _ ⟨by omega,by have:=y.toNat_lt;omega⟩;have HS:=zh (And.intro s1 (And.intro s2 (And.intro s3 (And.intro s4 (And.intro s5 (And.intro s6 s7))))));have c13:=HX.o.c13;rw[eq]at c13;have Pz:=zh c13;obtain⟨W0,aV⟩:∃W0,w.alloc (.cells X 29)=W0:=⟨_,rfl⟩;have HR:=zh (show ae w W0 []/\Row W0 w.heap.size 29 X from by
  rw[<-aV];exact⟨ae.alloc _ _,Row.new _ _ _⟩)
 have c0:=hX.c0;rw[h1]at c0;have x0:=(HR.o.2.cell 0).trans c0;clear hX h1 hq hkp hc FU JO hu QW c0 e1 e2 e3 e4 e5 b1 b2 b3 b4 b5 eq hcn hy s1 s2 s3 s4 s5 s6 s7 c13
 go_enter func35,ntmps35
 go_upto_region 1 with fail
 try rw[aV]
 clear aV
 go_upto_region 4 with fail
 clear x0;refine aB _ (by kernel_rfl) rfl (by kernel_rfl) ?_;refine lq (.pointer (some ⟨w.heap.size,15,none⟩)) ?_;refine ll 4 (.tmp 12) (⟨w.heap.size,15,none⟩) (.bool p.hu) (λW hW=>((HR.o.2.keeps hW).cell 15).trans HX.o.c15) ?_;refine aT 34 (#[.bool p.hu,.int .i64 128]) (.int .i64 (n1:Nat)) (λ_=>by kernel_rfl) (λ_ _=>by kernel_rfl) (λW hW=>by have hh:=K0.o W;exact hh) ?_;refine lq (.pointer (some ⟨w.heap.size,16,none⟩)) ?_;refine ll 4 (.tmp 15) (⟨w.heap.size,16,none⟩) (.bool p.hp) (λW hW=>((HR.o.2.keeps hW).cell 16).trans HX.o.c16) ?_;refine aT 34 (#[.bool p.hp,.int .i64 64]) (.int .i64 (n2:Nat)) (λ_=>by kernel_rfl) (λ_ _=>by kernel_rfl) (λW hW=>by have hh:=Pc.o W;exact hh) ?_;refine aK (.int .i64 ((n1+n2:Nat):Int)) (λ_=>by kernel_rfl) (λW _=>(show _=Result.ok (Next.value (.int .i64 (IntKind.i64.wrap ((n1:Int)+(n2:Int))))) W by kernel_rfl).trans (by rw[HS.o.1])) ?_;refine lq (.pointer (some ⟨w.heap.size,11,none⟩)) ?_;refine lq (.pointer (some ⟨w.heap.size,14,none⟩)) ?_;refine ll 4 (.tmp 20) (⟨w.heap.size,14,none⟩) (.bool p.wr) (λW hW=>((HR.o.2.keeps hW).cell 14).trans HX.o.c14) ?_;refine aT 34 (#[.bool p.wr,.int .i64 32]) (.int .i64 (n3:Nat)) (λ_=>by kernel_rfl) (λ_ _=>by kernel_rfl) (λW hW=>by have hh:=Pd.o W;exact hh) ?_;refine aK (.int .i64 ((n1+n2+n3:Nat):Int)) (λ_=>by kernel_rfl) (λW _=>(show _=Result.ok (Next.value (.int .i64 (IntKind.i64.wrap (((n1+n2:Nat):Int)+(n3:Int))))) W by kernel_rfl).trans (by rw[HS.o.2.1])) ?_;refine lq (.pointer (some ⟨w.heap.size,11,none⟩)) ?_;refine lq (.pointer (some ⟨w.heap.size,13,none⟩)) ?_;refine ll 3 (.tmp 25) (⟨w.heap.size,13,none⟩) (.int .i64 (q:Int)) (λW hW=>((HR.o.2.keeps hW).cell 13).trans Pz.o) ?_;refine aK (.int .i64 ((8*q:Nat):Int)) (λ_=>by kernel_rfl) (λW _=>(show _=Result.ok (Next.value (.int .i64 (IntKind.i64.wrap (8*(q:Int))))) W by kernel_rfl).trans (by rw[HS.o.2.2.1])) ?_;refine aK (.int .i64 ((n1+n2+n3+8*q:Nat):Int)) (λ_=>by kernel_rfl) (λW _=>(show _=Result.ok (Next.value (.int .i64 (IntKind.i64.wrap (((n1+n2+n3:Nat):Int)+((8*q:Nat):Int))))) W by kernel_rfl).trans (by rw[HS.o.2.2.2.1])) ?_;refine lq (.pointer (some ⟨w.heap.size,10,none⟩)) ?_;refine ll 4 (.tmp 29) (⟨w.heap.size,10,none⟩) (.bool p.hw) (λW hW=>((HR.o.2.keeps hW).cell 10).trans HX.o.c10) ?_;refine aT 34 (#[.bool p.hw,.int .i64 4]) (.int .i64 (n4:Nat)) (λ_=>by kernel_rfl) (λ_ _=>by kernel_rfl) (λW hW=>by have hh:=TT.o W;exact hh) ?_;refine aK (.int .i64 ((n1+n2+n3+8*q+n4:Nat):Int)) (λ_=>by kernel_rfl) (λW _=>(show _=Result.ok (Next.value (.int .i64 (IntKind.i64.wrap (((n1+n2+n3+8*q:Nat):Int)+(n4:Int))))) W by kernel_rfl).trans (by rw[HS.o.2.2.2.2.1])) ?_;refine lq (.pointer (some ⟨w.heap.size,8,none⟩)) ?_;refine ll 4 (.tmp 33) (⟨w.heap.size,8,none⟩) (.bool p.cl) (λW hW=>((HR.o.2.keeps hW).cell 8).trans HX.o.c8) ?_;refine aT 34 (#[.bool p.cl,.int .i64 2]) (.int .i64 (n5:Nat)) (λ_=>by kernel_rfl) (λ_ _=>by kernel_rfl) (λW hW=>by have hh:=KZ.o W;exact hh) ?_
 refine aK (.int .i64 (y.toNat:Nat)) (λ_=>by kernel_rfl) (λW _=>(show _=Result.ok (Next.value (.int .i64 (IntKind.i64.wrap (((n1+n2+n3+8*q+n4:Nat):Int)+(n5:Int))))) W by kernel_rfl).trans (by rw[HS.o.2.2.2.2.2.1])) ?_;refine lq (.int .i64 (y.toNat:Nat)) ?_;refine aq (λW vals hW ag=> ?_);simp only[af,aw]at ag
 try simp only[ai]at ag
 simp only[af,fill,Act.put,bo,bn,bh];clear ag;have HK:=zh hW;clear hW
 go_upto_region 5 with fail
 have I1:Hid (([]:List Nat)= []):=zh rfl;have LH:jL [⟨0, [], [4,7,8,9], [0,1,2,3,4], [0,1,2,3,4]⟩,⟨0, [0,1,2,3,4], [8,9], [4,7,8], [4,5,6,7,8]⟩,⟨0, [0,1,2,3,4,5,6,7,8], [], [8], [8]⟩] (dU W0) (λ_=>ax):= .all (by first | exact dU.ok _ | exact Im.ok _) pz;refine iQ [⟨0, [], [4,7,8,9], [0,1,2,3,4], [0,1,2,3,4]⟩,⟨0, [0,1,2,3,4], [8,9], [4,7,8], [4,5,6,7,8]⟩,⟨0, [0,1,2,3,4,5,6,7,8], [], [8], [8]⟩] (dU W0) (λ_=>ax) _ 9 LH (by kernel_rfl) rfl (by kernel_rfl) ?_;simp only[dc,dg,dF,dK];refine db 0 (λu W' =>aS W' W0.heap.size u (aO [77,81,84,84])) rfl (λW vals hW ag φ' hφ=> ?_) ?_
 ·have hC:=hW.c
  simp only[cy]at ag
  try simp only[ai]at ag
  have hz:=(hC HK.o).size;clear ag;refine⟨?_⟩;simp only[fill];go_simp;exact fZ LH hφ ((TH.o W).mono (by rintro e w2 ⟨u,rfl,ho,hk⟩;exact⟨u,rfl,hk,bR ho hz⟩))
 simp only[af];apply aY 1 _ rfl
 ·intro W vals hW ag
  clear ag;have hC:=hW.c;refine⟨?_⟩;simp only[fill];go_simp
  first | exact⟨LH.bp (ae.refl _ _),rfl⟩ | exact⟨LH.bp (ae.alloc _ _),rfl⟩
 simp only[af];apply aY 2 _ rfl
 ·intro W vals hW ag
  have hC:=hW.c;simp only[cy]at ag
  try simp only[ai]at ag
  have m:=HS.o.2.2.2.2.2.2;clear ag;refine⟨?_⟩;simp only[fill];go_simp
  first | exact⟨LH.bp (ae.refl _ _),rfl⟩ | exact⟨LH.bp (ae.alloc _ _),rfl⟩
 simp only[af];refine db 3 (λu W' =>aS W' W0.heap.size u [4,y]) rfl (λW vals hW ag φ' hφ=> ?_) ?_
 ·have hC:=hW.c
  simp only[cy]at ag
  try simp only[ai]at ag
  have hz:=(hC HK.o).size;clear ag;refine⟨?_⟩;simp only[fill];go_simp;exact⟨LH.bp (ae.alloc _ _),hφ.o _ _ (bR (GM W y) hz)⟩
 simp only[af];refine db 4 (λv W' =>aS W' W0.heap.size v (aO [77,81,84,84]++ [4,y])) rfl (λW vals hW ag φ' hφ=> ?_) ?_
 ·have hC:=hW.c
  simp only[cy]at ag
  try simp only[ai]at ag
  obtain⟨UT,UW⟩:=ag;obtain⟨Wa,_,a1,ha⟩:=UW (by decide);obtain⟨Wb,_,b1,hb⟩:=UT (by decide);replace ha:=aM ha (a1.at_ ⟨0, [], [4,7,8,9], [0,1,2,3,4], [0,1,2,3,4]⟩) (by simp);replace hb:=aM hb (b1.at_ ⟨0, [], [4,7,8,9], [0,1,2,3,4], [0,1,2,3,4]⟩) (by simp);refine eC rfl (.tmp 37) (.tmp 40) rfl W0.heap.size (vals 37) (vals 40) (aO [77,81,84,84]) ([4,y]) (by kernel_rfl) (by kernel_rfl) ha (aS.bytes hb (by(have:=nA.o [77,81,84,84];simp at this ⊢;try omega))) (by(have:=nA.o [77,81,84,84];simp at this ⊢;try omega)) (by have:=hC HK.o;exact this.size) (λA c w' l e ho hk=> ?_);subst e;exact⟨.off (dU.app ha hk),hφ.o _ _ ho⟩
 simp only[af];apply aY 5 _ rfl
 ·intro W vals hW ag
  clear ag;have hC:=hW.c;refine⟨?_⟩;simp only[fill];go_simp
  first | exact⟨LH.bp (ae.refl _ _),rfl⟩ | exact⟨LH.bp (ae.alloc _ _),rfl⟩
 simp only[af];apply aY 6 _ rfl
 ·intro W vals hW ag
  have hC:=hW.c;simp only[cy]at ag
  try simp only[ai]at ag
  have m:=((HR.o.2.keeps (hC HK.o)).cell 9).trans HX.o.c9;clear ag;refine⟨?_⟩;simp only[fill];go_simp
  first | exact⟨LH.bp (ae.refl _ _),rfl⟩ | exact⟨LH.bp (ae.alloc _ _),rfl⟩
 simp only[af];refine db 7 (λu W' =>aS W' W0.heap.size u (bA p.keep)) rfl (λW vals hW ag φ' hφ=> ?_) ?_
 ·have hC:=hW.c
  simp only[cy]at ag
  try simp only[ai]at ag
  have hz:=(hC HK.o).size;clear ag;refine⟨?_⟩;simp only[fill];go_simp;exact fZ LH hφ ((TG.o W).mono (by rintro e w2 ⟨u,rfl,ho,hk⟩;exact⟨u,rfl,hk,bR ho hz⟩))
 simp only[af];refine db 8 (λv W' =>aS W' W0.heap.size v (aO [77,81,84,84]++ [4,y]++bA p.keep)) rfl (λW vals hW ag φ' hφ=> ?_) ?_
 ·have hC:=hW.c
  simp only[cy]at ag
  try simp only[ai]at ag
  obtain⟨UR,US,_⟩:=ag;obtain⟨Wa,_,a1,ha⟩:=US (by decide);obtain⟨Wb,_,b1,hb⟩:=UR (by decide);replace ha:=aM ha (a1.at_ ⟨0, [0,1,2,3,4], [8,9], [4,7,8], [4,5,6,7,8]⟩) (by simp);replace hb:=aM hb (b1.at_ ⟨0, [0,1,2,3,4], [8,9], [4,7,8], [4,5,6,7,8]⟩) (by simp);refine eC rfl (.tmp 41) (.tmp 44) rfl W0.heap.size (vals 41) (vals 44) (aO [77,81,84,84]++ [4,y]) (bA p.keep) (by kernel_rfl) (by kernel_rfl) ha (aS.bytes hb (by(have:=wF.o;have:=nA.o [77,81,84,84];simp at this ⊢;omega))) (by(have:=wF.o;have:=nA.o [77,81,84,84];simp at this ⊢;omega)) (by have:=hC HK.o;exact this.size) (λA c w' l e ho hk=> ?_);subst e;exact⟨.off (dU.app ha hk),hφ.o _ _ ho⟩
 simp only[af];refine lz (λW9 vals hW ag=> ?_);simp only[fE]at ag
 try simp only[ai]at ag
 simp only[fill,Act.put,bo,bn,bh];obtain⟨⟨Wa,_,a1,h8⟩,-⟩:=ag;have h8:=aM h8 (a1.at_ ⟨0, [0,1,2,3,4,5,6,7,8], [], [8], [8]⟩) (by simp);have HB:=zh (show iF W0 W9 (vals 45) (aO [77,81,84,84]++ [4,y]++bA p.keep)from⟨h8,hW HK.o⟩);obtain⟨L,hL⟩:∃L,aO [77,81,84,84]++ [4,y]++bA p.keep=L:=⟨_,rfl⟩;have HL:=zh (And.intro hL (show L.length=10 by rw[<-hL,bI,bI,nA.o,wF.o];rfl));rw[hL]at HB;obtain⟨v,hv⟩:∃v,vals 45=v:=⟨_,rfl⟩;rw[hv]at HB ⊢
 clear h8 a1 hW hL hv LH I1 TH TG HS K0 Pc Pd TT KZ Pz HK;have x7:=((HR.o.2.keeps HB.o.k).cell 7).trans HX.o.c7
 go_wp2_with fail
 refine(TI.o _).mono ?_;rintro e w2 ⟨u,rfl,p6,hk2⟩;have wG:=zh (HB.o.ah hk2);have HU:=zh (aS.bytes p6 (by have:=nA.o p.c;have:=zE.o.1;omega));have hbs:=wG.o.k.size;clear p6 hk2 x7 HB
 go_wp2_with (at_builtin;refine aI _ rfl (.tmp 46) (.tmp 49) rfl W0.heap.size v u L (aO p.c) rfl rfl wG.o.own HU.o (by have:=zE.o.1;have:=HL.o.2;rw[nA.o];omega) hbs ?_;intro A3 c3 w3 l3 E3 hl3 Oh hk3 Dv;refine Hid.o ?_)
 refine zh ?_;have FR:=zh (wG.o.app Oh hk3);have iB:=((HR.o.2.keeps FR.o.k).cell 10).trans HX.o.c10;have DV:=zh (show l3.length<=60012 by have:=zE.o.1;have:=HL.o.2;have:=nA.o p.c;omega);clear Oh hk3 Dv hbs hl3 wG HU TI
 go_upto_if 52 with fail
 obtain⟨W3,Nf⟩:∃W3,W3=w3:=⟨_,rfl⟩;rw[<-Nf]at FR
 go_cut [3] (λv wx=>Hid (iF W0 wx v (l3++dB p.hw (aO p.wt++aO p.wb))))
 case first=>
  subst Nf;have HK:=zh FR.o.k
  cases NW:p.hw with
  | false=>
   rw[NW]at iB
   go_wp2_with fail
   go_meet
   exact zh (by rw[NW];show iF W0 _ _ (l3++ []);rw[dJ];exact FR.o)
  | true=>
   rw[NW]at iB
   go_upto_region 8 with fail
   have LH:jL [⟨0, [], [5,9,10,11], [0,1,2,3,4,5], [0,1,2,3,4,5]⟩,⟨0, [0,1,2,3,4,5], [10,11], [5,9,10], [5,6,7,8,9,10]⟩,⟨0, [0,1,2,3,4,5,6,7,8,9,10], [], [10], [10]⟩] (dU W0) (λ_=>ax):= .all (by first | exact dU.ok _ | exact Im.ok _) pz;refine iQ [⟨0, [], [5,9,10,11], [0,1,2,3,4,5], [0,1,2,3,4,5]⟩,⟨0, [0,1,2,3,4,5], [10,11], [5,9,10], [5,6,7,8,9,10]⟩,⟨0, [0,1,2,3,4,5,6,7,8,9,10], [], [10], [10]⟩] (dU W0) (λ_=>ax) _ 11 LH (by kernel_rfl) rfl (by kernel_rfl) ?_;simp only[dc,dg,dF,dK];apply aY 0 _ rfl
   ·intro W vals hW ag
    clear ag;have hC:=hW.c;refine⟨?_⟩;simp only[fill];go_simp
    first | exact⟨LH.bp (ae.refl _ _),rfl⟩ | exact⟨LH.bp (ae.alloc _ _),rfl⟩
   simp only[af];apply aY 1 _ rfl
   ·intro W vals hW ag
    clear ag;have hC:=hW.c;refine⟨?_⟩;simp only[fill];go_simp
    first | exact⟨LH.bp (ae.refl _ _),rfl⟩ | exact⟨LH.bp (ae.alloc _ _),rfl⟩
   simp only[af];apply aY 2 _ rfl
   ·intro W vals hW ag
    clear ag;have hC:=hW.c;refine⟨?_⟩;simp only[fill];go_simp
    first | exact⟨LH.bp (ae.refl _ _),rfl⟩ | exact⟨LH.bp (ae.alloc _ _),rfl⟩
   simp only[af];apply aY 3 _ rfl
   ·intro W vals hW ag
    have hC:=hW.c;simp only[cy]at ag
    try simp only[ai]at ag
    have m:=((HR.o.2.keeps (hC HK.o)).cell 11).trans HX.o.c11;clear ag;refine⟨?_⟩;simp only[fill];go_simp
    first | exact⟨LH.bp (ae.refl _ _),rfl⟩ | exact⟨LH.bp (ae.alloc _ _),rfl⟩
   simp only[af];refine db 4 (λu W' =>aS W' W0.heap.size u (aO p.wt)) rfl (λW vals hW ag φ' hφ=> ?_) ?_
   ·have hC:=hW.c
    simp only[cy]at ag
    try simp only[ai]at ag
    have hz:=(hC HK.o).size;clear ag;refine⟨?_⟩;simp only[fill];go_simp;exact fZ LH hφ ((yq.o W).mono (by rintro e w2 ⟨u,rfl,ho,hk⟩;exact⟨u,rfl,hk,bR ho hz⟩))
   simp only[af];refine db 5 (λv W' =>aS W' W0.heap.size v (l3++aO p.wt)) rfl (λW vals hW ag φ' hφ=> ?_) ?_
   ·have hC:=hW.c
    simp only[cy]at ag
    try simp only[ai]at ag
    obtain⟨Wb,_,b1,hb⟩:=ag (by decide);have ha:=aM FR.o.own (hW.at_ ⟨0, [], [5,9,10,11], [0,1,2,3,4,5], [0,1,2,3,4,5]⟩) (by simp);replace hb:=aM hb (b1.at_ ⟨0, [], [5,9,10,11], [0,1,2,3,4,5], [0,1,2,3,4,5]⟩) (by simp);refine eC rfl (.tmp 53) (.tmp 57) rfl W0.heap.size (.slice A3 l3.length c3) (vals 57) (l3) (aO p.wt) (by kernel_rfl) (by kernel_rfl) ha (aS.bytes hb (by(have:=nA.o p.wt;have:=zE.o.2.1;have:=DV.o;omega))) (by(have:=nA.o p.wt;have:=zE.o.2.1;have:=DV.o;omega)) (by have:=hC HK.o;exact this.size) (λA c w' l e ho hk=> ?_);subst e;exact⟨.off (dU.app ha hk),hφ.o _ _ ho⟩
   simp only[af];apply aY 6 _ rfl
   ·intro W vals hW ag
    clear ag;have hC:=hW.c;refine⟨?_⟩;simp only[fill];go_simp
    first | exact⟨LH.bp (ae.refl _ _),rfl⟩ | exact⟨LH.bp (ae.alloc _ _),rfl⟩
   simp only[af];apply aY 7 _ rfl
   ·intro W vals hW ag
    clear ag;have hC:=hW.c;refine⟨?_⟩;simp only[fill];go_simp
    first | exact⟨LH.bp (ae.refl _ _),rfl⟩ | exact⟨LH.bp (ae.alloc _ _),rfl⟩
   simp only[af];apply aY 8 _ rfl
   ·intro W vals hW ag
    have hC:=hW.c;simp only[cy]at ag
    try simp only[ai]at ag
    have m:=((HR.o.2.keeps (hC HK.o)).cell 12).trans HX.o.c12;clear ag;refine⟨?_⟩;simp only[fill];go_simp
    first | exact⟨LH.bp (ae.refl _ _),rfl⟩ | exact⟨LH.bp (ae.alloc _ _),rfl⟩
   simp only[af];refine db 9 (λu W' =>aS W' W0.heap.size u (aO p.wb)) rfl (λW vals hW ag φ' hφ=> ?_) ?_
   ·have hC:=hW.c
    simp only[cy]at ag
    try simp only[ai]at ag
    have hz:=(hC HK.o).size;clear ag;refine⟨?_⟩;simp only[fill];go_simp;exact fZ LH hφ ((VB.o W).mono (by rintro e w2 ⟨u,rfl,ho,hk⟩;exact⟨u,rfl,hk,bR ho hz⟩))
   simp only[af];refine db 10 (λv W' =>aS W' W0.heap.size v (l3++aO p.wt++aO p.wb)) rfl (λW vals hW ag φ' hφ=> ?_) ?_
   ·have hC:=hW.c
    simp only[cy]at ag
    try simp only[ai]at ag
    obtain⟨UN,UO,_⟩:=ag;obtain⟨Wa,_,a1,ha⟩:=UO (by decide);obtain⟨Wb,_,b1,hb⟩:=UN (by decide);replace ha:=aM ha (a1.at_ ⟨0, [0,1,2,3,4,5], [10,11], [5,9,10], [5,6,7,8,9,10]⟩) (by simp);replace hb:=aM hb (b1.at_ ⟨0, [0,1,2,3,4,5], [10,11], [5,9,10], [5,6,7,8,9,10]⟩) (by simp);refine eC rfl (.tmp 58) (.tmp 62) rfl W0.heap.size (vals 58) (vals 62) (l3++aO p.wt) (aO p.wb) (by kernel_rfl) (by kernel_rfl) ha (aS.bytes hb (by(have:=nA.o p.wt;have:=nA.o p.wb;have:=zE.o.2.2.1;have:=zE.o.2.1;have:=DV.o;(try rw[bI]);omega))) (by(have:=nA.o p.wt;have:=nA.o p.wb;have:=zE.o.2.2.1;have:=zE.o.2.1;have:=DV.o;(try rw[bI]);omega)) (by have:=hC HK.o;exact this.size) (λA c w' l e ho hk=> ?_);subst e;exact⟨.off (dU.app ha hk),hφ.o _ _ ho⟩
   simp only[af];refine lz (λW9 vals hW ag=> ?_);simp only[fE]at ag
   try simp only[ai]at ag
   simp only[fill,Act.put,bo,bn,bh];obtain⟨⟨Wa,_,a1,h8⟩,-⟩:=ag;have h8:=aM h8 (a1.at_ ⟨0, [0,1,2,3,4,5,6,7,8,9,10], [], [10], [10]⟩) (by simp);have HB:=zh (show iF W0 W9 (vals 63) (l3++aO p.wt++aO p.wb)from⟨h8,hW HK.o⟩);clear h8 a1 hW LH
   go_wp2_with fail
   go_meet
   exact zh (by rw[NW];show iF W0 _ _ (l3++(aO p.wt++aO p.wb));rw[<-eK];exact HB.o)
 case rest=>
  have HB:=hcut;obtain⟨L4,FW⟩:∃L,l3++dB p.hw (aO p.wt++aO p.wb)=L:=⟨_,rfl⟩;have Pm:=zh (And.intro FW (show L4.length<=200000 by
   have:=DV.o;have:=nA.o p.wt;have:=nA.o p.wb;have:=zE.o;rw[<-FW,bI]
   cases p.hw <;> simp only[dB,jF,jC,zY,bI,dR] <;> omega))
  rw[FW]at HB;clear hcut FW FR DV iB Nf;have xc:=((HR.o.2.keeps HB.o.k).cell 15).trans HX.o.c15
  go_upto_if 65 with fail
  go_cut [3] (λv wx=>Hid (iF W0 wx v (L4++dB p.hu (aO p.u))))
  case first=>
   cases hfl:p.hu with
   | false=>
    rw[hfl]at xc
    go_wp2_with fail
    go_meet
    exact zh (by rw[hfl];show iF W0 _ _ (L4++ []);rw[dJ];exact HB.o)
   | true=>
    rw[hfl]at xc;clear xc;have xt:=((HR.o.2.keeps HB.o.k).cell 17).trans HX.o.c17
    go_wp2_with fail
    refine(Vy.o _).mono ?_;rintro e w2 ⟨u,rfl,p6,hk2⟩;have wG:=zh (HB.o.ah hk2);have HU:=zh (aS.bytes p6 (by have:=nA.o p.u;have:=zE.o;omega));have hbs:=wG.o.k.size;clear p6 hk2 xt
    go_wp2_with (at_builtin;refine Hid.o ?_)
    refine zh ?_;refine aI _ rfl (.tmp 66) (.tmp 69) rfl W0.heap.size u3 u (L4) (aO p.u) rfl rfl wG.o.own HU.o (by have:=zE.o;have:=nA.o p.u;have:=Pm.o.2;omega) hbs ?_;intro A5 c5 w5 l5 E5 Ei nz iH LW;have D1:=zh (wG.o.app nz iH);have Sl :=E5.o;clear nz iH LW Ei E5 hbs HB wG;simp only[Act.put,bo,bn,bh]
    go_wp2_with fail
    go_meet
    exact zh (by rw[hfl];show iF W0 _ _ (L4++aO p.u);rw[<-Sl];exact D1.o)
  case rest=>
   have HB:=hcut;obtain⟨L5,OD⟩:∃L,L4++dB p.hu (aO p.u)=L:=⟨_,rfl⟩;have TX:=zh (And.intro OD (show L5.length<=300000 by
    have:=Pm.o.2;have:=nA.o p.u;have:=zE.o;rw[<-OD,bI]
    cases p.hu <;> simp only[dB,jF,jC,zY,dR] <;> omega))
   rw[OD]at HB;clear hcut OD
   try clear xc
   have xc:=((HR.o.2.keeps HB.o.k).cell 16).trans HX.o.c16
   go_upto_if 72 with fail
   go_cut [3] (λv wx=>Hid (iF W0 wx v (L5++dB p.hp (aO p.pw))))
   case first=>
    cases hfl:p.hp with
    | false=>
     rw[hfl]at xc
     go_wp2_with fail
     go_meet
     exact zh (by rw[hfl];show iF W0 _ _ (L5++ []);rw[dJ];exact HB.o)
    | true=>
     rw[hfl]at xc;clear xc;have xt:=((HR.o.2.keeps HB.o.k).cell 18).trans HX.o.c18
     go_wp2_with fail
     refine(Vz.o _).mono ?_;rintro e w2 ⟨u,rfl,p6,hk2⟩;have wG:=zh (HB.o.ah hk2);have HU:=zh (aS.bytes p6 (by have:=nA.o p.pw;have:=zE.o;omega));have hbs:=wG.o.k.size;clear p6 hk2 xt
     go_wp2_with (at_builtin;refine Hid.o ?_)
     refine zh ?_;refine aI _ rfl (.tmp 73) (.tmp 76) rfl W0.heap.size u3 u (L5) (aO p.pw) rfl rfl wG.o.own HU.o (by have:=zE.o;have:=nA.o p.pw;have:=TX.o.2;omega) hbs ?_;intro A5 c5 w5 l5 E5 Ei nz iH LW;have D1:=zh (wG.o.app nz iH);have Sl :=E5.o;clear nz iH LW Ei E5 hbs HB wG;simp only[Act.put,bo,bn,bh]
     go_wp2_with fail
     go_meet
     exact zh (by rw[hfl];show iF W0 _ _ (L5++aO p.pw);rw[<-Sl];exact D1.o)
   case rest=>
    have HB:=hcut;clear hcut
    go_wp2_with fail
    go_ret;have h:aS wc w.heap.size u3 (L5++dB p.hp (aO p.pw)):=bR HB.o.own HR.o.1.size;rw[<-TX.o.1,<-Pm.o.1,E3.o,<-HL.o.1]at h;refine⟨u3,rfl, ?_,HR.o.1.ah HB.o.k⟩;rw[HM.o,show aX 4= [4]from rfl,HY.o];have e:aO [77,81,84,84]++ [4,y]++bA p.keep++aO p.c++dB p.hw (aO p.wt++aO p.wb)++dB p.hu (aO p.u)++dB p.hp (aO p.pw)=aO [77,81,84,84]++([4]++([y]++(bA p.keep++(aO p.c++(dB p.hw (aO p.wt++aO p.wb)++(dB p.hu (aO p.u)++dB p.hp (aO p.pw))))))):=by simp only[eK,jS,jD]
    rw[<-e];exact h
end Go.Proofs.YtahbikfbjenfpaaGreatDoor
