/- The reference of packets: body, of a connect. -/
import Derived.Test.YtahbikfbjenfpaaGreatDoorPa47
import Derived.Test.YtahbikfbjenfpaaGreatDoorPa50

namespace Go.Proofs.YtahbikfbjenfpaaGreatDoor
open Go.RowKit Go.Shelf

theorem own_conn (W:World)(y:UInt8):Owned (W.alloc (.cells #[.int .u8 4,.int .u8 (y.toNat:Nat)] 5)) W.heap.size (.slice (some ⟨W.heap.size,0,none⟩) 2 2) [4,y]:=
 ⟨rfl,.inr ⟨W.heap.size,2, #[.int .u8 4,.int .u8 (y.toNat:Nat)],rfl,Nat.le_refl _,Row.new _ _ _,Nat.le_refl _,by simp[maxLen],rfl,by simp[byteV]⟩⟩
set_option maxRecDepth 100000 in
set_option maxHeartbeats 4000000 in
theorem body1_walk (p:Pk)(X:Array Value)(sw sc sf:Value)(w:World)(hX:PkAt p X sw sc sf)(h1:p.k=1)(hq:0≤p.wq∧p.wq≤2)(hkp:0≤p.keep∧p.keep≤65535)
  (hc:p.c.length≤60000) (hwt:p.wt.length≤60000) (hwb:p.wb.length≤60000) (hu:p.u.length≤60000) (hpw:p.pw.length≤60000):
  Calls Tryz.prog 35 #[.agg X] w fun e w' =>∃v,e= .returned v∧Owned w' w.heap.size v (pkBody p)∧Keeps w w' []:=by
 have HM:Hid (pkBody p=pkTx [77,81,84,84]++(pkOne 4++(pkOne (pkConn p)++(pkTwo p.keep++(pkTx p.c++(pkIf p.hw (pkTx p.wt++pkTx p.wb)++(pkIf p.hu (pkTx p.u)++pkIf p.hp (pkTx p.pw)))))))):=zh (by unfold pkBody;rw[if_pos h1]);have HX:=zh hX;have HTM:=zh (fun w=>rfText_any w [77,81,84,84] (by decide));have HTC:=zh (fun w=>rfText_any w p.c (by omega));have HTT:=zh (fun w=>rfText_any w p.wt (by omega));have HTB:=zh (fun w=>rfText_any w p.wb (by omega));have HTU:=zh (fun w=>rfText_any w p.u (by omega));have HTP:=zh (fun w=>rfText_any w p.pw (by omega));have HTW:=zh (fun w=>rfTwo_any w p.keep hkp.1 hkp.2);have HLT:=zh (show∀s:List UInt8,(pkTx s).length=2+s.length from fun s=>by simp[pkTx,toBE_length]);have HLW:=zh (show(pkTwo p.keep).length=2 by simp[pkTwo,toBE_length]);have HSZ:=zh (And.intro hc (And.intro hwt (And.intro hwb (And.intro hu hpw))));obtain⟨n1,e1,b1⟩:∃n,pkB p.hu 128=n∧n≤128:=⟨_,rfl,pkB_le _ _⟩;obtain⟨n2,e2,b2⟩:∃n,pkB p.hp 64=n∧n≤64:=⟨_,rfl,pkB_le _ _⟩;obtain⟨n3,e3,b3⟩:∃n,pkB p.wr 32=n∧n≤32:=⟨_,rfl,pkB_le _ _⟩;obtain⟨n4,e4,b4⟩:∃n,pkB p.hw 4=n∧n≤4:=⟨_,rfl,pkB_le _ _⟩;obtain⟨n5,e5,b5⟩:∃n,pkB p.cl 2=n∧n≤2:=⟨_,rfl,pkB_le _ _⟩;obtain⟨q,eq⟩:∃q:Nat,p.wq=(q:Int):=⟨p.wq.toNat,by omega⟩;have hcn:pkConn p=n1+n2+n3+n4+n5+8*q:=by unfold pkConn;rw[e1,e2,e3,e4,e5,eq,Int.toNat_natCast]
 have HO128:=zh (show∀W,Calls Tryz.prog 34 #[.bool p.hu,.int .i64 128] W fun e w' =>e= .returned (.int .i64 (n1:Nat))∧Keeps W w' []from fun W=>e1▸rfOne_any W p.hu 128);have HO64:=zh (show∀W,Calls Tryz.prog 34 #[.bool p.hp,.int .i64 64] W fun e w' =>e= .returned (.int .i64 (n2:Nat))∧Keeps W w' []from fun W=>e2▸rfOne_any W p.hp 64);have HO32:=zh (show∀W,Calls Tryz.prog 34 #[.bool p.wr,.int .i64 32] W fun e w' =>e= .returned (.int .i64 (n3:Nat))∧Keeps W w' []from fun W=>e3▸rfOne_any W p.wr 32);have HO4:=zh (show∀W,Calls Tryz.prog 34 #[.bool p.hw,.int .i64 4] W fun e w' =>e= .returned (.int .i64 (n4:Nat))∧Keeps W w' []from fun W=>e4▸rfOne_any W p.hw 4);have HO2:=zh (show∀W,Calls Tryz.prog 34 #[.bool p.cl,.int .i64 2] W fun e w' =>e= .returned (.int .i64 (n5:Nat))∧Keeps W w' []from fun W=>e5▸rfOne_any W p.cl 2);obtain⟨y,hy⟩:∃y:UInt8,y.toNat=pkConn p:=⟨UInt8.ofNat (pkConn p),by rw[hcn];simp;omega⟩;have HY:=zh (show pkOne (pkConn p)= [y]by rw[←hy];simp[pkOne,toBE]);rw[hcn]at hy;have s1:IntKind.i64.wrap ((n1:Int)+(n2:Int))=((n1+n2:Nat):Int):=by rw[IntWalk.i64_in _ ⟨by omega,by omega⟩];omega
 have s2:IntKind.i64.wrap (((n1+n2:Nat):Int)+(n3:Int))=((n1+n2+n3:Nat):Int):=by rw[IntWalk.i64_in _ ⟨by omega,by omega⟩];omega
 have s3:IntKind.i64.wrap (8*(q:Int))=((8*q:Nat):Int):=by rw[IntWalk.i64_in _ ⟨by omega,by omega⟩];omega
 have s4:IntKind.i64.wrap (((n1+n2+n3:Nat):Int)+((8*q:Nat):Int))=((n1+n2+n3+8*q:Nat):Int):=by rw[IntWalk.i64_in _ ⟨by omega,by omega⟩];omega
 have s5:IntKind.i64.wrap (((n1+n2+n3+8*q:Nat):Int)+(n4:Int))=((n1+n2+n3+8*q+n4:Nat):Int):=by rw[IntWalk.i64_in _ ⟨by omega,by omega⟩];omega
 have s6:IntKind.i64.wrap (((n1+n2+n3+8*q+n4:Nat):Int)+(n5:Int))=(y.toNat:Nat):=by rw[IntWalk.i64_in _ ⟨by omega,by omega⟩,hy];omega
 have s7:IntKind.u8.wrap ((y.toNat:Nat):Int)=(y.toNat:Nat):=IntWalk.u8_in _ ⟨by omega,by have:=y.toNat_lt;omega⟩;have HS:=zh (And.intro s1 (And.intro s2 (And.intro s3 (And.intro s4 (And.intro s5 (And.intro s6 s7))))));have c13:=HX.out.c13;rw[eq]at c13;have HC13:=zh c13;obtain⟨W0,hW0⟩:∃W0,w.alloc (.cells X 29)=W0:=⟨_,rfl⟩;have HR:=zh (show Keeps w W0 []∧Row W0 w.heap.size 29 X from by
  rw[←hW0];exact⟨Keeps.alloc _ _,Row.new _ _ _⟩)
 have c0:=hX.c0;rw[h1]at c0;have x0:=(HR.out.2.cell 0).trans c0;clear hX h1 hq hkp hc hwt hwb hu hpw c0 e1 e2 e3 e4 e5 b1 b2 b3 b4 b5 eq hcn hy s1 s2 s3 s4 s5 s6 s7 c13
 go_enter Tryz.func35,Tryz.ntmps35
 go_upto_region 1 with fail
 try rw[hW0]
 clear hW0
 go_upto_region 4 with fail
 clear x0;refine wp_region_keeps _ (by kernel_rfl) rfl (by kernel_rfl) ?_;refine lq (.pointer (some ⟨w.heap.size,15,none⟩)) ?_;refine ll 4 (.tmp 12) (⟨w.heap.size,15,none⟩) (.bool p.hu) (fun W hW=>((HR.out.2.keeps hW).cell 15).trans HX.out.c15) ?_;refine loose_qc 34 (#[.bool p.hu,.int .i64 128]) (.int .i64 (n1:Nat)) (fun _=>by kernel_rfl) (fun _ _=>by kernel_rfl) (fun W hW=>by have hh:=HO128.out W;exact hh) ?_;refine lq (.pointer (some ⟨w.heap.size,16,none⟩)) ?_;refine ll 4 (.tmp 15) (⟨w.heap.size,16,none⟩) (.bool p.hp) (fun W hW=>((HR.out.2.keeps hW).cell 16).trans HX.out.c16) ?_;refine loose_qc 34 (#[.bool p.hp,.int .i64 64]) (.int .i64 (n2:Nat)) (fun _=>by kernel_rfl) (fun _ _=>by kernel_rfl) (fun W hW=>by have hh:=HO64.out W;exact hh) ?_;refine loose_q (.int .i64 ((n1+n2:Nat):Int)) (fun _=>by kernel_rfl) (fun W _=>(show _=Result.ok (Next.value (.int .i64 (IntKind.i64.wrap ((n1:Int)+(n2:Int))))) W by kernel_rfl).trans (by rw[HS.out.1])) ?_;refine lq (.pointer (some ⟨w.heap.size,11,none⟩)) ?_;refine lq (.pointer (some ⟨w.heap.size,14,none⟩)) ?_;refine ll 4 (.tmp 20) (⟨w.heap.size,14,none⟩) (.bool p.wr) (fun W hW=>((HR.out.2.keeps hW).cell 14).trans HX.out.c14) ?_;refine loose_qc 34 (#[.bool p.wr,.int .i64 32]) (.int .i64 (n3:Nat)) (fun _=>by kernel_rfl) (fun _ _=>by kernel_rfl) (fun W hW=>by have hh:=HO32.out W;exact hh) ?_;refine loose_q (.int .i64 ((n1+n2+n3:Nat):Int)) (fun _=>by kernel_rfl) (fun W _=>(show _=Result.ok (Next.value (.int .i64 (IntKind.i64.wrap (((n1+n2:Nat):Int)+(n3:Int))))) W by kernel_rfl).trans (by rw[HS.out.2.1])) ?_;refine lq (.pointer (some ⟨w.heap.size,11,none⟩)) ?_;refine lq (.pointer (some ⟨w.heap.size,13,none⟩)) ?_;refine ll 3 (.tmp 25) (⟨w.heap.size,13,none⟩) (.int .i64 (q:Int)) (fun W hW=>((HR.out.2.keeps hW).cell 13).trans HC13.out) ?_;refine loose_q (.int .i64 ((8*q:Nat):Int)) (fun _=>by kernel_rfl) (fun W _=>(show _=Result.ok (Next.value (.int .i64 (IntKind.i64.wrap (8*(q:Int))))) W by kernel_rfl).trans (by rw[HS.out.2.2.1])) ?_;refine loose_q (.int .i64 ((n1+n2+n3+8*q:Nat):Int)) (fun _=>by kernel_rfl) (fun W _=>(show _=Result.ok (Next.value (.int .i64 (IntKind.i64.wrap (((n1+n2+n3:Nat):Int)+((8*q:Nat):Int))))) W by kernel_rfl).trans (by rw[HS.out.2.2.2.1])) ?_;refine lq (.pointer (some ⟨w.heap.size,10,none⟩)) ?_;refine ll 4 (.tmp 29) (⟨w.heap.size,10,none⟩) (.bool p.hw) (fun W hW=>((HR.out.2.keeps hW).cell 10).trans HX.out.c10) ?_;refine loose_qc 34 (#[.bool p.hw,.int .i64 4]) (.int .i64 (n4:Nat)) (fun _=>by kernel_rfl) (fun _ _=>by kernel_rfl) (fun W hW=>by have hh:=HO4.out W;exact hh) ?_;refine loose_q (.int .i64 ((n1+n2+n3+8*q+n4:Nat):Int)) (fun _=>by kernel_rfl) (fun W _=>(show _=Result.ok (Next.value (.int .i64 (IntKind.i64.wrap (((n1+n2+n3+8*q:Nat):Int)+(n4:Int))))) W by kernel_rfl).trans (by rw[HS.out.2.2.2.2.1])) ?_;refine lq (.pointer (some ⟨w.heap.size,8,none⟩)) ?_;refine ll 4 (.tmp 33) (⟨w.heap.size,8,none⟩) (.bool p.cl) (fun W hW=>((HR.out.2.keeps hW).cell 8).trans HX.out.c8) ?_;refine loose_qc 34 (#[.bool p.cl,.int .i64 2]) (.int .i64 (n5:Nat)) (fun _=>by kernel_rfl) (fun _ _=>by kernel_rfl) (fun W hW=>by have hh:=HO2.out W;exact hh) ?_
 refine loose_q (.int .i64 (y.toNat:Nat)) (fun _=>by kernel_rfl) (fun W _=>(show _=Result.ok (Next.value (.int .i64 (IntKind.i64.wrap (((n1+n2+n3+8*q+n4:Nat):Int)+(n5:Int))))) W by kernel_rfl).trans (by rw[HS.out.2.2.2.2.2.1])) ?_;refine lq (.int .i64 (y.toNat:Nat)) ?_;refine loose_nil (fun W vals hW hkn=> ?_);simp only[addEnt,knowsAll]at hkn
 try simp only[and_true]at hkn
 simp only[addEnt,fill,Act.put,zsa,zsc,zsz];clear hkn;have HK:=zh hW;clear hW
 go_upto_region 5 with fail
 have I1:Hid (([]:List Nat)= []):=zh rfl;have LH:LightV [⟨0, [], [4,7,8,9], [0,1,2,3,4], [0,1,2,3,4]⟩,⟨0, [0,1,2,3,4], [8,9], [4,7,8], [4,5,6,7,8]⟩,⟨0, [0,1,2,3,4,5,6,7,8], [], [8], [8]⟩] (KeepsOld W0) (fun _=>KeepsAll):= .all (by first | exact KeepsOld.ok _ | exact RbC.ok _) keepsAll_ok;refine wp_region_ivs [⟨0, [], [4,7,8,9], [0,1,2,3,4], [0,1,2,3,4]⟩,⟨0, [0,1,2,3,4], [8,9], [4,7,8], [4,5,6,7,8]⟩,⟨0, [0,1,2,3,4,5,6,7,8], [], [8], [8]⟩] (KeepsOld W0) (fun _=>KeepsAll) _ 9 LH (by kernel_rfl) rfl (by kernel_rfl) ?_;simp only[zts,ztz,zds,zdz];refine loosev_has 0 (fun u W' =>Owned W' W0.heap.size u (pkTx [77,81,84,84])) rfl (fun W vals hW hkn φ' hφ=> ?_) ?_
 ·have hC:=hW.c
  simp only[knowsV]at hkn
  try simp only[and_true]at hkn
  have hz:=(hC HK.out).size;clear hkn;refine⟨?_⟩;simp only[fill];go_simp;exact loosev_calls_has LH hφ ((HTM.out W).mono (by rintro e w2 ⟨u,rfl,ho,hk⟩;exact⟨u,rfl,hk,own_base ho hz⟩))
 simp only[addEnt];apply loosev_is 1 _ rfl
 ·intro W vals hW hkn
  clear hkn;have hC:=hW.c;refine⟨?_⟩;simp only[fill];go_simp
  first | exact⟨LH.stp (Keeps.refl _ _),rfl⟩ | exact⟨LH.stp (Keeps.alloc _ _),rfl⟩
 simp only[addEnt];apply loosev_is 2 _ rfl
 ·intro W vals hW hkn
  have hC:=hW.c;simp only[knowsV]at hkn
  try simp only[and_true]at hkn
  have m:=HS.out.2.2.2.2.2.2;clear hkn;refine⟨?_⟩;simp only[fill];go_simp
  first | exact⟨LH.stp (Keeps.refl _ _),rfl⟩ | exact⟨LH.stp (Keeps.alloc _ _),rfl⟩
 simp only[addEnt];refine loosev_has 3 (fun u W' =>Owned W' W0.heap.size u [4,y]) rfl (fun W vals hW hkn φ' hφ=> ?_) ?_
 ·have hC:=hW.c
  simp only[knowsV]at hkn
  try simp only[and_true]at hkn
  have hz:=(hC HK.out).size;clear hkn;refine⟨?_⟩;simp only[fill];go_simp;exact⟨LH.stp (Keeps.alloc _ _),hφ.out _ _ (own_base (own_conn W y) hz)⟩
 simp only[addEnt];refine loosev_has 4 (fun v W' =>Owned W' W0.heap.size v (pkTx [77,81,84,84]++ [4,y])) rfl (fun W vals hW hkn φ' hφ=> ?_) ?_
 ·have hC:=hW.c
  simp only[knowsV]at hkn
  try simp only[and_true]at hkn
  obtain⟨h40,h37⟩:=hkn;obtain⟨Wa,_,a1,ha⟩:=h37 (by decide);obtain⟨Wb,_,b1,hb⟩:=h40 (by decide);replace ha:=own_keep ha (a1.at_ ⟨0, [], [4,7,8,9], [0,1,2,3,4], [0,1,2,3,4]⟩) (by simp);replace hb:=own_keep hb (b1.at_ ⟨0, [], [4,7,8,9], [0,1,2,3,4], [0,1,2,3,4]⟩) (by simp);refine opOk_append_bytes rfl (.tmp 37) (.tmp 40) rfl W0.heap.size (vals 37) (vals 40) (pkTx [77,81,84,84]) ([4,y]) (by kernel_rfl) (by kernel_rfl) ha (Owned.bytes hb (by(have:=HLT.out [77,81,84,84];simp at this ⊢;try omega))) (by(have:=HLT.out [77,81,84,84];simp at this ⊢;try omega)) (by have:=hC HK.out;exact this.size) (fun A c w' l e ho hk=> ?_);subst e;exact⟨.off (KeepsOld.app ha hk),hφ.out _ _ ho⟩
 simp only[addEnt];apply loosev_is 5 _ rfl
 ·intro W vals hW hkn
  clear hkn;have hC:=hW.c;refine⟨?_⟩;simp only[fill];go_simp
  first | exact⟨LH.stp (Keeps.refl _ _),rfl⟩ | exact⟨LH.stp (Keeps.alloc _ _),rfl⟩
 simp only[addEnt];apply loosev_is 6 _ rfl
 ·intro W vals hW hkn
  have hC:=hW.c;simp only[knowsV]at hkn
  try simp only[and_true]at hkn
  have m:=((HR.out.2.keeps (hC HK.out)).cell 9).trans HX.out.c9;clear hkn;refine⟨?_⟩;simp only[fill];go_simp
  first | exact⟨LH.stp (Keeps.refl _ _),rfl⟩ | exact⟨LH.stp (Keeps.alloc _ _),rfl⟩
 simp only[addEnt];refine loosev_has 7 (fun u W' =>Owned W' W0.heap.size u (pkTwo p.keep)) rfl (fun W vals hW hkn φ' hφ=> ?_) ?_
 ·have hC:=hW.c
  simp only[knowsV]at hkn
  try simp only[and_true]at hkn
  have hz:=(hC HK.out).size;clear hkn;refine⟨?_⟩;simp only[fill];go_simp;exact loosev_calls_has LH hφ ((HTW.out W).mono (by rintro e w2 ⟨u,rfl,ho,hk⟩;exact⟨u,rfl,hk,own_base ho hz⟩))
 simp only[addEnt];refine loosev_has 8 (fun v W' =>Owned W' W0.heap.size v (pkTx [77,81,84,84]++ [4,y]++pkTwo p.keep)) rfl (fun W vals hW hkn φ' hφ=> ?_) ?_
 ·have hC:=hW.c
  simp only[knowsV]at hkn
  try simp only[and_true]at hkn
  obtain⟨h44,h41,_⟩:=hkn;obtain⟨Wa,_,a1,ha⟩:=h41 (by decide);obtain⟨Wb,_,b1,hb⟩:=h44 (by decide);replace ha:=own_keep ha (a1.at_ ⟨0, [0,1,2,3,4], [8,9], [4,7,8], [4,5,6,7,8]⟩) (by simp);replace hb:=own_keep hb (b1.at_ ⟨0, [0,1,2,3,4], [8,9], [4,7,8], [4,5,6,7,8]⟩) (by simp);refine opOk_append_bytes rfl (.tmp 41) (.tmp 44) rfl W0.heap.size (vals 41) (vals 44) (pkTx [77,81,84,84]++ [4,y]) (pkTwo p.keep) (by kernel_rfl) (by kernel_rfl) ha (Owned.bytes hb (by(have:=HLW.out;have:=HLT.out [77,81,84,84];simp at this ⊢;omega))) (by(have:=HLW.out;have:=HLT.out [77,81,84,84];simp at this ⊢;omega)) (by have:=hC HK.out;exact this.size) (fun A c w' l e ho hk=> ?_);subst e;exact⟨.off (KeepsOld.app ha hk),hφ.out _ _ ho⟩
 simp only[addEnt];refine loosev_nil (fun W9 vals hW hkn=> ?_);simp only[knowsAllV]at hkn
 try simp only[and_true]at hkn
 simp only[fill,Act.put,zsa,zsc,zsz];obtain⟨⟨Wa,_,a1,h8⟩,-⟩:=hkn;have h8:=own_keep h8 (a1.at_ ⟨0, [0,1,2,3,4,5,6,7,8], [], [8], [8]⟩) (by simp);have HB:=zh (show RbAt W0 W9 (vals 45) (pkTx [77,81,84,84]++ [4,y]++pkTwo p.keep)from⟨h8,hW HK.out⟩);obtain⟨L,hL⟩:∃L,pkTx [77,81,84,84]++ [4,y]++pkTwo p.keep=L:=⟨_,rfl⟩;have HL:=zh (And.intro hL (show L.length=10 by rw[←hL,List.length_append,List.length_append,HLT.out,HLW.out];rfl));rw[hL]at HB;obtain⟨v,hv⟩:∃v,vals 45=v:=⟨_,rfl⟩;rw[hv]at HB ⊢
 clear h8 a1 hW hL hv LH I1 HTM HTW HS HO128 HO64 HO32 HO4 HO2 HC13 HK;have x7:=((HR.out.2.keeps HB.out.k).cell 7).trans HX.out.c7
 go_wp2_with fail
 refine(HTC.out _).mono ?_;rintro e w2 ⟨u,rfl,ho2,hk2⟩;have HB2:=zh (HB.out.then_ hk2);have HU:=zh (Owned.bytes ho2 (by have:=HLT.out p.c;have:=HSZ.out.1;omega));have hbs:=HB2.out.k.size;clear ho2 hk2 x7 HB
 go_wp2_with (at_builtin;refine wpList_append_bytes _ rfl (.tmp 46) (.tmp 49) rfl W0.heap.size v u L (pkTx p.c) rfl rfl HB2.out.own HU.out (by have:=HSZ.out.1;have:=HL.out.2;rw[HLT.out];omega) hbs ?_;intro A3 c3 w3 l3 E3 hl3 ho3 hk3 hb3;refine Hid.out ?_)
 refine zh ?_;have HB3:=zh (HB2.out.app ho3 hk3);have x10:=((HR.out.2.keeps HB3.out.k).cell 10).trans HX.out.c10;have HL3:=zh (show l3.length≤60012 by have:=HSZ.out.1;have:=HL.out.2;have:=HLT.out p.c;omega);clear ho3 hk3 hb3 hbs hl3 HB2 HU HTC
 go_upto_if 52 with fail
 obtain⟨W3,hW3⟩:∃W3,W3=w3:=⟨_,rfl⟩;rw[←hW3]at HB3
 go_cut [3] (fun v wx=>Hid (RbAt W0 wx v (l3++pkIf p.hw (pkTx p.wt++pkTx p.wb))))
 case first=>
  subst hW3;have HK:=zh HB3.out.k
  cases hwl:p.hw with
  | false=>
   rw[hwl]at x10
   go_wp2_with fail
   go_meet
   exact zh (by rw[hwl];show RbAt W0 _ _ (l3++ []);rw[List.append_nil];exact HB3.out)
  | true=>
   rw[hwl]at x10
   go_upto_region 8 with fail
   have LH:LightV [⟨0, [], [5,9,10,11], [0,1,2,3,4,5], [0,1,2,3,4,5]⟩,⟨0, [0,1,2,3,4,5], [10,11], [5,9,10], [5,6,7,8,9,10]⟩,⟨0, [0,1,2,3,4,5,6,7,8,9,10], [], [10], [10]⟩] (KeepsOld W0) (fun _=>KeepsAll):= .all (by first | exact KeepsOld.ok _ | exact RbC.ok _) keepsAll_ok;refine wp_region_ivs [⟨0, [], [5,9,10,11], [0,1,2,3,4,5], [0,1,2,3,4,5]⟩,⟨0, [0,1,2,3,4,5], [10,11], [5,9,10], [5,6,7,8,9,10]⟩,⟨0, [0,1,2,3,4,5,6,7,8,9,10], [], [10], [10]⟩] (KeepsOld W0) (fun _=>KeepsAll) _ 11 LH (by kernel_rfl) rfl (by kernel_rfl) ?_;simp only[zts,ztz,zds,zdz];apply loosev_is 0 _ rfl
   ·intro W vals hW hkn
    clear hkn;have hC:=hW.c;refine⟨?_⟩;simp only[fill];go_simp
    first | exact⟨LH.stp (Keeps.refl _ _),rfl⟩ | exact⟨LH.stp (Keeps.alloc _ _),rfl⟩
   simp only[addEnt];apply loosev_is 1 _ rfl
   ·intro W vals hW hkn
    clear hkn;have hC:=hW.c;refine⟨?_⟩;simp only[fill];go_simp
    first | exact⟨LH.stp (Keeps.refl _ _),rfl⟩ | exact⟨LH.stp (Keeps.alloc _ _),rfl⟩
   simp only[addEnt];apply loosev_is 2 _ rfl
   ·intro W vals hW hkn
    clear hkn;have hC:=hW.c;refine⟨?_⟩;simp only[fill];go_simp
    first | exact⟨LH.stp (Keeps.refl _ _),rfl⟩ | exact⟨LH.stp (Keeps.alloc _ _),rfl⟩
   simp only[addEnt];apply loosev_is 3 _ rfl
   ·intro W vals hW hkn
    have hC:=hW.c;simp only[knowsV]at hkn
    try simp only[and_true]at hkn
    have m:=((HR.out.2.keeps (hC HK.out)).cell 11).trans HX.out.c11;clear hkn;refine⟨?_⟩;simp only[fill];go_simp
    first | exact⟨LH.stp (Keeps.refl _ _),rfl⟩ | exact⟨LH.stp (Keeps.alloc _ _),rfl⟩
   simp only[addEnt];refine loosev_has 4 (fun u W' =>Owned W' W0.heap.size u (pkTx p.wt)) rfl (fun W vals hW hkn φ' hφ=> ?_) ?_
   ·have hC:=hW.c
    simp only[knowsV]at hkn
    try simp only[and_true]at hkn
    have hz:=(hC HK.out).size;clear hkn;refine⟨?_⟩;simp only[fill];go_simp;exact loosev_calls_has LH hφ ((HTT.out W).mono (by rintro e w2 ⟨u,rfl,ho,hk⟩;exact⟨u,rfl,hk,own_base ho hz⟩))
   simp only[addEnt];refine loosev_has 5 (fun v W' =>Owned W' W0.heap.size v (l3++pkTx p.wt)) rfl (fun W vals hW hkn φ' hφ=> ?_) ?_
   ·have hC:=hW.c
    simp only[knowsV]at hkn
    try simp only[and_true]at hkn
    obtain⟨Wb,_,b1,hb⟩:=hkn (by decide);have ha:=own_keep HB3.out.own (hW.at_ ⟨0, [], [5,9,10,11], [0,1,2,3,4,5], [0,1,2,3,4,5]⟩) (by simp);replace hb:=own_keep hb (b1.at_ ⟨0, [], [5,9,10,11], [0,1,2,3,4,5], [0,1,2,3,4,5]⟩) (by simp);refine opOk_append_bytes rfl (.tmp 53) (.tmp 57) rfl W0.heap.size (.slice A3 l3.length c3) (vals 57) (l3) (pkTx p.wt) (by kernel_rfl) (by kernel_rfl) ha (Owned.bytes hb (by(have:=HLT.out p.wt;have:=HSZ.out.2.1;have:=HL3.out;omega))) (by(have:=HLT.out p.wt;have:=HSZ.out.2.1;have:=HL3.out;omega)) (by have:=hC HK.out;exact this.size) (fun A c w' l e ho hk=> ?_);subst e;exact⟨.off (KeepsOld.app ha hk),hφ.out _ _ ho⟩
   simp only[addEnt];apply loosev_is 6 _ rfl
   ·intro W vals hW hkn
    clear hkn;have hC:=hW.c;refine⟨?_⟩;simp only[fill];go_simp
    first | exact⟨LH.stp (Keeps.refl _ _),rfl⟩ | exact⟨LH.stp (Keeps.alloc _ _),rfl⟩
   simp only[addEnt];apply loosev_is 7 _ rfl
   ·intro W vals hW hkn
    clear hkn;have hC:=hW.c;refine⟨?_⟩;simp only[fill];go_simp
    first | exact⟨LH.stp (Keeps.refl _ _),rfl⟩ | exact⟨LH.stp (Keeps.alloc _ _),rfl⟩
   simp only[addEnt];apply loosev_is 8 _ rfl
   ·intro W vals hW hkn
    have hC:=hW.c;simp only[knowsV]at hkn
    try simp only[and_true]at hkn
    have m:=((HR.out.2.keeps (hC HK.out)).cell 12).trans HX.out.c12;clear hkn;refine⟨?_⟩;simp only[fill];go_simp
    first | exact⟨LH.stp (Keeps.refl _ _),rfl⟩ | exact⟨LH.stp (Keeps.alloc _ _),rfl⟩
   simp only[addEnt];refine loosev_has 9 (fun u W' =>Owned W' W0.heap.size u (pkTx p.wb)) rfl (fun W vals hW hkn φ' hφ=> ?_) ?_
   ·have hC:=hW.c
    simp only[knowsV]at hkn
    try simp only[and_true]at hkn
    have hz:=(hC HK.out).size;clear hkn;refine⟨?_⟩;simp only[fill];go_simp;exact loosev_calls_has LH hφ ((HTB.out W).mono (by rintro e w2 ⟨u,rfl,ho,hk⟩;exact⟨u,rfl,hk,own_base ho hz⟩))
   simp only[addEnt];refine loosev_has 10 (fun v W' =>Owned W' W0.heap.size v (l3++pkTx p.wt++pkTx p.wb)) rfl (fun W vals hW hkn φ' hφ=> ?_) ?_
   ·have hC:=hW.c
    simp only[knowsV]at hkn
    try simp only[and_true]at hkn
    obtain⟨h62,h58,_⟩:=hkn;obtain⟨Wa,_,a1,ha⟩:=h58 (by decide);obtain⟨Wb,_,b1,hb⟩:=h62 (by decide);replace ha:=own_keep ha (a1.at_ ⟨0, [0,1,2,3,4,5], [10,11], [5,9,10], [5,6,7,8,9,10]⟩) (by simp);replace hb:=own_keep hb (b1.at_ ⟨0, [0,1,2,3,4,5], [10,11], [5,9,10], [5,6,7,8,9,10]⟩) (by simp);refine opOk_append_bytes rfl (.tmp 58) (.tmp 62) rfl W0.heap.size (vals 58) (vals 62) (l3++pkTx p.wt) (pkTx p.wb) (by kernel_rfl) (by kernel_rfl) ha (Owned.bytes hb (by(have:=HLT.out p.wt;have:=HLT.out p.wb;have:=HSZ.out.2.2.1;have:=HSZ.out.2.1;have:=HL3.out;(try rw[List.length_append]);omega))) (by(have:=HLT.out p.wt;have:=HLT.out p.wb;have:=HSZ.out.2.2.1;have:=HSZ.out.2.1;have:=HL3.out;(try rw[List.length_append]);omega)) (by have:=hC HK.out;exact this.size) (fun A c w' l e ho hk=> ?_);subst e;exact⟨.off (KeepsOld.app ha hk),hφ.out _ _ ho⟩
   simp only[addEnt];refine loosev_nil (fun W9 vals hW hkn=> ?_);simp only[knowsAllV]at hkn
   try simp only[and_true]at hkn
   simp only[fill,Act.put,zsa,zsc,zsz];obtain⟨⟨Wa,_,a1,h8⟩,-⟩:=hkn;have h8:=own_keep h8 (a1.at_ ⟨0, [0,1,2,3,4,5,6,7,8,9,10], [], [10], [10]⟩) (by simp);have HB:=zh (show RbAt W0 W9 (vals 63) (l3++pkTx p.wt++pkTx p.wb)from⟨h8,hW HK.out⟩);clear h8 a1 hW LH
   go_wp2_with fail
   go_meet
   exact zh (by rw[hwl];show RbAt W0 _ _ (l3++(pkTx p.wt++pkTx p.wb));rw[←List.append_assoc];exact HB.out)
 case rest=>
  have HB:=hcut;obtain⟨L4,hL4⟩:∃L,l3++pkIf p.hw (pkTx p.wt++pkTx p.wb)=L:=⟨_,rfl⟩;have HL4:=zh (And.intro hL4 (show L4.length≤200000 by
   have:=HL3.out;have:=HLT.out p.wt;have:=HLT.out p.wb;have:=HSZ.out;rw[←hL4,List.length_append]
   cases p.hw <;> simp only[pkIf,if_true,if_false,Bool.false_eq_true,List.length_append,List.length_nil] <;> omega))
  rw[hL4]at HB;clear hcut hL4 HB3 HL3 x10 hW3;have xc:=((HR.out.2.keeps HB.out.k).cell 15).trans HX.out.c15
  go_upto_if 65 with fail
  go_cut [3] (fun v wx=>Hid (RbAt W0 wx v (L4++pkIf p.hu (pkTx p.u))))
  case first=>
   cases hfl:p.hu with
   | false=>
    rw[hfl]at xc
    go_wp2_with fail
    go_meet
    exact zh (by rw[hfl];show RbAt W0 _ _ (L4++ []);rw[List.append_nil];exact HB.out)
   | true=>
    rw[hfl]at xc;clear xc;have xt:=((HR.out.2.keeps HB.out.k).cell 17).trans HX.out.c17
    go_wp2_with fail
    refine(HTU.out _).mono ?_;rintro e w2 ⟨u,rfl,ho2,hk2⟩;have HB2:=zh (HB.out.then_ hk2);have HU:=zh (Owned.bytes ho2 (by have:=HLT.out p.u;have:=HSZ.out;omega));have hbs:=HB2.out.k.size;clear ho2 hk2 xt
    go_wp2_with (at_builtin;refine Hid.out ?_)
    refine zh ?_;refine wpList_append_bytes _ rfl (.tmp 66) (.tmp 69) rfl W0.heap.size u3 u (L4) (pkTx p.u) rfl rfl HB2.out.own HU.out (by have:=HSZ.out;have:=HLT.out p.u;have:=HL4.out.2;omega) hbs ?_;intro A5 c5 w5 l5 E5 hl5 ho5 hk5 hb5;have HB5:=zh (HB2.out.app ho5 hk5);have E5' :=E5.out;clear ho5 hk5 hb5 hl5 E5 hbs HB HB2;simp only[Act.put,zsa,zsc,zsz]
    go_wp2_with fail
    go_meet
    exact zh (by rw[hfl];show RbAt W0 _ _ (L4++pkTx p.u);rw[←E5'];exact HB5.out)
  case rest=>
   have HB:=hcut;obtain⟨L5,hL5⟩:∃L,L4++pkIf p.hu (pkTx p.u)=L:=⟨_,rfl⟩;have HL5:=zh (And.intro hL5 (show L5.length≤300000 by
    have:=HL4.out.2;have:=HLT.out p.u;have:=HSZ.out;rw[←hL5,List.length_append]
    cases p.hu <;> simp only[pkIf,if_true,if_false,Bool.false_eq_true,List.length_nil] <;> omega))
   rw[hL5]at HB;clear hcut hL5
   try clear xc
   have xc:=((HR.out.2.keeps HB.out.k).cell 16).trans HX.out.c16
   go_upto_if 72 with fail
   go_cut [3] (fun v wx=>Hid (RbAt W0 wx v (L5++pkIf p.hp (pkTx p.pw))))
   case first=>
    cases hfl:p.hp with
    | false=>
     rw[hfl]at xc
     go_wp2_with fail
     go_meet
     exact zh (by rw[hfl];show RbAt W0 _ _ (L5++ []);rw[List.append_nil];exact HB.out)
    | true=>
     rw[hfl]at xc;clear xc;have xt:=((HR.out.2.keeps HB.out.k).cell 18).trans HX.out.c18
     go_wp2_with fail
     refine(HTP.out _).mono ?_;rintro e w2 ⟨u,rfl,ho2,hk2⟩;have HB2:=zh (HB.out.then_ hk2);have HU:=zh (Owned.bytes ho2 (by have:=HLT.out p.pw;have:=HSZ.out;omega));have hbs:=HB2.out.k.size;clear ho2 hk2 xt
     go_wp2_with (at_builtin;refine Hid.out ?_)
     refine zh ?_;refine wpList_append_bytes _ rfl (.tmp 73) (.tmp 76) rfl W0.heap.size u3 u (L5) (pkTx p.pw) rfl rfl HB2.out.own HU.out (by have:=HSZ.out;have:=HLT.out p.pw;have:=HL5.out.2;omega) hbs ?_;intro A5 c5 w5 l5 E5 hl5 ho5 hk5 hb5;have HB5:=zh (HB2.out.app ho5 hk5);have E5' :=E5.out;clear ho5 hk5 hb5 hl5 E5 hbs HB HB2;simp only[Act.put,zsa,zsc,zsz]
     go_wp2_with fail
     go_meet
     exact zh (by rw[hfl];show RbAt W0 _ _ (L5++pkTx p.pw);rw[←E5'];exact HB5.out)
   case rest=>
    have HB:=hcut;clear hcut
    go_wp2_with fail
    go_ret;have h:Owned wc w.heap.size u3 (L5++pkIf p.hp (pkTx p.pw)):=own_base HB.out.own HR.out.1.size;rw[←HL5.out.1,←HL4.out.1,E3.out,←HL.out.1]at h;refine⟨u3,rfl, ?_,HR.out.1.then_ HB.out.k⟩;rw[HM.out,show pkOne 4= [4]from rfl,HY.out];have e:pkTx [77,81,84,84]++ [4,y]++pkTwo p.keep++pkTx p.c++pkIf p.hw (pkTx p.wt++pkTx p.wb)++pkIf p.hu (pkTx p.u)++pkIf p.hp (pkTx p.pw)=pkTx [77,81,84,84]++([4]++([y]++(pkTwo p.keep++(pkTx p.c++(pkIf p.hw (pkTx p.wt++pkTx p.wb)++(pkIf p.hu (pkTx p.u)++pkIf p.hp (pkTx p.pw))))))):=by simp only[List.append_assoc,List.cons_append,List.nil_append]
    rw[←e];exact h
end Go.Proofs.YtahbikfbjenfpaaGreatDoor
