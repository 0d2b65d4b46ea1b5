/- The reference of packets: body, of the kinds that have an ID and no topic. The reference of packets: body and Raw, of a packet that may be. -/
import Derived.Test.YtahbikfbjenfpaaGreatDoorPa47
import Derived.Test.YtahbikfbjenfpaaGreatDoorPa58
import Derived.Test.YtahbikfbjenfpaaGreatDoorPa29
import Derived.Test.YtahbikfbjenfpaaGreatDoorPa50
import Derived.Test.YtahbikfbjenfpaaGreatDoorPa52

namespace Go.Proofs.YtahbikfbjenfpaaGreatDoor
open Go.RowKit Go.Shelf

theorem flat_le {α β:Type}(l:List α)(f:α→List β)(M:Nat)(h:∀x∈l,(f x).length≤M):(l.flatMap f).length≤l.length*M:=by
 induction l with
 | nil=>simp
 | cons a l ih=>
  rw[List.flatMap_cons,List.length_append,List.length_cons,Nat.succ_mul];have h1:=h a (by simp);have h2:=ih (fun x hx=>h x (by simp[hx]));omega
set_option maxRecDepth 100000 in
set_option maxHeartbeats 4000000 in
theorem bodyI_walk (p:Pk)(X:Array Value)(A1 A2 A3:Option Addr)(c1 c2 c3:Nat)(w:World)(hX:PkAt p X (.slice A1 p.wants.length c1) (.slice A2 p.codes.length c2) (.slice A3 p.fs.length c3))(hl:PkL w p (.slice A1 p.wants.length c1) (.slice A2 p.codes.length c2) (.slice A3 p.fs.length c3))(h:p.k=4∨p.k=5∨p.k=6∨p.k=7∨p.k=8∨p.k=9∨p.k=10∨p.k=11)(hi:0≤p.id∧p.id≤65535)(ht:PkTs p)(hcd:∀c∈p.codes,0≤c∧c≤255)(hqq:∀x∈p.wants,0≤x.2∧x.2≤255)(hlw:p.wants.length≤8∧p.codes.length≤8∧p.fs.length≤8):
  Calls Tryz.prog 35 #[.agg X] w fun e w' =>∃v,e= .returned v∧Owned w' w.heap.size v (pkTwo p.id++((p.wants.flatMap fun w=>pkTx w.1++pkOne w.2.toNat)++((p.codes.flatMap fun c=>pkOne c.toNat)++p.fs.flatMap pkTx)))∧Keeps w w' []:=by
 have HX:=zh hX;have HW:=zh (fun w=>rfTwo_any w p.id hi.1 hi.2);have HS:=zh hlw;have HT:=zh ht;have HCD:=zh hcd;have HQ:=zh hqq;have HLW:=zh (show(pkTwo p.id).length=2 by simp[pkTwo,toBE_length]);obtain⟨W0,hW0⟩:∃W0,w.alloc (.cells X 29)=W0:=⟨_,rfl⟩;have HR:=zh (show Keeps w W0 []∧Row W0 w.heap.size 29 X from by
  rw[←hW0];exact⟨Keeps.alloc _ _,Row.new _ _ _⟩)
 have HL:=zh (hl.keeps HR.out.1);have c0:=hX.c0;obtain⟨k,hk⟩:∃k,p.k=k:=⟨_,rfl⟩;rw[hk]at c0 h;have x0:=(HR.out.2.cell 0).trans c0;have x6:=(HR.out.2.cell 6).trans HX.out.c6;clear hX hl hi hlw c0 hk ht hcd hqq
 go_enter Tryz.func35,Tryz.ntmps35
 go_upto_region 1 with fail
 try rw[hW0]
 clear hW0;have hb1:(k==1)=false:=by simp;omega
 have hb2:(k==2)=false:=by simp;omega
 have hb3:(k==3)=false:=by simp;omega
 have hb12:(k==12)=false:=by simp;omega
 have hb13:(k==13)=false:=by simp;omega
 have hb14:(k==14)=false:=by simp;omega
 clear h
 go_wp2_with fail
 clear hb1 hb2 hb3 hb12 hb13 hb14 x0 x6;refine(HW.out _).mono ?_;rintro e w' ⟨v,rfl,ho,hk⟩;have HB:=zh (RbAt.new (Keeps.refl W0 []) ho hk);clear ho hk
 go_wp2_with fail
 go_loopw [3,5] (fun v i wr=>∃j:Nat,j≤p.wants.length∧i= .int .i64 j∧Hid (RbAt W0 wr v (pkTwo p.id++(p.wants.take j).flatMap fun w=>pkTx w.1++pkOne w.2.toNat))) (fun _ i _=>p.wants.length - (intOf i).toNat)
 case atStart=>exact⟨0,by omega,rfl,zh (by simpa using HB.out)⟩
 case round=>
  obtain⟨j,hj,rfl,HRR⟩:=hrel;have x21:=((HR.out.2.keeps HRR.out.k).cell 21).trans HX.out.c21;have hlen:p.wants.length≤8:=HS.out.1
  by_cases hjl:j < p.wants.length
  ·have hjq:(j:Int) < (p.wants.length:Int):=by omega
   obtain⟨b1,o1,cs1,rfl,hr1,hc1⟩:=HL.out.wants (by omega);have HTX:=zh (HT.out.w _ (List.getElem_mem hjl));have HTK:=zh (show(p.wants.take (j+1)).flatMap (fun w=>pkTx w.1++pkOne w.2.toNat)=(p.wants.take j).flatMap (fun w=>pkTx w.1++pkOne w.2.toNat)++(pkTx p.wants[j].1++pkOne p.wants[j].2.toNat)by rw[List.take_succ_eq_append_getElem hjl,List.flatMap_append];simp);have hq0:=HQ.out _ (List.getElem_mem hjl);have HM:=zh (show∀W,Keeps W0 W []→W.cell? ⟨b1,o1+j*2,none⟩=some (.string ⟨p.wants[j].1.toArray⟩)∧W.cell? ⟨b1,o1+j*2+1,none⟩=some (.int .i64 p.wants[j].2)from fun W hW=>⟨((hr1.keeps hW).cell (o1+j*2+0)).trans (hc1 j hjl 0 (by omega)),((hr1.keeps hW).cell (o1+j*2+1)).trans (hc1 j hjl 1 (by omega))⟩);have HM21:=zh (show∀W,Keeps W0 W []→W.cell? ⟨w.heap.size,21,none⟩=some (.slice (some ⟨b1,o1,none⟩) p.wants.length c1)from fun W hW=>((HR.out.2.keeps hW).cell 21).trans HX.out.c21)
   generalize p.wants[j]=wt at*
   obtain⟨s,q⟩:=wt;obtain⟨y,rfl⟩:∃y:UInt8,q=((y.toNat:Nat):Int):=⟨UInt8.ofNat q.toNat,by simp;omega⟩;have hwy:IntKind.u8.wrap ((y.toNat:Nat):Int)=((y.toNat:Nat):Int):=IntWalk.u8_in _ hq0;have HY:=zh (show pkOne (Int.toNat ((y.toNat:Nat):Int))= [y]by simp[pkOne,toBE]);have HTT:=zh (fun w=>rfText_any w s (by have h:s.length≤60000:=HTX.out;omega));have HLT:=zh (show(pkTx s).length≤60002 by have h:s.length≤60000:=HTX.out;simp[pkTx,toBE_length];omega);obtain⟨L,hL⟩:∃L,(pkTwo p.id++(p.wants.take j).flatMap fun w=>pkTx w.1++pkOne w.2.toNat)=L:=⟨_,rfl⟩;rw[hL]at HRR;have HLL:=zh (show 2≤L.length∧L.length≤1000000000 by
    have h1:=flat_le (p.wants.take j) (fun w=>pkTx w.1++pkOne w.2.toNat) 60003 (fun x hx=>by have:=HT.out.w x (List.mem_of_mem_take hx);simp[pkTx,pkOne,toBE_length];omega);have h2:=HS.out.1;rw[List.length_take]at h1;rw[←hL,List.length_append,HLW.out];omega)
   have HEL:=zh hL;clear hc1 hr1 hL hq0
   go_upto_region 29 with fail
   clear x21;have LH:LightV [⟨0, [], [8,17,18], [0,1,2,3,4,5,6,7,8], [0,1,2,3,4,5,6,7,8]⟩,⟨0, [0,1,2,3,4,5,6,7,8], [17,18], [8,17], [0,1,2,3,4,5,6,7,8,9,10,11,12,13,14,15,16,17]⟩,⟨0, [0,1,2,3,4,5,6,7,8,9,10,11,12,13,14,15,16,17], [], [17], []⟩] (RbC W0) (fun _=>KeepsAll):= .all (by first | exact KeepsOld.ok _ | exact RbC.ok _) keepsAll_ok;refine wp_region_ivs [⟨0, [], [8,17,18], [0,1,2,3,4,5,6,7,8], [0,1,2,3,4,5,6,7,8]⟩,⟨0, [0,1,2,3,4,5,6,7,8], [17,18], [8,17], [0,1,2,3,4,5,6,7,8,9,10,11,12,13,14,15,16,17]⟩,⟨0, [0,1,2,3,4,5,6,7,8,9,10,11,12,13,14,15,16,17], [], [17], []⟩] (RbC W0) (fun _=>KeepsAll) _ 18 LH (by kernel_rfl) rfl (by kernel_rfl) ?_;simp only[zts,ztz,zds,zdz];apply loosev_is 0 _ rfl
   ·intro W vals hW hkn
    clear hkn;have hC:=hW.c;refine⟨?_⟩;simp only[fill];go_simp
    first | exact⟨LH.stp (Keeps.refl _ _),rfl⟩ | exact⟨LH.stp (Keeps.alloc _ _),rfl⟩
   simp only[addEnt];apply loosev_is 1 _ rfl
   ·intro W vals hW hkn
    clear hkn;have hC:=hW.c;refine⟨?_⟩;simp only[fill];go_simp
    first | exact⟨LH.stp (Keeps.refl _ _),rfl⟩ | exact⟨LH.stp (Keeps.alloc _ _),rfl⟩
   simp only[addEnt];apply loosev_is 2 _ rfl
   ·intro W vals hW hkn
    have hC:=hW.c;simp only[knowsV]at hkn
    try simp only[and_true]at hkn
    have m:=HM21.out W (hC.old HRR.out.k);clear hkn;refine⟨?_⟩;simp only[fill];go_simp
    first | exact⟨LH.stp (Keeps.refl _ _),rfl⟩ | exact⟨LH.stp (Keeps.alloc _ _),rfl⟩
   simp only[addEnt];apply loosev_is 3 _ rfl
   ·intro W vals hW hkn
    clear hkn;have hC:=hW.c;refine⟨?_⟩;simp only[fill];go_simp
    first | exact⟨LH.stp (Keeps.refl _ _),rfl⟩ | exact⟨LH.stp (Keeps.alloc _ _),rfl⟩
   simp only[addEnt];apply loosev_is 4 _ rfl
   ·intro W vals hW hkn
    clear hkn;have hC:=hW.c;refine⟨?_⟩;simp only[fill];go_simp
    first | exact⟨LH.stp (Keeps.refl _ _),rfl⟩ | exact⟨LH.stp (Keeps.alloc _ _),rfl⟩
   simp only[addEnt];apply loosev_is 5 _ rfl
   ·intro W vals hW hkn
    clear hkn;have hC:=hW.c;refine⟨?_⟩;simp only[fill];go_simp
    first | exact⟨LH.stp (Keeps.refl _ _),rfl⟩ | exact⟨LH.stp (Keeps.alloc _ _),rfl⟩
   simp only[addEnt];apply loosev_is 6 _ rfl
   ·intro W vals hW hkn
    have hC:=hW.c;simp only[knowsV]at hkn
    try simp only[and_true]at hkn
    have m:=(HM.out W (hC.old HRR.out.k)).1;clear hkn;refine⟨?_⟩;simp only[fill];go_simp
    first | exact⟨LH.stp (Keeps.refl _ _),rfl⟩ | exact⟨LH.stp (Keeps.alloc _ _),rfl⟩
   simp only[addEnt];refine loosev_has 7 (fun u W' =>Owned W' W0.heap.size u (pkTx s)) rfl (fun W vals hW hkn φ' hφ=> ?_) ?_
   ·have hC:=hW.c
    simp only[knowsV]at hkn
    try simp only[and_true]at hkn
    have hz:=(hC.old HRR.out.k).size;clear hkn;refine⟨?_⟩;simp only[fill];go_simp;exact loosev_calls_has LH hφ ((HTT.out W).mono (by rintro e w2 ⟨u,rfl,ho,hk⟩;exact⟨u,rfl,hk,own_base ho hz⟩))
   simp only[addEnt];have HK:=zh HRR.out.k;refine loosev_has 8 (fun v W' =>Owned W' W0.heap.size v (L++pkTx s)) rfl (fun W vals hW hkn φ' hφ=> ?_) ?_
   ·have hC:=hW.c
    simp only[knowsV]at hkn
    try simp only[and_true]at hkn
    obtain⟨Wb,_,b1,hb⟩:=hkn (by decide);have ha:=own_keep HRR.out.own (hW.at_ ⟨0, [], [8,17,18], [0,1,2,3,4,5,6,7,8], [0,1,2,3,4,5,6,7,8]⟩) (by simp);replace hb:=own_keep hb (b1.at_ ⟨0, [], [8,17,18], [0,1,2,3,4,5,6,7,8], [0,1,2,3,4,5,6,7,8]⟩) (by simp);refine opOk_append_bytes rfl (.tmp 120) (.tmp 127) rfl W0.heap.size (u3) (vals 127) (L) (pkTx s) (by kernel_rfl) (by kernel_rfl) ha (Owned.bytes hb (by(have:=HLT.out;have:=HLL.out;omega))) (by(have:=HLT.out;have:=HLL.out;omega)) (by have:=hC.old HK.out;exact this.size) (fun A c w' l e ho hk=> ?_);subst e;exact⟨.off (RbC.app ha (by(have:=HLL.out;omega)) hk),hφ.out _ _ ho⟩
   simp only[addEnt];apply loosev_is 9 _ rfl
   ·intro W vals hW hkn
    clear hkn;have hC:=hW.c;refine⟨?_⟩;simp only[fill];go_simp
    first | exact⟨LH.stp (Keeps.refl _ _),rfl⟩ | exact⟨LH.stp (Keeps.alloc _ _),rfl⟩
   simp only[addEnt];apply loosev_is 10 _ rfl
   ·intro W vals hW hkn
    have hC:=hW.c;simp only[knowsV]at hkn
    try simp only[and_true]at hkn
    have m:=HM21.out W (hC.old HRR.out.k);clear hkn;refine⟨?_⟩;simp only[fill];go_simp
    first | exact⟨LH.stp (Keeps.refl _ _),rfl⟩ | exact⟨LH.stp (Keeps.alloc _ _),rfl⟩
   simp only[addEnt];apply loosev_is 11 _ rfl
   ·intro W vals hW hkn
    clear hkn;have hC:=hW.c;refine⟨?_⟩;simp only[fill];go_simp
    first | exact⟨LH.stp (Keeps.refl _ _),rfl⟩ | exact⟨LH.stp (Keeps.alloc _ _),rfl⟩
   simp only[addEnt];apply loosev_is 12 _ rfl
   ·intro W vals hW hkn
    clear hkn;have hC:=hW.c;refine⟨?_⟩;simp only[fill];go_simp
    first | exact⟨LH.stp (Keeps.refl _ _),rfl⟩ | exact⟨LH.stp (Keeps.alloc _ _),rfl⟩
   simp only[addEnt];apply loosev_is 13 _ rfl
   ·intro W vals hW hkn
    clear hkn;have hC:=hW.c;refine⟨?_⟩;simp only[fill];go_simp
    first | exact⟨LH.stp (Keeps.refl _ _),rfl⟩ | exact⟨LH.stp (Keeps.alloc _ _),rfl⟩
   simp only[addEnt];apply loosev_is 14 _ rfl
   ·intro W vals hW hkn
    have hC:=hW.c;simp only[knowsV]at hkn
    try simp only[and_true]at hkn
    have m:=(HM.out W (hC.old HRR.out.k)).2;clear hkn;refine⟨?_⟩;simp only[fill];go_simp
    first | exact⟨LH.stp (Keeps.refl _ _),rfl⟩ | exact⟨LH.stp (Keeps.alloc _ _),rfl⟩
   simp only[addEnt];apply loosev_is 15 _ rfl
   ·intro W vals hW hkn
    clear hkn;have hC:=hW.c;refine⟨?_⟩;simp only[fill];go_simp
    first | exact⟨LH.stp (Keeps.refl _ _),rfl⟩ | exact⟨LH.stp (Keeps.alloc _ _),rfl⟩
   simp only[addEnt];refine loosev_has 16 (fun v W' =>∃b',v= .slice (some ⟨b',0,none⟩) 1 1∧Row W' b' 5 #[.int .u8 (y.toNat:Nat)]∧W0.heap.size≤b') rfl (fun W vals hW hkn φ' hφ=> ?_) ?_
   ·have hC:=hW.c
    simp only[knowsV]at hkn
    try simp only[and_true]at hkn
    have hz:=(hC.old HRR.out.k).size;clear hkn;refine⟨?_⟩;simp only[fill];go_simp;exact⟨LH.stp (Keeps.alloc _ _),hφ.out _ _ ⟨_,rfl,Row.new _ _ _,hz⟩⟩
   simp only[addEnt];refine loosev_has 17 (fun v W' =>Owned W' W0.heap.size v (L++pkTx s++ [y])) rfl (fun W vals hW hkn φ' hφ=> ?_) ?_
   ·have hC:=hW.c
    simp only[knowsV]at hkn
    try simp only[and_true]at hkn
    obtain⟨h136,h128,_⟩:=hkn;obtain⟨Wa,_,a1,ha⟩:=h128 (by decide);obtain⟨Wb,_,b1,b',hv',hr',hz'⟩:=h136 (by decide);replace ha:=own_keep ha (a1.at_ ⟨0, [0,1,2,3,4,5,6,7,8], [17,18], [8,17], [0,1,2,3,4,5,6,7,8,9,10,11,12,13,14,15,16,17]⟩) (by simp);have hb:Owned W W0.heap.size (vals 136) [y]:=by rw[hv'];exact⟨rfl,.inr ⟨b',1,_,rfl,hz',b1.c.one _ _ _ hr',Nat.le_refl _,by simp[maxLen],rfl,by simp[byteV]⟩⟩
    refine opOk_append_bytes rfl (.tmp 128) (.tmp 136) rfl W0.heap.size (vals 128) (vals 136) (L++pkTx s) ([y]) (by kernel_rfl) (by kernel_rfl) ha (Owned.bytes hb (by(have:=HLT.out;have:=HLL.out;have h1:([y]:List UInt8).length=1:=rfl;(try rw[List.length_append]);omega))) (by(have:=HLT.out;have:=HLL.out;have h1:([y]:List UInt8).length=1:=rfl;(try rw[List.length_append]);omega)) (by have:=hC.old HK.out;exact this.size) (fun A c w' l e ho hk=> ?_);subst e;exact⟨.off (RbC.app ha (by(have:=HLL.out;rw[List.length_append];omega)) hk),hφ.out _ _ ho⟩
   simp only[addEnt];refine loosev_nil (fun W9 vals hW hkn=> ?_);simp only[knowsAllV]at hkn
   try simp only[and_true]at hkn
   simp only[fill,Act.put,zsa,zsc,zsz];obtain⟨⟨Wa,_,a1,h8⟩,-⟩:=hkn;have h8:=own_keep h8 (a1.at_ ⟨0, [0,1,2,3,4,5,6,7,8,9,10,11,12,13,14,15,16,17], [], [17], []⟩) (by simp);have HB5:=zh (show RbAt W0 W9 (vals 137) (pkTwo p.id++(p.wants.take (j+1)).flatMap fun w=>pkTx w.1++pkOne w.2.toNat)from⟨by rw[HTK.out,←List.append_assoc,HEL.out,show pkTx (s,((y.toNat:Nat):Int)).1++pkOne (s,((y.toNat:Nat):Int)).2.toNat=pkTx s++ [y]from congrArg _ HY.out,←List.append_assoc];exact h8,hW.old HK.out⟩);obtain⟨v,hv⟩:∃v,vals 137=v:=⟨_,rfl⟩;rw[hv]at HB5 ⊢
   clear h8 a1 hW hv LH hwy
   go_wp2_with fail
   exact⟨⟨j+1,by omega,by go_num,HB5⟩,by simp[intOf];omega⟩
  ·obtain rfl:j=p.wants.length:=by omega
   have HB2:=zh (show RbAt W0 wr _ (pkTwo p.id++p.wants.flatMap fun w=>pkTx w.1++pkOne w.2.toNat)by have:=HRR.out;rwa [List.take_length]at this);clear HRR HB
   go_wp2_with fail
   obtain⟨L2,hL2⟩:∃L,(pkTwo p.id++p.wants.flatMap fun w=>pkTx w.1++pkOne w.2.toNat)=L:=⟨_,rfl⟩;rw[hL2]at HB2;have HLL2:=zh (show L2.length≤1000000000 by
    have h1:=flat_le p.wants (fun w=>pkTx w.1++pkOne w.2.toNat) 60003 (fun x hx=>by have:=HT.out.w x hx;simp[pkTx,pkOne,toBE_length];omega);have h2:=HS.out.1;rw[←hL2,List.length_append,HLW.out];omega)
   have HE2:=zh hL2;clear hL2 hjl hlen x21 hj
   go_loopw [3,6] (fun v i ws=>∃j:Nat,j≤p.codes.length∧i= .int .i64 j∧Hid (RbAt W0 ws v (L2++(p.codes.take j).flatMap fun c=>pkOne c.toNat))) (fun _ i _=>p.codes.length - (intOf i).toNat)
   case atStart=>exact⟨0,by omega,rfl,zh (by simpa using HB2.out)⟩
   case round=>
    obtain⟨j,hj,rfl,HRR⟩:=hrel;have x22:=((HR.out.2.keeps HRR.out.k).cell 22).trans HX.out.c22;have hlen:p.codes.length≤8:=HS.out.2.1
    by_cases hjl:j < p.codes.length
    ·have hjq:(j:Int) < (p.codes.length:Int):=by omega
     obtain⟨b1,o1,cs1,rfl,hr1,hc1⟩:=HL.out.codes (by omega);have hcb:=HCD.out _ (List.getElem_mem hjl);have M1:=((hr1.keeps HRR.out.k).cell (o1+j*1+0)).trans (hc1 j hjl 0 (by omega));simp only[intC,zgz,Nat.mul_one,Nat.add_zero]at M1;have HTK:=zh (show(p.codes.take (j+1)).flatMap (fun c=>pkOne c.toNat)=(p.codes.take j).flatMap (fun c=>pkOne c.toNat)++pkOne p.codes[j].toNat by rw[List.take_succ_eq_append_getElem hjl,List.flatMap_append];simp)
     generalize p.codes[j]=cd at*
     obtain⟨y,rfl⟩:∃y:UInt8,cd=((y.toNat:Nat):Int):=⟨UInt8.ofNat cd.toNat,by simp;omega⟩;have HY:=zh (show pkOne (Int.toNat ((y.toNat:Nat):Int))= [y]by simp[pkOne,toBE]);have hw:IntKind.u8.wrap ((y.toNat:Nat):Int)=((y.toNat:Nat):Int):=IntWalk.u8_in _ hcb;obtain⟨L,hL⟩:∃L,(L2++(p.codes.take j).flatMap fun c=>pkOne c.toNat)=L:=⟨_,rfl⟩;rw[hL]at HRR;have HLL:=zh (show L.length≤1000001000 by
      have h1:=flat_le (p.codes.take j) (fun c=>pkOne c.toNat) 1 (fun x _=>by simp[pkOne,toBE_length]);have h2:=HLL2.out;rw[List.length_take]at h1;rw[←hL,List.length_append];omega)
     have HEL:=zh hL;obtain⟨Wb,hWb⟩:∃Wb,wr.alloc (.cells #[.int .u8 (y.toNat:Nat)] 5)=Wb:=⟨_,rfl⟩;have hkb:Keeps wr Wb []:=by rw[←hWb];exact Keeps.alloc _ _
     have rb:=byte_new wr y;rw[hWb]at rb;have HBB:=zh (And.intro (HRR.out.then_ hkb) rb);have hbs:=HBB.out.1.k.size;clear hkb rb hcb hc1 hr1 hL
     go_wp2_with (at_builtin;refine Hid.out ?_)
     try rw[hWb]
     refine zh ?_;refine wpList_append_bytes _ rfl (.tmp 145) (.tmp 152) rfl W0.heap.size _ (.slice (some ⟨wr.heap.size,0,none⟩) 1 1) L [y] rfl rfl HBB.out.1.own HBB.out.2 (by have:=HLL.out;simp;omega) hbs ?_;intro A5 c5 w5 l5 E5 hl5 ho5 hk5 hb5;have HB5:=zh (show RbAt W0 w5 (.slice A5 l5.length c5) (L2++(p.codes.take (j+1)).flatMap fun c=>pkOne c.toNat)by
      have h:=HBB.out.1.app ho5 hk5;rw[HTK.out,HY.out,←List.append_assoc,HEL.out,←E5.out];exact h)
     clear ho5 hk5 hb5 hl5 E5 hbs hWb;simp only[Act.put,zsa,zsc,zsz]
     go_wp2_with fail
     exact⟨⟨j+1,by omega,by go_num,HB5⟩,by simp[intOf];omega⟩
    ·obtain rfl:j=p.codes.length:=by omega
     obtain⟨L3,hL3⟩:∃L,(L2++p.codes.flatMap fun c=>pkOne c.toNat)=L:=⟨_,rfl⟩;have HB3:=zh (show RbAt W0 wr _ L3 by have:=HRR.out;rwa [List.take_length,hL3]at this);have HLL3:=zh (show L3.length≤1000010000 by
      have h1:=flat_le p.codes (fun c=>pkOne c.toNat) 1 (fun x _=>by simp[pkOne,toBE_length]);have h2:=HLL2.out;rw[←hL3,List.length_append];omega)
     have HE3:=zh hL3;clear hL3 hjl hlen HRR hj
     go_wp2_with fail
     clear x22
     go_loopw [3,7] (fun v i ws=>∃j:Nat,j≤p.fs.length∧i= .int .i64 j∧Hid (RbAt W0 ws v (L3++(p.fs.take j).flatMap pkTx))) (fun _ i _=>p.fs.length - (intOf i).toNat)
     case atStart=>exact⟨0,by omega,rfl,zh (by simpa using HB3.out)⟩
     case round=>
      obtain⟨j,hj,rfl,HRR⟩:=hrel;have x23:=((HR.out.2.keeps HRR.out.k).cell 23).trans HX.out.c23;have hlen:p.fs.length≤8:=HS.out.2.2
      by_cases hjl:j < p.fs.length
      ·have hjq:(j:Int) < (p.fs.length:Int):=by omega
       obtain⟨b1,o1,cs1,rfl,hr1,hc1⟩:=HL.out.fs (by omega);have HTX:=zh (HT.out.f _ (List.getElem_mem hjl));have M1:=((hr1.keeps HRR.out.k).cell (o1+j*1+0)).trans (hc1 j hjl 0 (by omega));simp only[txtV,zgz,Nat.mul_one,Nat.add_zero]at M1;have HTK:=zh (show(p.fs.take (j+1)).flatMap pkTx=(p.fs.take j).flatMap pkTx++pkTx p.fs[j]by rw[List.take_succ_eq_append_getElem hjl,List.flatMap_append];simp)
       generalize p.fs[j]=s at*
       have HTT:=zh (fun w=>rfText_any w s (by have:=HTX.out;omega));have HLT:=zh (show(pkTx s).length≤60002 by have:=HTX.out;simp[pkTx,toBE_length];omega);obtain⟨L,hL⟩:∃L,(L3++(p.fs.take j).flatMap pkTx)=L:=⟨_,rfl⟩;rw[hL]at HRR;have HLL:=zh (show L.length≤1001000000 by
        have h1:=flat_le (p.fs.take j) pkTx 60002 (fun x hx=>by have:=HT.out.f x (List.mem_of_mem_take hx);simp[pkTx,toBE_length];omega);have h2:=HLL3.out;rw[List.length_take]at h1;rw[←hL,List.length_append];omega)
       have HEL:=zh hL;clear hc1 hr1 hL
       go_wp2_with fail
       refine(HTT.out _).mono ?_;rintro e w4 ⟨u,rfl,ho4,hk4⟩;have HB4:=zh (HRR.out.then_ hk4);have HU:=zh (Owned.bytes ho4 (by have:=HLT.out;omega));have hbs:=HB4.out.k.size;clear ho4 hk4
       go_wp2_with (at_builtin;refine Hid.out ?_)
       refine zh ?_;refine wpList_append_bytes _ rfl (.tmp 161) (.tmp 167) rfl W0.heap.size _ u L (pkTx s) rfl rfl HB4.out.own HU.out (by have:=HLL.out;have:=HLT.out;omega) hbs ?_;intro A5 c5 w5 l5 E5 hl5 ho5 hk5 hb5;have HB5:=zh (show RbAt W0 w5 (.slice A5 l5.length c5) (L3++(p.fs.take (j+1)).flatMap pkTx)by
        have h:=HB4.out.app ho5 hk5;rw[HTK.out,←List.append_assoc,HEL.out,←E5.out];exact h)
       clear ho5 hk5 hb5 hl5 E5 hbs;simp only[Act.put,zsa,zsc,zsz]
       go_wp2_with fail
       exact⟨⟨j+1,by omega,by go_num,HB5⟩,by simp[intOf];omega⟩
      ·obtain rfl:j=p.fs.length:=by omega
       go_wp2_with fail
       go_ret;refine⟨_,rfl, ?_,HR.out.1.then_ HRR.out.k⟩;have h:=HRR.out.own;rw[List.take_length,←HE3.out,←HE2.out,List.append_assoc,List.append_assoc]at h;exact own_base h HR.out.1.size

theorem alone_wants {p:Pk}(h:pkAlone p=p)(hk:p.k≠8):p.wants= []:=by
 have e:(pkAlone p).wants= []:=by unfold pkAlone;(repeat' split) <;> first | rfl | (exfalso;omega)
 rwa [h]at e
theorem alone_codes {p:Pk}(h:pkAlone p=p)(hk:p.k≠9):p.codes= []:=by
 have e:(pkAlone p).codes= []:=by unfold pkAlone;(repeat' split) <;> first | rfl | (exfalso;omega)
 rwa [h]at e
theorem alone_fs {p:Pk}(h:pkAlone p=p)(hk:p.k≠10):p.fs= []:=by
 have e:(pkAlone p).fs= []:=by unfold pkAlone;(repeat' split) <;> first | rfl | (exfalso;omega)
 rwa [h]at e
theorem alone_texts {p:Pk}(h:pkAlone p=p)(hk:p.k≠1)(hk3:p.k≠3):p.t= []∧p.c= []∧p.wt= []∧p.u= []:=by
 have e:(pkAlone p).t= []∧(pkAlone p).c= []∧(pkAlone p).wt= []∧(pkAlone p).u= []:=by unfold pkAlone;(repeat' split) <;> first | exact⟨rfl,rfl,rfl,rfl⟩ | (exfalso;omega)
 rwa [h]at e
theorem bodyI_any (p:Pk)(X:Array Value)(sw sc sf:Value)(w:World)(hX:PkAt p X sw sc sf)(hl:PkL w p sw sc sf)(h3:pkAlone p=p)(h:p.k=4∨p.k=5∨p.k=6∨p.k=7∨p.k=8∨p.k=9∨p.k=10∨p.k=11)
  (hi:0≤p.id∧p.id≤65535) (hw:∀x∈p.wants,x.1.length≤200∧0≤x.2∧x.2≤2) (hf:∀x∈p.fs,x.length≤200) (hcd:∀c∈p.codes,0≤c∧c≤255) (hlw:p.wants.length≤8∧p.codes.length≤8∧p.fs.length≤8)
  (he:pkTwo p.id++((p.wants.flatMap fun w=>pkTx w.1++pkOne w.2.toNat)++((p.codes.flatMap fun c=>pkOne c.toNat)++p.fs.flatMap pkTx))=pkBody p):
  Calls Tryz.prog 35 #[.agg X] w fun e w' =>∃v,e= .returned v∧Owned w' w.heap.size v (pkBody p)∧Keeps w w' []:=by
 obtain⟨t1,t2,t3,t4⟩:=alone_texts h3 (by omega) (by omega);obtain⟨A1,c1,A2,c2,A3,c3,rfl,rfl,rfl⟩:=hl.slices;rw[←he];exact bodyI_walk p X A1 A2 A3 c1 c2 c3 w hX hl h hi ⟨by rw[t1];simp,by rw[t2];simp,by rw[t3];simp,by rw[t4];simp,fun x hx=>by have:=hw x hx;omega,fun x hx=>by have:=hf x hx;omega⟩ hcd (fun x hx=>by have:=hw x hx;omega) hlw
theorem body_any (p:Pk)(X:Array Value)(sw sc sf:Value)(w:World)(hX:PkAt p X sw sc sf)(hl:PkL w p sw sc sf)(ho:pkOk p=true):
  Calls Tryz.prog 35 #[.agg X] w fun e w' =>∃v,e= .returned v∧Owned w' w.heap.size v (pkBody p)∧Keeps w w' []:=by
 obtain⟨h1,h2,h3⟩:=pkOk_parts ho
 rcases pk_kinds h1 with e | e | e | e | e | e | e | e
 ·have f:=pk_fit1 e h2
  exact body1_walk p X sw sc sf w hX e f.will.2.2 f.keep (by have:=f.c;omega) (by have:=f.will.1;omega) (by have:=f.will.2.1;omega) (by have:=f.u.1;omega) (by have:=f.pw.1;omega)
 ·exact body2_walk p X sw sc sf w hX e (pk_fit2 e h2)
 ·have f:=pk_fit3 e h2
  exact body3_walk p X sw sc sf w hX e f.1 f.2.1 f.2.2.1.1 f.2.2.2.1
 ·have f:=pk_fit8 e h2
  have g1:=alone_codes h3 (by omega);have g2:=alone_fs h3 (by omega);exact bodyI_any p X sw sc sf w hX hl h3 (by omega) ⟨by omega,by omega⟩ f.2.2.2 (by rw[g2];simp) (by rw[g1];simp) ⟨f.2.2.1,by rw[g1];simp,by rw[g2];simp⟩ (by rw[pkBody8 e,g1,g2];simp)
 ·have f:=pk_fit9 e h2
  have g1:=alone_wants h3 (by omega);have g2:=alone_fs h3 (by omega);exact bodyI_any p X sw sc sf w hX hl h3 (by omega) ⟨by omega,by omega⟩ (by rw[g1];simp) (by rw[g2];simp) f.2.2.2 ⟨by rw[g1];simp,f.2.2.1,by rw[g2];simp⟩ (by rw[pkBody9 e,g1,g2];simp)
 ·have f:=pk_fit10 e h2
  have g1:=alone_wants h3 (by omega);have g2:=alone_codes h3 (by omega);exact bodyI_any p X sw sc sf w hX hl h3 (by omega) ⟨by omega,by omega⟩ (by rw[g1];simp) (fun x hx=>f.2.2.2 x hx) (by rw[g2];simp) ⟨by rw[g1];simp,by rw[g2];simp,f.2.2.1⟩ (by rw[pkBody10 e,g1,g2];simp)
 ·exact body12_walk p X sw sc sf w hX e
 ·have f:=pk_fit4 e h2
  have g1:=alone_wants h3 (by omega);have g2:=alone_codes h3 (by omega);have g3:=alone_fs h3 (by omega);exact bodyI_any p X sw sc sf w hX hl h3 (by omega) ⟨by omega,by omega⟩ (by rw[g1];simp) (by rw[g3];simp) (by rw[g2];simp) ⟨by rw[g1];simp,by rw[g2];simp,by rw[g3];simp⟩ (by rw[pkBody4 e,g1,g2,g3];simp)
set_option maxRecDepth 100000 in
set_option maxHeartbeats 4000000 in
theorem refRaw_any (p:Pk)(X:Array Value)(sw sc sf:Value)(w:World)(hX:PkAt p X sw sc sf)(hl:PkL w p sw sc sf)(ho:pkOk p=true)(hz:(Tryz.prog.info? 29).map (·.size)=some X.size):
  Calls Tryz.prog 15 #[.agg X] w fun e w' =>∃v,e= .returned v∧Owned w' w.heap.size v (pkRaw p)∧Keeps w w' []:=by
 have HX:=zh hX;have HZ:=zh hz;have HM:=zh (show pkRaw p=lnB (16*p.k.toNat+pkF p)::(lnRaw (pkBody p).length++pkBody p)from rfl);have HLB:=zh (pkBody_len ho);have HFL:=zh (pkF_lt ho);have HBY:=zh (show∀W,Keeps w W []→Calls Tryz.prog 35 #[.agg X] W fun e w' =>∃v,e= .returned v∧Owned w' W.heap.size v (pkBody p)∧Keeps W w' []from fun W hW=>body_any p X sw sc sf W hX (hl.keeps hW) ho);obtain⟨h1,h2,h3⟩:=pkOk_parts ho;have hk1:=pkIn_iff.1 h1;have hq:p.k=3→0≤p.q∧p.q≤2:=fun e=>(pk_fit3 e h2).2.2.1
 obtain⟨W0,hW0⟩:∃W0,w.alloc (.cells X 29)=W0:=⟨_,rfl⟩;have HR:=zh (show Keeps w W0 []∧Row W0 w.heap.size 29 X from by
  rw[←hW0];exact⟨Keeps.alloc _ _,Row.new _ _ _⟩)
 have x0:=(HR.out.2.cell 0).trans hX.c0;clear hX hl h1 h2 h3 hz ho
 go_enter Tryz.func15,Tryz.ntmps15
 go_upto_region 1 with fail
 try rw[hW0]
 clear hW0;obtain⟨kn,hkn0⟩:∃kn:Nat,p.k=(kn:Int):=⟨p.k.toNat,by omega⟩;obtain⟨F,hF⟩:∃F,pkF p=F:=⟨_,rfl⟩;obtain⟨N,hN⟩:∃N,lnRaw (pkBody p).length=N:=⟨_,rfl⟩;have HN:=zh (fun w=>refLnRaw_any w (pkBody p).length (by have:=HLB.out;omega));have HNL:=zh (show N.length≤8 by rw[←hN,lnRaw_length];have:=lnSize_le (pkBody p).length;omega);rw[hN]at HN HM;rw[hkn0,hF,Int.toNat_natCast]at HM;obtain⟨B,hB⟩:∃B,pkBody p=B:=⟨_,rfl⟩;rw[hB]at HN HM HLB HBY;rw[hF]at HFL;have hFl:=HFL.out;have hkl:kn≤14:=by omega
 obtain⟨y,hy⟩:∃y:UInt8,y.toNat=16*kn+F:=⟨UInt8.ofNat (16*kn+F),by simp;omega⟩;have HY:=zh (show lnB (16*kn+F)=y by rw[←hy];simp[lnB]);have HX0:=zh (show X[0]? =some (.int .i64 (kn:Int))by rw[←hkn0];exact HX.out.c0);have HS1:=zh (show IntKind.i64.wrap (16*(kn:Int))=((16*kn:Nat):Int)∧IntKind.u8.wrap ((y.toNat:Nat):Int)=((y.toNat:Nat):Int)from⟨by rw[IntWalk.i64_in _ ⟨by omega,by omega⟩];omega,IntWalk.u8_in _ ⟨by omega,by have:=y.toNat_lt;omega⟩⟩);rw[hkn0]at x0;clear hN hB
 by_cases e3:p.k=3
 ·have b3:((kn:Int)==3)=true:=by simp;omega
  obtain⟨n1,e1,g1⟩:∃n,pkB p.dup 8=n∧n≤8:=⟨_,rfl,pkB_le _ _⟩;obtain⟨n2,e2,g2⟩:∃n,pkB p.ret 1=n∧n≤1:=⟨_,rfl,pkB_le _ _⟩;have hq3:=hq e3;obtain⟨q,eq⟩:∃q:Nat,p.q=(q:Int):=⟨p.q.toNat,by omega⟩;have hF3:F=n1+n2+2*q:=by rw[←hF];unfold pkF pkPub;rw[if_pos e3,e1,e2,eq,Int.toNat_natCast]
  have HO8:=zh (show∀W,Calls Tryz.prog 34 #[.bool p.dup,.int .i64 8] W fun e w' =>e= .returned (.int .i64 (n1:Nat))∧Keeps W w' []from fun W=>e1▸rfOne_any W p.dup 8);have HO1:=zh (show∀W,Calls Tryz.prog 34 #[.bool p.ret,.int .i64 1] W fun e w' =>e= .returned (.int .i64 (n2:Nat))∧Keeps W w' []from fun W=>e2▸rfOne_any W p.ret 1);have s1:IntKind.i64.wrap (2*(q:Int))=((2*q:Nat):Int):=by rw[IntWalk.i64_in _ ⟨by omega,by omega⟩];omega
  have s2:IntKind.i64.wrap ((n1:Int)+((2*q:Nat):Int))=((n1+2*q:Nat):Int):=by rw[IntWalk.i64_in _ ⟨by omega,by omega⟩];omega
  have s3:IntKind.i64.wrap (((n1+2*q:Nat):Int)+(n2:Int))=(F:Int):=by rw[IntWalk.i64_in _ ⟨by omega,by omega⟩];omega
  have HS3:=zh (And.intro s1 (And.intro s2 s3));have c3:=HX.out.c3;rw[eq]at c3;have HC3:=zh c3
  go_upto_region 4 with fail
  clear x0 b3 e1 e2 g1 g2 hq3 eq hF3 s1 s2 s3 c3 e3;refine wp_region_keeps _ (by kernel_rfl) rfl (by kernel_rfl) ?_;refine lq (.pointer (some ⟨w.heap.size,1,none⟩)) ?_;refine ll 4 (.tmp 11) (⟨w.heap.size,1,none⟩) (.bool p.dup) (fun W hW=>((HR.out.2.keeps hW).cell 1).trans HX.out.c1) ?_;refine loose_qc 34 (#[.bool p.dup,.int .i64 8]) (.int .i64 (n1:Nat)) (fun _=>by kernel_rfl) (fun _ _=>by kernel_rfl) (fun W hW=>by have hh:=HO8.out W;exact hh) ?_;refine lq (.pointer (some ⟨w.heap.size,3,none⟩)) ?_;refine ll 3 (.tmp 14) (⟨w.heap.size,3,none⟩) (.int .i64 (q:Int)) (fun W hW=>((HR.out.2.keeps hW).cell 3).trans HC3.out) ?_;refine loose_q (.int .i64 ((2*q:Nat):Int)) (fun _=>by kernel_rfl) (fun W _=>(show _=Result.ok (Next.value (.int .i64 (IntKind.i64.wrap (2*(q:Int))))) W by kernel_rfl).trans (by rw[HS3.out.1])) ?_;refine loose_q (.int .i64 ((n1+2*q:Nat):Int)) (fun _=>by kernel_rfl) (fun W _=>(show _=Result.ok (Next.value (.int .i64 (IntKind.i64.wrap ((n1:Int)+((2*q:Nat):Int))))) W by kernel_rfl).trans (by rw[HS3.out.2.1])) ?_;refine lq (.pointer (some ⟨w.heap.size,2,none⟩)) ?_;refine ll 4 (.tmp 18) (⟨w.heap.size,2,none⟩) (.bool p.ret) (fun W hW=>((HR.out.2.keeps hW).cell 2).trans HX.out.c2) ?_;refine loose_qc 34 (#[.bool p.ret,.int .i64 1]) (.int .i64 (n2:Nat)) (fun _=>by kernel_rfl) (fun _ _=>by kernel_rfl) (fun W hW=>by have hh:=HO1.out W;exact hh) ?_;refine loose_q (.int .i64 (F:Nat)) (fun _=>by kernel_rfl) (fun W _=>(show _=Result.ok (Next.value (.int .i64 (IntKind.i64.wrap (((n1+2*q:Nat):Int)+(n2:Int))))) W by kernel_rfl).trans (by rw[HS3.out.2.2])) ?_;refine lq (.int .i64 (F:Nat)) ?_;refine loose_nil (fun W vals hW hkn=> ?_);simp only[addEnt,knowsAll]at hkn
  try simp only[and_true]at hkn
  simp only[addEnt,fill,Act.put,zsa,zsc,zsz];clear hkn;replace HR:=zh (show Keeps w W []∧Row W w.heap.size 29 X from⟨HR.out.1.then_ hW,HR.out.2.keeps hW⟩);obtain⟨W1,hW1⟩:∃W1,W1=W:=⟨_,rfl⟩;subst hW1;clear hW
  go_upto_region 9 with fail
  have HS:=zh (show IntKind.i64.wrap (((16*kn:Nat):Int)+((F:Nat):Int))=((y.toNat:Nat):Int)by rw[IntWalk.i64_in _ ⟨by omega,by omega⟩];omega);clear hy hF
  go_wp2_with (refine wpList_loadX (by kernel_rfl) rfl rfl HR.out.2 Tryz.underlying29 rfl HZ.out ?_)
  refine(HBY.out _ HR.out.1).mono ?_;rintro e w1 ⟨u,rfl,ho,hk⟩;obtain⟨A1,c1,rfl,_,_⟩:=own_slice ho;have HB:=zh (RbAt.new (Keeps.refl _ []) ho hk);clear ho hk
  go_wp2_with fail
  refine(HN.out _).mono ?_;rintro e w2 ⟨u,rfl,ho,hk⟩;obtain⟨A2,c2,rfl,_,_⟩:=own_slice ho;have HU:=zh (own_base ho HB.out.k.size);replace HB:=zh (HB.out.then_ hk);clear ho hk HN
  go_upto_region 11 with fail
  refine wp_region_lit ?_;refine wpList_val (.pointer (some ⟨w.heap.size,0,none⟩)) rfl (by kernel_rfl) ?_;refine wpList_loadc 22 (.tmp 34) ⟨w.heap.size,0,none⟩ (.int .i64 (kn:Int)) rfl rfl (by kernel_rfl) (fun _=>by kernel_rfl) (((HR.out.2.keeps HB.out.k).cell 0).trans HX0.out) ?_;refine wpList_val (.int .i64 ((16*kn:Nat):Int)) rfl ((show _=Result.ok (Next.value (.int .i64 (IntKind.i64.wrap (16*(kn:Int))))) _ by kernel_rfl).trans (by rw[HS1.out.1])) ?_;refine wpList_val (.int .i64 ((F:Nat):Int)) rfl (by kernel_rfl) ?_;refine wpList_val (.int .i64 ((y.toNat:Nat):Int)) rfl ((show _=Result.ok (Next.value (.int .i64 (IntKind.i64.wrap (((16*kn:Nat):Int)+((F:Nat):Int))))) _ by kernel_rfl).trans (by rw[HS.out])) ?_;refine wpList_val (.int .u8 ((y.toNat:Nat):Int)) rfl ((show _=Result.ok (Next.value (.int .u8 (IntKind.u8.wrap ((y.toNat:Nat):Int)))) _ by kernel_rfl).trans (by rw[HS1.out.2])) ?_;simp only[Act.put,zsa,zsc,zsz];have hW:Keeps w2 w2 []:=Keeps.refl _ _;obtain⟨Wb,hWb⟩:∃Wb,w2.alloc (.cells #[.int .u8 (y.toNat:Nat)] 5)=Wb:=⟨_,rfl⟩;have kb:Keeps w2 Wb []:=hW.then_ (by rw[←hWb];exact Keeps.alloc _ _);have rb:Owned Wb W1.heap.size (.slice (some ⟨w2.heap.size,0,none⟩) 1 1) [y]:=by rw[←hWb];exact own_base (raw_one w2 y) (HB.out.k.then_ hW).size
  have HA:=zh (And.intro (HB.out.then_ kb) (And.intro (own_keep HU.out kb (by simp)) (And.intro rb (show(∀g,(Value.slice A1 B.length c1).ownBlock=some g→g < w2.heap.size)∧W1.heap.size≤w2.heap.size from⟨fun g hg=>(owned_lt HB.out.own g hg).2,(HB.out.k.then_ hW).size⟩))));clear kb rb HB HU hW
  go_wp2_with (at_builtin;refine Hid.out ?_)
  refine zh ?_;refine wpList_append_bytes _ rfl (.tmp 40) (.tmp 41) rfl W1.heap.size (.slice (some ⟨w2.heap.size,0,none⟩) 1 1) (.slice A2 N.length c2) [y] N rfl rfl HA.out.2.2.1 (Owned.bytes HA.out.2.1 (by have:=HNL.out;omega)) (by have:=HNL.out;simp;omega) HA.out.1.k.size ?_;intro A6 c6 w6 l6 E6 hl6 ho6 hk6 hb6;have HB6:=zh (And.intro ho6 (And.intro (own_keep HA.out.1.own hk6 (fun g hg hm=>by have h1:=HA.out.2.2.2.1 g hg;simp[Value.ownBlock]at hm;omega)) (HA.out.1.k.trans hk6 (fun y hy hlt=>by have:=HA.out.1.k.size;have h2:=HA.out.2.2.2;simp[Value.ownBlock]at hy;omega))));have hbs6:W1.heap.size≤w6.heap.size:=HB6.out.2.2.size;clear ho6 hk6 hb6 hWb HA;simp only[Act.put,zsa,zsc,zsz];refine wpList_val (.slice A1 B.length c1) rfl (by kernel_rfl) ?_;simp only[Act.put,zsa,zsc,zsz];refine wpList_append_bytes _ rfl (.tmp 42) (.tmp 43) rfl W1.heap.size (.slice A6 l6.length c6) (.slice A1 B.length c1) l6 B rfl rfl HB6.out.1 (Owned.bytes HB6.out.2.1 (by have:=HLB.out;omega)) (by have:=HNL.out;have:=HLB.out;simp at hl6;omega) hbs6 ?_;intro A7 c7 w7 l7 E7 hl7 ho7 hk7 hb7;have HK7:=zh (HB6.out.2.2.trans hk7 (fun y hy hlt=>by have:=(owned_lt HB6.out.1 y (by simpa using hy)).1;omega));have HO7:=zh (show Owned w7 W1.heap.size (.slice A7 l7.length c7) (pkRaw p)by rw[HM.out,HY.out,show y::(N++B)= [y]++N++B by simp,←E6.out,←E7.out];exact ho7);clear ho7 hk7 hb7 hbs6 E6 E7 hl6 hl7;simp only[Act.put,zsa,zsc,zsz]
  go_wp2_with fail
  go_ret;exact⟨_,rfl,own_base HO7.out HR.out.1.size,HR.out.1.then_ HK7.out⟩
 ·have b3:((kn:Int)==3)=false:=by simp;omega
  by_cases e6:p.k=6∨p.k=8∨p.k=10
  ·have hF2:F=2:=by rw[←hF];unfold pkF;rw[if_neg e3,if_pos e6]
   subst hF2;have hv:((kn:Int)==6)=true∨(((kn:Int)==6)=false∧((kn:Int)==8)=true)∨(((kn:Int)==6)=false∧((kn:Int)==8)=false∧((kn:Int)==10)=true):=by simp only[beq_iff_eq,beq_eq_false_iff_ne];omega
   clear e6 e3
   rcases hv with b6 | ⟨b6,b8⟩ | ⟨b6,b8,b10⟩
   ·go_upto_region 9 with fail
    clear x0 b3 b6;have HS:=zh (show IntKind.i64.wrap (((16*kn:Nat):Int)+(2:Int))=((y.toNat:Nat):Int)by rw[IntWalk.i64_in _ ⟨by omega,by omega⟩];omega);clear hy hF
    go_wp2_with (refine wpList_loadX (by kernel_rfl) rfl rfl HR.out.2 Tryz.underlying29 rfl HZ.out ?_)
    refine(HBY.out _ HR.out.1).mono ?_;rintro e w1 ⟨u,rfl,ho,hk⟩;obtain⟨A1,c1,rfl,_,_⟩:=own_slice ho;have HB:=zh (RbAt.new (Keeps.refl _ []) ho hk);clear ho hk
    go_wp2_with fail
    refine(HN.out _).mono ?_;rintro e w2 ⟨u,rfl,ho,hk⟩;obtain⟨A2,c2,rfl,_,_⟩:=own_slice ho;have HU:=zh (own_base ho HB.out.k.size);replace HB:=zh (HB.out.then_ hk);clear ho hk HN
    go_upto_region 11 with fail
    refine wp_region_lit ?_;refine wpList_val (.pointer (some ⟨w.heap.size,0,none⟩)) rfl (by kernel_rfl) ?_;refine wpList_loadc 22 (.tmp 34) ⟨w.heap.size,0,none⟩ (.int .i64 (kn:Int)) rfl rfl (by kernel_rfl) (fun _=>by kernel_rfl) (((HR.out.2.keeps HB.out.k).cell 0).trans HX0.out) ?_;refine wpList_val (.int .i64 ((16*kn:Nat):Int)) rfl ((show _=Result.ok (Next.value (.int .i64 (IntKind.i64.wrap (16*(kn:Int))))) _ by kernel_rfl).trans (by rw[HS1.out.1])) ?_;refine wpList_val (.int .i64 (2:Int)) rfl (by kernel_rfl) ?_;refine wpList_val (.int .i64 ((y.toNat:Nat):Int)) rfl ((show _=Result.ok (Next.value (.int .i64 (IntKind.i64.wrap (((16*kn:Nat):Int)+(2:Int))))) _ by kernel_rfl).trans (by rw[HS.out])) ?_;refine wpList_val (.int .u8 ((y.toNat:Nat):Int)) rfl ((show _=Result.ok (Next.value (.int .u8 (IntKind.u8.wrap ((y.toNat:Nat):Int)))) _ by kernel_rfl).trans (by rw[HS1.out.2])) ?_;simp only[Act.put,zsa,zsc,zsz];have hW:Keeps w2 w2 []:=Keeps.refl _ _;obtain⟨Wb,hWb⟩:∃Wb,w2.alloc (.cells #[.int .u8 (y.toNat:Nat)] 5)=Wb:=⟨_,rfl⟩;have kb:Keeps w2 Wb []:=hW.then_ (by rw[←hWb];exact Keeps.alloc _ _);have rb:Owned Wb W0.heap.size (.slice (some ⟨w2.heap.size,0,none⟩) 1 1) [y]:=by rw[←hWb];exact own_base (raw_one w2 y) (HB.out.k.then_ hW).size
    have HA:=zh (And.intro (HB.out.then_ kb) (And.intro (own_keep HU.out kb (by simp)) (And.intro rb (show(∀g,(Value.slice A1 B.length c1).ownBlock=some g→g < w2.heap.size)∧W0.heap.size≤w2.heap.size from⟨fun g hg=>(owned_lt HB.out.own g hg).2,(HB.out.k.then_ hW).size⟩))));clear kb rb HB HU hW
    go_wp2_with (at_builtin;refine Hid.out ?_)
    refine zh ?_;refine wpList_append_bytes _ rfl (.tmp 40) (.tmp 41) rfl W0.heap.size (.slice (some ⟨w2.heap.size,0,none⟩) 1 1) (.slice A2 N.length c2) [y] N rfl rfl HA.out.2.2.1 (Owned.bytes HA.out.2.1 (by have:=HNL.out;omega)) (by have:=HNL.out;simp;omega) HA.out.1.k.size ?_;intro A6 c6 w6 l6 E6 hl6 ho6 hk6 hb6;have HB6:=zh (And.intro ho6 (And.intro (own_keep HA.out.1.own hk6 (fun g hg hm=>by have h1:=HA.out.2.2.2.1 g hg;simp[Value.ownBlock]at hm;omega)) (HA.out.1.k.trans hk6 (fun y hy hlt=>by have:=HA.out.1.k.size;have h2:=HA.out.2.2.2;simp[Value.ownBlock]at hy;omega))));have hbs6:W0.heap.size≤w6.heap.size:=HB6.out.2.2.size;clear ho6 hk6 hb6 hWb HA;simp only[Act.put,zsa,zsc,zsz];refine wpList_val (.slice A1 B.length c1) rfl (by kernel_rfl) ?_;simp only[Act.put,zsa,zsc,zsz];refine wpList_append_bytes _ rfl (.tmp 42) (.tmp 43) rfl W0.heap.size (.slice A6 l6.length c6) (.slice A1 B.length c1) l6 B rfl rfl HB6.out.1 (Owned.bytes HB6.out.2.1 (by have:=HLB.out;omega)) (by have:=HNL.out;have:=HLB.out;simp at hl6;omega) hbs6 ?_;intro A7 c7 w7 l7 E7 hl7 ho7 hk7 hb7;have HK7:=zh (HB6.out.2.2.trans hk7 (fun y hy hlt=>by have:=(owned_lt HB6.out.1 y (by simpa using hy)).1;omega));have HO7:=zh (show Owned w7 W0.heap.size (.slice A7 l7.length c7) (pkRaw p)by rw[HM.out,HY.out,show y::(N++B)= [y]++N++B by simp,←E6.out,←E7.out];exact ho7);clear ho7 hk7 hb7 hbs6 E6 E7 hl6 hl7;simp only[Act.put,zsa,zsc,zsz]
    go_wp2_with fail
    go_ret;exact⟨_,rfl,own_base HO7.out HR.out.1.size,HR.out.1.then_ HK7.out⟩
   ·go_upto_region 9 with fail
    clear x0 b3 b6 b8;have HS:=zh (show IntKind.i64.wrap (((16*kn:Nat):Int)+(2:Int))=((y.toNat:Nat):Int)by rw[IntWalk.i64_in _ ⟨by omega,by omega⟩];omega);clear hy hF
    go_wp2_with (refine wpList_loadX (by kernel_rfl) rfl rfl HR.out.2 Tryz.underlying29 rfl HZ.out ?_)
    refine(HBY.out _ HR.out.1).mono ?_;rintro e w1 ⟨u,rfl,ho,hk⟩;obtain⟨A1,c1,rfl,_,_⟩:=own_slice ho;have HB:=zh (RbAt.new (Keeps.refl _ []) ho hk);clear ho hk
    go_wp2_with fail
    refine(HN.out _).mono ?_;rintro e w2 ⟨u,rfl,ho,hk⟩;obtain⟨A2,c2,rfl,_,_⟩:=own_slice ho;have HU:=zh (own_base ho HB.out.k.size);replace HB:=zh (HB.out.then_ hk);clear ho hk HN
    go_upto_region 11 with fail
    refine wp_region_lit ?_;refine wpList_val (.pointer (some ⟨w.heap.size,0,none⟩)) rfl (by kernel_rfl) ?_;refine wpList_loadc 22 (.tmp 34) ⟨w.heap.size,0,none⟩ (.int .i64 (kn:Int)) rfl rfl (by kernel_rfl) (fun _=>by kernel_rfl) (((HR.out.2.keeps HB.out.k).cell 0).trans HX0.out) ?_;refine wpList_val (.int .i64 ((16*kn:Nat):Int)) rfl ((show _=Result.ok (Next.value (.int .i64 (IntKind.i64.wrap (16*(kn:Int))))) _ by kernel_rfl).trans (by rw[HS1.out.1])) ?_;refine wpList_val (.int .i64 (2:Int)) rfl (by kernel_rfl) ?_;refine wpList_val (.int .i64 ((y.toNat:Nat):Int)) rfl ((show _=Result.ok (Next.value (.int .i64 (IntKind.i64.wrap (((16*kn:Nat):Int)+(2:Int))))) _ by kernel_rfl).trans (by rw[HS.out])) ?_;refine wpList_val (.int .u8 ((y.toNat:Nat):Int)) rfl ((show _=Result.ok (Next.value (.int .u8 (IntKind.u8.wrap ((y.toNat:Nat):Int)))) _ by kernel_rfl).trans (by rw[HS1.out.2])) ?_;simp only[Act.put,zsa,zsc,zsz];have hW:Keeps w2 w2 []:=Keeps.refl _ _;obtain⟨Wb,hWb⟩:∃Wb,w2.alloc (.cells #[.int .u8 (y.toNat:Nat)] 5)=Wb:=⟨_,rfl⟩;have kb:Keeps w2 Wb []:=hW.then_ (by rw[←hWb];exact Keeps.alloc _ _);have rb:Owned Wb W0.heap.size (.slice (some ⟨w2.heap.size,0,none⟩) 1 1) [y]:=by rw[←hWb];exact own_base (raw_one w2 y) (HB.out.k.then_ hW).size
    have HA:=zh (And.intro (HB.out.then_ kb) (And.intro (own_keep HU.out kb (by simp)) (And.intro rb (show(∀g,(Value.slice A1 B.length c1).ownBlock=some g→g < w2.heap.size)∧W0.heap.size≤w2.heap.size from⟨fun g hg=>(owned_lt HB.out.own g hg).2,(HB.out.k.then_ hW).size⟩))));clear kb rb HB HU hW
    go_wp2_with (at_builtin;refine Hid.out ?_)
    refine zh ?_;refine wpList_append_bytes _ rfl (.tmp 40) (.tmp 41) rfl W0.heap.size (.slice (some ⟨w2.heap.size,0,none⟩) 1 1) (.slice A2 N.length c2) [y] N rfl rfl HA.out.2.2.1 (Owned.bytes HA.out.2.1 (by have:=HNL.out;omega)) (by have:=HNL.out;simp;omega) HA.out.1.k.size ?_;intro A6 c6 w6 l6 E6 hl6 ho6 hk6 hb6;have HB6:=zh (And.intro ho6 (And.intro (own_keep HA.out.1.own hk6 (fun g hg hm=>by have h1:=HA.out.2.2.2.1 g hg;simp[Value.ownBlock]at hm;omega)) (HA.out.1.k.trans hk6 (fun y hy hlt=>by have:=HA.out.1.k.size;have h2:=HA.out.2.2.2;simp[Value.ownBlock]at hy;omega))));have hbs6:W0.heap.size≤w6.heap.size:=HB6.out.2.2.size;clear ho6 hk6 hb6 hWb HA;simp only[Act.put,zsa,zsc,zsz];refine wpList_val (.slice A1 B.length c1) rfl (by kernel_rfl) ?_;simp only[Act.put,zsa,zsc,zsz];refine wpList_append_bytes _ rfl (.tmp 42) (.tmp 43) rfl W0.heap.size (.slice A6 l6.length c6) (.slice A1 B.length c1) l6 B rfl rfl HB6.out.1 (Owned.bytes HB6.out.2.1 (by have:=HLB.out;omega)) (by have:=HNL.out;have:=HLB.out;simp at hl6;omega) hbs6 ?_;intro A7 c7 w7 l7 E7 hl7 ho7 hk7 hb7;have HK7:=zh (HB6.out.2.2.trans hk7 (fun y hy hlt=>by have:=(owned_lt HB6.out.1 y (by simpa using hy)).1;omega));have HO7:=zh (show Owned w7 W0.heap.size (.slice A7 l7.length c7) (pkRaw p)by rw[HM.out,HY.out,show y::(N++B)= [y]++N++B by simp,←E6.out,←E7.out];exact ho7);clear ho7 hk7 hb7 hbs6 E6 E7 hl6 hl7;simp only[Act.put,zsa,zsc,zsz]
    go_wp2_with fail
    go_ret;exact⟨_,rfl,own_base HO7.out HR.out.1.size,HR.out.1.then_ HK7.out⟩
   ·go_upto_region 9 with fail
    clear x0 b3 b6 b8 b10;have HS:=zh (show IntKind.i64.wrap (((16*kn:Nat):Int)+(2:Int))=((y.toNat:Nat):Int)by rw[IntWalk.i64_in _ ⟨by omega,by omega⟩];omega);clear hy hF
    go_wp2_with (refine wpList_loadX (by kernel_rfl) rfl rfl HR.out.2 Tryz.underlying29 rfl HZ.out ?_)
    refine(HBY.out _ HR.out.1).mono ?_;rintro e w1 ⟨u,rfl,ho,hk⟩;obtain⟨A1,c1,rfl,_,_⟩:=own_slice ho;have HB:=zh (RbAt.new (Keeps.refl _ []) ho hk);clear ho hk
    go_wp2_with fail
    refine(HN.out _).mono ?_;rintro e w2 ⟨u,rfl,ho,hk⟩;obtain⟨A2,c2,rfl,_,_⟩:=own_slice ho;have HU:=zh (own_base ho HB.out.k.size);replace HB:=zh (HB.out.then_ hk);clear ho hk HN
    go_upto_region 11 with fail
    refine wp_region_lit ?_;refine wpList_val (.pointer (some ⟨w.heap.size,0,none⟩)) rfl (by kernel_rfl) ?_;refine wpList_loadc 22 (.tmp 34) ⟨w.heap.size,0,none⟩ (.int .i64 (kn:Int)) rfl rfl (by kernel_rfl) (fun _=>by kernel_rfl) (((HR.out.2.keeps HB.out.k).cell 0).trans HX0.out) ?_;refine wpList_val (.int .i64 ((16*kn:Nat):Int)) rfl ((show _=Result.ok (Next.value (.int .i64 (IntKind.i64.wrap (16*(kn:Int))))) _ by kernel_rfl).trans (by rw[HS1.out.1])) ?_;refine wpList_val (.int .i64 (2:Int)) rfl (by kernel_rfl) ?_;refine wpList_val (.int .i64 ((y.toNat:Nat):Int)) rfl ((show _=Result.ok (Next.value (.int .i64 (IntKind.i64.wrap (((16*kn:Nat):Int)+(2:Int))))) _ by kernel_rfl).trans (by rw[HS.out])) ?_;refine wpList_val (.int .u8 ((y.toNat:Nat):Int)) rfl ((show _=Result.ok (Next.value (.int .u8 (IntKind.u8.wrap ((y.toNat:Nat):Int)))) _ by kernel_rfl).trans (by rw[HS1.out.2])) ?_;simp only[Act.put,zsa,zsc,zsz];have hW:Keeps w2 w2 []:=Keeps.refl _ _;obtain⟨Wb,hWb⟩:∃Wb,w2.alloc (.cells #[.int .u8 (y.toNat:Nat)] 5)=Wb:=⟨_,rfl⟩;have kb:Keeps w2 Wb []:=hW.then_ (by rw[←hWb];exact Keeps.alloc _ _);have rb:Owned Wb W0.heap.size (.slice (some ⟨w2.heap.size,0,none⟩) 1 1) [y]:=by rw[←hWb];exact own_base (raw_one w2 y) (HB.out.k.then_ hW).size
    have HA:=zh (And.intro (HB.out.then_ kb) (And.intro (own_keep HU.out kb (by simp)) (And.intro rb (show(∀g,(Value.slice A1 B.length c1).ownBlock=some g→g < w2.heap.size)∧W0.heap.size≤w2.heap.size from⟨fun g hg=>(owned_lt HB.out.own g hg).2,(HB.out.k.then_ hW).size⟩))));clear kb rb HB HU hW
    go_wp2_with (at_builtin;refine Hid.out ?_)
    refine zh ?_;refine wpList_append_bytes _ rfl (.tmp 40) (.tmp 41) rfl W0.heap.size (.slice (some ⟨w2.heap.size,0,none⟩) 1 1) (.slice A2 N.length c2) [y] N rfl rfl HA.out.2.2.1 (Owned.bytes HA.out.2.1 (by have:=HNL.out;omega)) (by have:=HNL.out;simp;omega) HA.out.1.k.size ?_;intro A6 c6 w6 l6 E6 hl6 ho6 hk6 hb6;have HB6:=zh (And.intro ho6 (And.intro (own_keep HA.out.1.own hk6 (fun g hg hm=>by have h1:=HA.out.2.2.2.1 g hg;simp[Value.ownBlock]at hm;omega)) (HA.out.1.k.trans hk6 (fun y hy hlt=>by have:=HA.out.1.k.size;have h2:=HA.out.2.2.2;simp[Value.ownBlock]at hy;omega))));have hbs6:W0.heap.size≤w6.heap.size:=HB6.out.2.2.size;clear ho6 hk6 hb6 hWb HA;simp only[Act.put,zsa,zsc,zsz];refine wpList_val (.slice A1 B.length c1) rfl (by kernel_rfl) ?_;simp only[Act.put,zsa,zsc,zsz];refine wpList_append_bytes _ rfl (.tmp 42) (.tmp 43) rfl W0.heap.size (.slice A6 l6.length c6) (.slice A1 B.length c1) l6 B rfl rfl HB6.out.1 (Owned.bytes HB6.out.2.1 (by have:=HLB.out;omega)) (by have:=HNL.out;have:=HLB.out;simp at hl6;omega) hbs6 ?_;intro A7 c7 w7 l7 E7 hl7 ho7 hk7 hb7;have HK7:=zh (HB6.out.2.2.trans hk7 (fun y hy hlt=>by have:=(owned_lt HB6.out.1 y (by simpa using hy)).1;omega));have HO7:=zh (show Owned w7 W0.heap.size (.slice A7 l7.length c7) (pkRaw p)by rw[HM.out,HY.out,show y::(N++B)= [y]++N++B by simp,←E6.out,←E7.out];exact ho7);clear ho7 hk7 hb7 hbs6 E6 E7 hl6 hl7;simp only[Act.put,zsa,zsc,zsz]
    go_wp2_with fail
    go_ret;exact⟨_,rfl,own_base HO7.out HR.out.1.size,HR.out.1.then_ HK7.out⟩
  ·have hF0:F=0:=by rw[←hF];unfold pkF;rw[if_neg e3,if_neg e6]
   subst hF0;have b6:((kn:Int)==6)=false:=by simp;omega
   have b8:((kn:Int)==8)=false:=by simp;omega
   have b10:((kn:Int)==10)=false:=by simp;omega
   clear e6 e3
   go_upto_region 9 with fail
   clear x0 b3 b6 b8 b10;have HS:=zh (show IntKind.i64.wrap (((16*kn:Nat):Int)+(0:Int))=((y.toNat:Nat):Int)by rw[IntWalk.i64_in _ ⟨by omega,by omega⟩];omega);clear hy hF
   go_wp2_with (refine wpList_loadX (by kernel_rfl) rfl rfl HR.out.2 Tryz.underlying29 rfl HZ.out ?_)
   refine(HBY.out _ HR.out.1).mono ?_;rintro e w1 ⟨u,rfl,ho,hk⟩;obtain⟨A1,c1,rfl,_,_⟩:=own_slice ho;have HB:=zh (RbAt.new (Keeps.refl _ []) ho hk);clear ho hk
   go_wp2_with fail
   refine(HN.out _).mono ?_;rintro e w2 ⟨u,rfl,ho,hk⟩;obtain⟨A2,c2,rfl,_,_⟩:=own_slice ho;have HU:=zh (own_base ho HB.out.k.size);replace HB:=zh (HB.out.then_ hk);clear ho hk HN
   go_upto_region 11 with fail
   refine wp_region_lit ?_;refine wpList_val (.pointer (some ⟨w.heap.size,0,none⟩)) rfl (by kernel_rfl) ?_;refine wpList_loadc 22 (.tmp 34) ⟨w.heap.size,0,none⟩ (.int .i64 (kn:Int)) rfl rfl (by kernel_rfl) (fun _=>by kernel_rfl) (((HR.out.2.keeps HB.out.k).cell 0).trans HX0.out) ?_;refine wpList_val (.int .i64 ((16*kn:Nat):Int)) rfl ((show _=Result.ok (Next.value (.int .i64 (IntKind.i64.wrap (16*(kn:Int))))) _ by kernel_rfl).trans (by rw[HS1.out.1])) ?_;refine wpList_val (.int .i64 (0:Int)) rfl (by kernel_rfl) ?_;refine wpList_val (.int .i64 ((y.toNat:Nat):Int)) rfl ((show _=Result.ok (Next.value (.int .i64 (IntKind.i64.wrap (((16*kn:Nat):Int)+(0:Int))))) _ by kernel_rfl).trans (by rw[HS.out])) ?_;refine wpList_val (.int .u8 ((y.toNat:Nat):Int)) rfl ((show _=Result.ok (Next.value (.int .u8 (IntKind.u8.wrap ((y.toNat:Nat):Int)))) _ by kernel_rfl).trans (by rw[HS1.out.2])) ?_;simp only[Act.put,zsa,zsc,zsz];have hW:Keeps w2 w2 []:=Keeps.refl _ _;obtain⟨Wb,hWb⟩:∃Wb,w2.alloc (.cells #[.int .u8 (y.toNat:Nat)] 5)=Wb:=⟨_,rfl⟩;have kb:Keeps w2 Wb []:=hW.then_ (by rw[←hWb];exact Keeps.alloc _ _);have rb:Owned Wb W0.heap.size (.slice (some ⟨w2.heap.size,0,none⟩) 1 1) [y]:=by rw[←hWb];exact own_base (raw_one w2 y) (HB.out.k.then_ hW).size
   have HA:=zh (And.intro (HB.out.then_ kb) (And.intro (own_keep HU.out kb (by simp)) (And.intro rb (show(∀g,(Value.slice A1 B.length c1).ownBlock=some g→g < w2.heap.size)∧W0.heap.size≤w2.heap.size from⟨fun g hg=>(owned_lt HB.out.own g hg).2,(HB.out.k.then_ hW).size⟩))));clear kb rb HB HU hW
   go_wp2_with (at_builtin;refine Hid.out ?_)
   refine zh ?_;refine wpList_append_bytes _ rfl (.tmp 40) (.tmp 41) rfl W0.heap.size (.slice (some ⟨w2.heap.size,0,none⟩) 1 1) (.slice A2 N.length c2) [y] N rfl rfl HA.out.2.2.1 (Owned.bytes HA.out.2.1 (by have:=HNL.out;omega)) (by have:=HNL.out;simp;omega) HA.out.1.k.size ?_;intro A6 c6 w6 l6 E6 hl6 ho6 hk6 hb6;have HB6:=zh (And.intro ho6 (And.intro (own_keep HA.out.1.own hk6 (fun g hg hm=>by have h1:=HA.out.2.2.2.1 g hg;simp[Value.ownBlock]at hm;omega)) (HA.out.1.k.trans hk6 (fun y hy hlt=>by have:=HA.out.1.k.size;have h2:=HA.out.2.2.2;simp[Value.ownBlock]at hy;omega))));have hbs6:W0.heap.size≤w6.heap.size:=HB6.out.2.2.size;clear ho6 hk6 hb6 hWb HA;simp only[Act.put,zsa,zsc,zsz];refine wpList_val (.slice A1 B.length c1) rfl (by kernel_rfl) ?_;simp only[Act.put,zsa,zsc,zsz];refine wpList_append_bytes _ rfl (.tmp 42) (.tmp 43) rfl W0.heap.size (.slice A6 l6.length c6) (.slice A1 B.length c1) l6 B rfl rfl HB6.out.1 (Owned.bytes HB6.out.2.1 (by have:=HLB.out;omega)) (by have:=HNL.out;have:=HLB.out;simp at hl6;omega) hbs6 ?_;intro A7 c7 w7 l7 E7 hl7 ho7 hk7 hb7;have HK7:=zh (HB6.out.2.2.trans hk7 (fun y hy hlt=>by have:=(owned_lt HB6.out.1 y (by simpa using hy)).1;omega));have HO7:=zh (show Owned w7 W0.heap.size (.slice A7 l7.length c7) (pkRaw p)by rw[HM.out,HY.out,show y::(N++B)= [y]++N++B by simp,←E6.out,←E7.out];exact ho7);clear ho7 hk7 hb7 hbs6 E6 E7 hl6 hl7;simp only[Act.put,zsa,zsc,zsz]
   go_wp2_with fail
   go_ret;exact⟨_,rfl,own_base HO7.out HR.out.1.size,HR.out.1.then_ HK7.out⟩
end Go.Proofs.YtahbikfbjenfpaaGreatDoor
