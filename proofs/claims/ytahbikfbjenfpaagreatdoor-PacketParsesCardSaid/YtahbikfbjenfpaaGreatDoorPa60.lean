/- The reference of packets: body, of the kinds that have an ID and no topic. The reference of packets: body and Raw, of a packet that may be. -/
import Derived.Test.YtahbikfbjenfpaaGreatDoorPa47
import Derived.Test.YtahbikfbjenfpaaGreatDoorPa58
import Derived.Test.YtahbikfbjenfpaaGreatDoorPa29
import Derived.Test.YtahbikfbjenfpaaGreatDoorPa50
import Derived.Test.YtahbikfbjenfpaaGreatDoorPa52
set_option maxHeartbeats 4000000
set_option maxRecDepth 100000
namespace Go.Proofs.YtahbikfbjenfpaaGreatDoor
open Tryz Go.RowKit Go.Shelf

theorem sH {α β:Type}(l:List α)(f:α->List β)(M:Nat)(h:∀x∈l,(f x).length<=M):(l.flatMap f).length<=l.length*M:=by
 induction l with
 | nil=>simp
 | cons a l ih=>
  rw[kA,bI,du,Nat.succ_mul];have h1:=h a (by simp);have h2:=ih (λx hx=>h x (by simp[hx]));omega
theorem DE (p:Pk)(X:Array Value)(A1 A2 A3:Option Addr)(c1 c2 c3:Nat)(w:au)(hX:jA p X (.slice A1 p.wants.length c1) (.slice A2 p.aF.length c2) (.slice A3 p.fs.length c3))(hl:fR w p (.slice A1 p.wants.length c1) (.slice A2 p.aF.length c2) (.slice A3 p.fs.length c3))(h:p.k=4\/p.k=5\/p.k=6\/p.k=7\/p.k=8\/p.k=9\/p.k=10\/p.k=11)(hi:0<=p.id/\p.id<=65535)(ht:Ip p)(PV:∀c∈p.aF,0<=c/\c<=255)(SY:∀x∈p.wants,0<=x.2/\x.2<=255)(Fz:p.wants.length<=8/\p.aF.length<=8/\p.fs.length<=8):
  Calls prog 35 #[.agg X] w λe w' =>∃v,e= .returned v/\aS w' w.heap.size v (bA p.id++((p.wants.flatMap λw=>aO w.1++aX w.2.toNat)++((p.aF.flatMap λc=>aX c.toNat)++p.fs.flatMap aO)))/\ae w w' []:=by
 have HX:=zh hX;have HW:=zh (λw=>tw w p.id hi.1 hi.2);have HS:=zh Fz;have HT:=zh ht;have VY:=zh PV;have HQ:=zh SY;have wF:=zh (show(bA p.id).length=2 by simp[bA,aP]);obtain⟨W0,aV⟩:∃W0,w.alloc (.cells X 29)=W0:=⟨_,rfl⟩;have HR:=zh (show ae w W0 []/\Row W0 w.heap.size 29 X from by
  rw[<-aV];exact⟨ae.alloc _ _,Row.new _ _ _⟩)
 have HL:=zh (hl.keeps HR.o.1);have c0:=hX.c0;obtain⟨k,hk⟩:∃k,p.k=k:=⟨_,rfl⟩;rw[hk]at c0 h;have x0:=(HR.o.2.cell 0).trans c0;have x6:=(HR.o.2.cell 6).trans HX.o.c6;clear hX hl hi Fz c0 hk ht PV SY
 go_enter func35,ntmps35
 go_upto_region 1 with fail
 try rw[aV]
 clear aV;have hb1:(k==1)=false:=by simp;omega
 have hb2:(k==2)=false:=by simp;omega
 have Dv:(k==3)=false:=by simp;omega
 have Ri:(k==12)=false:=by simp;omega
 have Rh:(k==13)=false:=by simp;omega
 have Rg:(k==14)=false:=by simp;omega
 clear h
 go_wp2_with fail
 clear hb1 hb2 Dv Ri Rh Rg x0 x6;refine(HW.o _).mono ?_;rintro e w' ⟨v,rfl,ho,hk⟩;have HB:=zh (iF.new (ae.refl W0 []) ho hk);clear ho hk
 go_wp2_with fail
 go_loopw [3,5] (λv i wr=>∃j:Nat,j<=p.wants.length/\i= .int .i64 j/\Hid (iF W0 wr v (bA p.id++(p.wants.take j).flatMap λw=>aO w.1++aX w.2.toNat))) (λ_ i _=>p.wants.length - (intOf i).toNat)
 case atStart=>exact⟨0,by omega,rfl,zh (by simpa using HB.o)⟩
 case round=>
  obtain⟨j,hj,rfl,gH⟩:=hrel;have ju:=((HR.o.2.keeps gH.o.k).cell 21).trans HX.o.IZ;have hlen:p.wants.length<=8:=HS.o.1
  by_cases hjl:j < p.wants.length
  ·have Ot:(j:Int) < (p.wants.length:Int):=by omega
   obtain⟨b1,o1,cs1,rfl,hr1,hc1⟩:=HL.o.wants (by omega);have Iw:=zh (HT.o.w _ (fS hjl));have O4:=zh (show(p.wants.take (j+1)).flatMap (λw=>aO w.1++aX w.2.toNat)=(p.wants.take j).flatMap (λw=>aO w.1++aX w.2.toNat)++(aO p.wants[j].1++aX p.wants[j].2.toNat)by rw[hO hjl,zW];simp);have Fx:=HQ.o _ (fS hjl);have HM:=zh (show∀W,ae W0 W []->W.cell? ⟨b1,o1+j*2,none⟩=some (.string ⟨p.wants[j].1.toArray⟩)/\W.cell? ⟨b1,o1+j*2+1,none⟩=some (.int .i64 p.wants[j].2)from λW hW=>⟨((hr1.keeps hW).cell (o1+j*2+0)).trans (hc1 j hjl 0 (by omega)),((hr1.keeps hW).cell (o1+j*2+1)).trans (hc1 j hjl 1 (by omega))⟩);have Pe:=zh (show∀W,ae W0 W []->W.cell? ⟨w.heap.size,21,none⟩=some (.slice (some ⟨b1,o1,none⟩) p.wants.length c1)from λW hW=>((HR.o.2.keeps hW).cell 21).trans HX.o.IZ)
   generalize p.wants[j]=wt at*
   obtain⟨s,q⟩:=wt;obtain⟨y,rfl⟩:∃y:UInt8,q=((y.toNat:Nat):Int):=⟨UInt8.ofNat q.toNat,by simp;omega⟩;have Uo:IntKind.u8.wrap ((y.toNat:Nat):Int)=((y.toNat:Nat):Int):=IntWalk.u8_in _ Fx;have HY:=zh (show aX (Int.toNat ((y.toNat:Nat):Int))= [y]by simp[aX,dZ]);have yq:=zh (λw=>gD w s (by have h:s.length<=60000:=Iw.o;omega));have nA:=zh (show(aO s).length<=60002 by have h:s.length<=60000:=Iw.o;simp[aO,aP];omega);obtain⟨L,hL⟩:∃L,(bA p.id++(p.wants.take j).flatMap λw=>aO w.1++aX w.2.toNat)=L:=⟨_,rfl⟩;rw[hL]at gH;have og:=zh (show 2<=L.length/\L.length<=1000000000 by
    have h1:=sH (p.wants.take j) (λw=>aO w.1++aX w.2.toNat) 60003 (λx hx=>by have:=HT.o.w x (List.mem_of_mem_take hx);simp[aO,aX,aP];omega);have h2:=HS.o.1;rw[dq]at h1;rw[<-hL,bI,wF.o];omega)
   have Pv:=zh hL;clear hc1 hr1 hL Fx
   go_upto_region 29 with fail
   clear ju;have LH:jL [⟨0, [], [8,17,18], [0,1,2,3,4,5,6,7,8], [0,1,2,3,4,5,6,7,8]⟩,⟨0, [0,1,2,3,4,5,6,7,8], [17,18], [8,17], [0,1,2,3,4,5,6,7,8,9,10,11,12,13,14,15,16,17]⟩,⟨0, [0,1,2,3,4,5,6,7,8,9,10,11,12,13,14,15,16,17], [], [17], []⟩] (Im W0) (λ_=>ax):= .all (by first | exact dU.ok _ | exact Im.ok _) pz;refine iQ [⟨0, [], [8,17,18], [0,1,2,3,4,5,6,7,8], [0,1,2,3,4,5,6,7,8]⟩,⟨0, [0,1,2,3,4,5,6,7,8], [17,18], [8,17], [0,1,2,3,4,5,6,7,8,9,10,11,12,13,14,15,16,17]⟩,⟨0, [0,1,2,3,4,5,6,7,8,9,10,11,12,13,14,15,16,17], [], [17], []⟩] (Im W0) (λ_=>ax) _ 18 LH (by kernel_rfl) rfl (by kernel_rfl) ?_;simp only[dc,dg,dF,dK];apply aY 0 _ rfl
   ·intro W vals hW ag
    clear ag;have hC:=hW.c;refine⟨?_⟩;simp only[fill];go_simp
    first | exact⟨LH.bp (ae.refl _ _),rfl⟩ | exact⟨LH.bp (ae.alloc _ _),rfl⟩
   simp only[af];apply aY 1 _ rfl
   ·intro W vals hW ag
    clear ag;have hC:=hW.c;refine⟨?_⟩;simp only[fill];go_simp
    first | exact⟨LH.bp (ae.refl _ _),rfl⟩ | exact⟨LH.bp (ae.alloc _ _),rfl⟩
   simp only[af];apply aY 2 _ rfl
   ·intro W vals hW ag
    have hC:=hW.c;simp only[cy]at ag
    try simp only[ai]at ag
    have m:=Pe.o W (hC.old gH.o.k);clear ag;refine⟨?_⟩;simp only[fill];go_simp
    first | exact⟨LH.bp (ae.refl _ _),rfl⟩ | exact⟨LH.bp (ae.alloc _ _),rfl⟩
   simp only[af];apply aY 3 _ rfl
   ·intro W vals hW ag
    clear ag;have hC:=hW.c;refine⟨?_⟩;simp only[fill];go_simp
    first | exact⟨LH.bp (ae.refl _ _),rfl⟩ | exact⟨LH.bp (ae.alloc _ _),rfl⟩
   simp only[af];apply aY 4 _ rfl
   ·intro W vals hW ag
    clear ag;have hC:=hW.c;refine⟨?_⟩;simp only[fill];go_simp
    first | exact⟨LH.bp (ae.refl _ _),rfl⟩ | exact⟨LH.bp (ae.alloc _ _),rfl⟩
   simp only[af];apply aY 5 _ rfl
   ·intro W vals hW ag
    clear ag;have hC:=hW.c;refine⟨?_⟩;simp only[fill];go_simp
    first | exact⟨LH.bp (ae.refl _ _),rfl⟩ | exact⟨LH.bp (ae.alloc _ _),rfl⟩
   simp only[af];apply aY 6 _ rfl
   ·intro W vals hW ag
    have hC:=hW.c;simp only[cy]at ag
    try simp only[ai]at ag
    have m:=(HM.o W (hC.old gH.o.k)).1;clear ag;refine⟨?_⟩;simp only[fill];go_simp
    first | exact⟨LH.bp (ae.refl _ _),rfl⟩ | exact⟨LH.bp (ae.alloc _ _),rfl⟩
   simp only[af];refine db 7 (λu W' =>aS W' W0.heap.size u (aO s)) rfl (λW vals hW ag φ' hφ=> ?_) ?_
   ·have hC:=hW.c
    simp only[cy]at ag
    try simp only[ai]at ag
    have hz:=(hC.old gH.o.k).size;clear ag;refine⟨?_⟩;simp only[fill];go_simp;exact fZ LH hφ ((yq.o W).mono (by rintro e w2 ⟨u,rfl,ho,hk⟩;exact⟨u,rfl,hk,bR ho hz⟩))
   simp only[af];have HK:=zh gH.o.k;refine db 8 (λv W' =>aS W' W0.heap.size v (L++aO s)) rfl (λW vals hW ag φ' hφ=> ?_) ?_
   ·have hC:=hW.c
    simp only[cy]at ag
    try simp only[ai]at ag
    obtain⟨Wb,_,b1,hb⟩:=ag (by decide);have ha:=aM gH.o.own (hW.at_ ⟨0, [], [8,17,18], [0,1,2,3,4,5,6,7,8], [0,1,2,3,4,5,6,7,8]⟩) (by simp);replace hb:=aM hb (b1.at_ ⟨0, [], [8,17,18], [0,1,2,3,4,5,6,7,8], [0,1,2,3,4,5,6,7,8]⟩) (by simp);refine eC rfl (.tmp 120) (.tmp 127) rfl W0.heap.size (u3) (vals 127) (L) (aO s) (by kernel_rfl) (by kernel_rfl) ha (aS.bytes hb (by(have:=nA.o;have:=og.o;omega))) (by(have:=nA.o;have:=og.o;omega)) (by have:=hC.old HK.o;exact this.size) (λA c w' l e ho hk=> ?_);subst e;exact⟨.off (Im.app ha (by(have:=og.o;omega)) hk),hφ.o _ _ ho⟩
   simp only[af];apply aY 9 _ rfl
   ·intro W vals hW ag
    clear ag;have hC:=hW.c;refine⟨?_⟩;simp only[fill];go_simp
    first | exact⟨LH.bp (ae.refl _ _),rfl⟩ | exact⟨LH.bp (ae.alloc _ _),rfl⟩
   simp only[af];apply aY 10 _ rfl
   ·intro W vals hW ag
    have hC:=hW.c;simp only[cy]at ag
    try simp only[ai]at ag
    have m:=Pe.o W (hC.old gH.o.k);clear ag;refine⟨?_⟩;simp only[fill];go_simp
    first | exact⟨LH.bp (ae.refl _ _),rfl⟩ | exact⟨LH.bp (ae.alloc _ _),rfl⟩
   simp only[af];apply aY 11 _ rfl
   ·intro W vals hW ag
    clear ag;have hC:=hW.c;refine⟨?_⟩;simp only[fill];go_simp
    first | exact⟨LH.bp (ae.refl _ _),rfl⟩ | exact⟨LH.bp (ae.alloc _ _),rfl⟩
   simp only[af];apply aY 12 _ rfl
   ·intro W vals hW ag
    clear ag;have hC:=hW.c;refine⟨?_⟩;simp only[fill];go_simp
    first | exact⟨LH.bp (ae.refl _ _),rfl⟩ | exact⟨LH.bp (ae.alloc _ _),rfl⟩
   simp only[af];apply aY 13 _ rfl
   ·intro W vals hW ag
    clear ag;have hC:=hW.c;refine⟨?_⟩;simp only[fill];go_simp
    first | exact⟨LH.bp (ae.refl _ _),rfl⟩ | exact⟨LH.bp (ae.alloc _ _),rfl⟩
   simp only[af];apply aY 14 _ rfl
   ·intro W vals hW ag
    have hC:=hW.c;simp only[cy]at ag
    try simp only[ai]at ag
    have m:=(HM.o W (hC.old gH.o.k)).2;clear ag;refine⟨?_⟩;simp only[fill];go_simp
    first | exact⟨LH.bp (ae.refl _ _),rfl⟩ | exact⟨LH.bp (ae.alloc _ _),rfl⟩
   simp only[af];apply aY 15 _ rfl
   ·intro W vals hW ag
    clear ag;have hC:=hW.c;refine⟨?_⟩;simp only[fill];go_simp
    first | exact⟨LH.bp (ae.refl _ _),rfl⟩ | exact⟨LH.bp (ae.alloc _ _),rfl⟩
   simp only[af];refine db 16 (λv W' =>∃b',v= .slice (some ⟨b',0,none⟩) 1 1/\Row W' b' 5 #[.int .u8 (y.toNat:Nat)]/\W0.heap.size<=b') rfl (λW vals hW ag φ' hφ=> ?_) ?_
   ·have hC:=hW.c
    simp only[cy]at ag
    try simp only[ai]at ag
    have hz:=(hC.old gH.o.k).size;clear ag;refine⟨?_⟩;simp only[fill];go_simp;exact⟨LH.bp (ae.alloc _ _),hφ.o _ _ ⟨_,rfl,Row.new _ _ _,hz⟩⟩
   simp only[af];refine db 17 (λv W' =>aS W' W0.heap.size v (L++aO s++ [y])) rfl (λW vals hW ag φ' hφ=> ?_) ?_
   ·have hC:=hW.c
    simp only[cy]at ag
    try simp only[ai]at ag
    obtain⟨RD,h128,_⟩:=ag;obtain⟨Wa,_,a1,ha⟩:=h128 (by decide);obtain⟨Wb,_,b1,b',hv',hr',hz'⟩:=RD (by decide);replace ha:=aM ha (a1.at_ ⟨0, [0,1,2,3,4,5,6,7,8], [17,18], [8,17], [0,1,2,3,4,5,6,7,8,9,10,11,12,13,14,15,16,17]⟩) (by simp);have hb:aS W W0.heap.size (vals 136) [y]:=by rw[hv'];exact⟨rfl,.inr ⟨b',1,_,rfl,hz',b1.c.one _ _ _ hr',bE _,by simp[maxLen],rfl,by simp[bq]⟩⟩
    refine eC rfl (.tmp 128) (.tmp 136) rfl W0.heap.size (vals 128) (vals 136) (L++aO s) ([y]) (by kernel_rfl) (by kernel_rfl) ha (aS.bytes hb (by(have:=nA.o;have:=og.o;have h1:([y]:aG).length=1:=rfl;(try rw[bI]);omega))) (by(have:=nA.o;have:=og.o;have h1:([y]:aG).length=1:=rfl;(try rw[bI]);omega)) (by have:=hC.old HK.o;exact this.size) (λA c w' l e ho hk=> ?_);subst e;exact⟨.off (Im.app ha (by(have:=og.o;rw[bI];omega)) hk),hφ.o _ _ ho⟩
   simp only[af];refine lz (λW9 vals hW ag=> ?_);simp only[fE]at ag
   try simp only[ai]at ag
   simp only[fill,Act.put,bo,bn,bh];obtain⟨⟨Wa,_,a1,h8⟩,-⟩:=ag;have h8:=aM h8 (a1.at_ ⟨0, [0,1,2,3,4,5,6,7,8,9,10,11,12,13,14,15,16,17], [], [17], []⟩) (by simp);have D1:=zh (show iF W0 W9 (vals 137) (bA p.id++(p.wants.take (j+1)).flatMap λw=>aO w.1++aX w.2.toNat)from⟨by rw[O4.o,<-eK,Pv.o,show aO (s,((y.toNat:Nat):Int)).1++aX (s,((y.toNat:Nat):Int)).2.toNat=aO s++ [y]from ek _ HY.o,<-eK];exact h8,hW.old HK.o⟩);obtain⟨v,hv⟩:∃v,vals 137=v:=⟨_,rfl⟩;rw[hv]at D1 ⊢
   clear h8 a1 hW hv LH Uo
   go_wp2_with fail
   exact⟨⟨j+1,by omega,by go_num,D1⟩,by simp[intOf];omega⟩
  ·obtain rfl:j=p.wants.length:=by omega
   have wG:=zh (show iF W0 wr _ (bA p.id++p.wants.flatMap λw=>aO w.1++aX w.2.toNat)by have:=gH.o;rwa [eQ]at this);clear gH HB
   go_wp2_with fail
   obtain⟨L2,wH⟩:∃L,(bA p.id++p.wants.flatMap λw=>aO w.1++aX w.2.toNat)=L:=⟨_,rfl⟩;rw[wH]at wG;have Ph:=zh (show L2.length<=1000000000 by
    have h1:=sH p.wants (λw=>aO w.1++aX w.2.toNat) 60003 (λx hx=>by have:=HT.o.w x hx;simp[aO,aX,aP];omega);have h2:=HS.o.1;rw[<-wH,bI,wF.o];omega)
   have F5:=zh wH;clear wH hjl hlen ju hj
   go_loopw [3,6] (λv i ws=>∃j:Nat,j<=p.aF.length/\i= .int .i64 j/\Hid (iF W0 ws v (L2++(p.aF.take j).flatMap λc=>aX c.toNat))) (λ_ i _=>p.aF.length - (intOf i).toNat)
   case atStart=>exact⟨0,by omega,rfl,zh (by simpa using wG.o)⟩
   case round=>
    obtain⟨j,hj,rfl,gH⟩:=hrel;have mr:=((HR.o.2.keeps gH.o.k).cell 22).trans HX.o.KQ;have hlen:p.aF.length<=8:=HS.o.2.1
    by_cases hjl:j < p.aF.length
    ·have Ot:(j:Int) < (p.aF.length:Int):=by omega
     obtain⟨b1,o1,cs1,rfl,hr1,hc1⟩:=HL.o.aF (by omega);have p7:=VY.o _ (fS hjl);have M1:=((hr1.keeps gH.o.k).cell (o1+j*1+0)).trans (hc1 j hjl 0 (by omega));simp only[jJ,bU,iO,fj]at M1;have O4:=zh (show(p.aF.take (j+1)).flatMap (λc=>aX c.toNat)=(p.aF.take j).flatMap (λc=>aX c.toNat)++aX p.aF[j].toNat by rw[hO hjl,zW];simp)
     generalize p.aF[j]=cd at*
     obtain⟨y,rfl⟩:∃y:UInt8,cd=((y.toNat:Nat):Int):=⟨UInt8.ofNat cd.toNat,by simp;omega⟩;have HY:=zh (show aX (Int.toNat ((y.toNat:Nat):Int))= [y]by simp[aX,dZ]);have hw:IntKind.u8.wrap ((y.toNat:Nat):Int)=((y.toNat:Nat):Int):=IntWalk.u8_in _ p7;obtain⟨L,hL⟩:∃L,(L2++(p.aF.take j).flatMap λc=>aX c.toNat)=L:=⟨_,rfl⟩;rw[hL]at gH;have og:=zh (show L.length<=1000001000 by
      have h1:=sH (p.aF.take j) (λc=>aX c.toNat) 1 (λx _=>by simp[aX,aP]);have h2:=Ph.o;rw[dq]at h1;rw[<-hL,bI];omega)
     have Pv:=zh hL;obtain⟨Wb,fg⟩:∃Wb,wr.alloc (.cells #[.int .u8 (y.toNat:Nat)] 5)=Wb:=⟨_,rfl⟩;have hkb:ae wr Wb []:=by rw[<-fg];exact ae.alloc _ _
     have rb:=sK wr y;rw[fg]at rb;have Ew:=zh (And.intro (gH.o.ah hkb) rb);have hbs:=Ew.o.1.k.size;clear hkb rb p7 hc1 hr1 hL
     go_wp2_with (at_builtin;refine Hid.o ?_)
     try rw[fg]
     refine zh ?_;refine aI _ rfl (.tmp 145) (.tmp 152) rfl W0.heap.size _ (.slice (some ⟨wr.heap.size,0,none⟩) 1 1) L [y] rfl rfl Ew.o.1.own Ew.o.2 (by have:=og.o;simp;omega) hbs ?_;intro A5 c5 w5 l5 E5 Ei nz iH LW;have D1:=zh (show iF W0 w5 (.slice A5 l5.length c5) (L2++(p.aF.take (j+1)).flatMap λc=>aX c.toNat)by
      have h:=Ew.o.1.app nz iH;rw[O4.o,HY.o,<-eK,Pv.o,<-E5.o];exact h)
     clear nz iH LW Ei E5 hbs fg;simp only[Act.put,bo,bn,bh]
     go_wp2_with fail
     exact⟨⟨j+1,by omega,by go_num,D1⟩,by simp[intOf];omega⟩
    ·obtain rfl:j=p.aF.length:=by omega
     obtain⟨L3,Cc⟩:∃L,(L2++p.aF.flatMap λc=>aX c.toNat)=L:=⟨_,rfl⟩;have FR:=zh (show iF W0 wr _ L3 by have:=gH.o;rwa [eQ,Cc]at this);have R8:=zh (show L3.length<=1000010000 by
      have h1:=sH p.aF (λc=>aX c.toNat) 1 (λx _=>by simp[aX,aP]);have h2:=Ph.o;rw[<-Cc,bI];omega)
     have VW:=zh Cc;clear Cc hjl hlen gH hj
     go_wp2_with fail
     clear mr
     go_loopw [3,7] (λv i ws=>∃j:Nat,j<=p.fs.length/\i= .int .i64 j/\Hid (iF W0 ws v (L3++(p.fs.take j).flatMap aO))) (λ_ i _=>p.fs.length - (intOf i).toNat)
     case atStart=>exact⟨0,by omega,rfl,zh (by simpa using FR.o)⟩
     case round=>
      obtain⟨j,hj,rfl,gH⟩:=hrel;have mJ:=((HR.o.2.keeps gH.o.k).cell 23).trans HX.o.KO;have hlen:p.fs.length<=8:=HS.o.2.2
      by_cases hjl:j < p.fs.length
      ·have Ot:(j:Int) < (p.fs.length:Int):=by omega
       obtain⟨b1,o1,cs1,rfl,hr1,hc1⟩:=HL.o.fs (by omega);have Iw:=zh (HT.o.f _ (fS hjl));have M1:=((hr1.keeps gH.o.k).cell (o1+j*1+0)).trans (hc1 j hjl 0 (by omega));simp only[fC,bU,iO,fj]at M1;have O4:=zh (show(p.fs.take (j+1)).flatMap aO=(p.fs.take j).flatMap aO++aO p.fs[j]by rw[hO hjl,zW];simp)
       generalize p.fs[j]=s at*
       have yq:=zh (λw=>gD w s (by have:=Iw.o;omega));have nA:=zh (show(aO s).length<=60002 by have:=Iw.o;simp[aO,aP];omega);obtain⟨L,hL⟩:∃L,(L3++(p.fs.take j).flatMap aO)=L:=⟨_,rfl⟩;rw[hL]at gH;have og:=zh (show L.length<=1001000000 by
        have h1:=sH (p.fs.take j) aO 60002 (λx hx=>by have:=HT.o.f x (List.mem_of_mem_take hx);simp[aO,aP];omega);have h2:=R8.o;rw[dq]at h1;rw[<-hL,bI];omega)
       have Pv:=zh hL;clear hc1 hr1 hL
       go_wp2_with fail
       refine(yq.o _).mono ?_;rintro e w4 ⟨u,rfl,S4,hk4⟩;have Kq:=zh (gH.o.ah hk4);have HU:=zh (aS.bytes S4 (by have:=nA.o;omega));have hbs:=Kq.o.k.size;clear S4 hk4
       go_wp2_with (at_builtin;refine Hid.o ?_)
       refine zh ?_;refine aI _ rfl (.tmp 161) (.tmp 167) rfl W0.heap.size _ u L (aO s) rfl rfl Kq.o.own HU.o (by have:=og.o;have:=nA.o;omega) hbs ?_;intro A5 c5 w5 l5 E5 Ei nz iH LW;have D1:=zh (show iF W0 w5 (.slice A5 l5.length c5) (L3++(p.fs.take (j+1)).flatMap aO)by
        have h:=Kq.o.app nz iH;rw[O4.o,<-eK,Pv.o,<-E5.o];exact h)
       clear nz iH LW Ei E5 hbs;simp only[Act.put,bo,bn,bh]
       go_wp2_with fail
       exact⟨⟨j+1,by omega,by go_num,D1⟩,by simp[intOf];omega⟩
      ·obtain rfl:j=p.fs.length:=by omega
       go_wp2_with fail
       go_ret;refine⟨_,rfl, ?_,HR.o.1.ah gH.o.k⟩;have h:=gH.o.own;rw[eQ,<-VW.o,<-F5.o,eK,eK]at h;exact bR h HR.o.1.size

theorem pO {p:Pk}(h:aL p=p)(hk:p.k≠8):p.wants= []:=by
 have e:(aL p).wants= []:=by unfold aL;(repeat' split) <;> first | rfl | (exfalso;omega)
 rwa [h]at e
theorem pP {p:Pk}(h:aL p=p)(hk:p.k≠9):p.aF= []:=by
 have e:(aL p).aF= []:=by unfold aL;(repeat' split) <;> first | rfl | (exfalso;omega)
 rwa [h]at e
theorem wA {p:Pk}(h:aL p=p)(hk:p.k≠10):p.fs= []:=by
 have e:(aL p).fs= []:=by unfold aL;(repeat' split) <;> first | rfl | (exfalso;omega)
 rwa [h]at e
theorem BK {p:Pk}(h:aL p=p)(hk:p.k≠1)(hk3:p.k≠3):p.t= []/\p.c= []/\p.wt= []/\p.u= []:=by
 have e:(aL p).t= []/\(aL p).c= []/\(aL p).wt= []/\(aL p).u= []:=by unfold aL;(repeat' split) <;> first | exact⟨rfl,rfl,rfl,rfl⟩ | (exfalso;omega)
 rwa [h]at e
theorem qd (p:Pk)(X:Array Value)(sw sc sf:Value)(w:au)(hX:jA p X sw sc sf)(hl:fR w p sw sc sf)(h3:aL p=p)(h:p.k=4\/p.k=5\/p.k=6\/p.k=7\/p.k=8\/p.k=9\/p.k=10\/p.k=11)
  (hi:0<=p.id/\p.id<=65535) (hw:∀x∈p.wants,x.1.length<=200/\0<=x.2/\x.2<=2) (hf:∀x∈p.fs,x.length<=200) (PV:∀c∈p.aF,0<=c/\c<=255) (Fz:p.wants.length<=8/\p.aF.length<=8/\p.fs.length<=8)
  (he:bA p.id++((p.wants.flatMap λw=>aO w.1++aX w.2.toNat)++((p.aF.flatMap λc=>aX c.toNat)++p.fs.flatMap aO))=bg p):
  Calls prog 35 #[.agg X] w λe w' =>∃v,e= .returned v/\aS w' w.heap.size v (bg p)/\ae w w' []:=by
 obtain⟨t1,t2,t3,t4⟩:=BK h3 (by omega) (by omega);obtain⟨A1,c1,A2,c2,A3,c3,rfl,rfl,rfl⟩:=hl.slices;rw[<-he];exact DE p X A1 A2 A3 c1 c2 c3 w hX hl h hi ⟨by rw[t1];simp,by rw[t2];simp,by rw[t3];simp,by rw[t4];simp,λx hx=>by have:=hw x hx;omega,λx hx=>by have:=hf x hx;omega⟩ PV (λx hx=>by have:=hw x hx;omega) Fz
theorem H8 (p:Pk)(X:Array Value)(sw sc sf:Value)(w:au)(hX:jA p X sw sc sf)(hl:fR w p sw sc sf)(ho:fD p=true):
  Calls prog 35 #[.agg X] w λe w' =>∃v,e= .returned v/\aS w' w.heap.size v (bg p)/\ae w w' []:=by
 obtain⟨h1,h2,h3⟩:=bF ho
 rcases jl h1 with e | e | e | e | e | e | e | e
 ·have f:=nR e h2
  exact DH p X sw sc sf w hX e f.will.2.2 f.keep (by have:=f.c;omega) (by have:=f.will.1;omega) (by have:=f.will.2.1;omega) (by have:=f.u.1;omega) (by have:=f.pw.1;omega)
 ·exact DG p X sw sc sf w hX e (pX e h2)
 ·have f:=jN e h2
  exact DF p X sw sc sf w hX e f.1 f.2.1 f.2.2.1.1 f.2.2.2.1
 ·have f:=nP e h2
  have g1:=pP h3 (by omega);have g2:=wA h3 (by omega);exact qd p X sw sc sf w hX hl h3 (by omega) ⟨by omega,by omega⟩ f.2.2.2 (by rw[g2];simp) (by rw[g1];simp) ⟨f.2.2.1,by rw[g1];simp,by rw[g2];simp⟩ (by rw[uL e,g1,g2];simp)
 ·have f:=nO e h2
  have g1:=pO h3 (by omega);have g2:=wA h3 (by omega);exact qd p X sw sc sf w hX hl h3 (by omega) ⟨by omega,by omega⟩ (by rw[g1];simp) (by rw[g2];simp) f.2.2.2 ⟨by rw[g1];simp,f.2.2.1,by rw[g2];simp⟩ (by rw[uK e,g1,g2];simp)
 ·have f:=lp e h2
  have g1:=pO h3 (by omega);have g2:=pP h3 (by omega);exact qd p X sw sc sf w hX hl h3 (by omega) ⟨by omega,by omega⟩ (by rw[g1];simp) (λx hx=>f.2.2.2 x hx) (by rw[g2];simp) ⟨by rw[g1];simp,by rw[g2];simp,f.2.2.1⟩ (by rw[sm e,g1,g2];simp)
 ·exact BJ p X sw sc sf w hX e
 ·have f:=nQ e h2
  have g1:=pO h3 (by omega);have g2:=pP h3 (by omega);have g3:=wA h3 (by omega);exact qd p X sw sc sf w hX hl h3 (by omega) ⟨by omega,by omega⟩ (by rw[g1];simp) (by rw[g3];simp) (by rw[g2];simp) ⟨by rw[g1];simp,by rw[g2];simp,by rw[g3];simp⟩ (by rw[sj e,g1,g2,g3];simp)
theorem Cr (p:Pk)(X:Array Value)(sw sc sf:Value)(w:au)(hX:jA p X sw sc sf)(hl:fR w p sw sc sf)(ho:fD p=true)(hz:(Tryz.prog.info? 29).map (·.size)=some X.size):
  Calls prog 15 #[.agg X] w λe w' =>∃v,e= .returned v/\aS w' w.heap.size v (gu p)/\ae w w' []:=by
 have HX:=zh hX;have HZ:=zh hz;have HM:=zh (show gu p=jE (16*p.k.toNat+kM p)::(eF (bg p).length++bg p)from rfl);have oI:=zh (qU ho);have Pt:=zh (C8 ho);have I8:=zh (show∀W,ae w W []->Calls prog 35 #[.agg X] W λe w' =>∃v,e= .returned v/\aS w' W.heap.size v (bg p)/\ae W w' []from λW hW=>H8 p X sw sc sf W hX (hl.keeps hW) ho);obtain⟨h1,h2,h3⟩:=bF ho;have hk1:=bW.1 h1;have hq:p.k=3->0<=p.q/\p.q<=2:=λe=>(jN e h2).2.2.1
 obtain⟨W0,aV⟩:∃W0,w.alloc (.cells X 29)=W0:=⟨_,rfl⟩;have HR:=zh (show ae w W0 []/\Row W0 w.heap.size 29 X from by
  rw[<-aV];exact⟨ae.alloc _ _,Row.new _ _ _⟩)
 have x0:=(HR.o.2.cell 0).trans hX.c0;clear hX hl h1 h2 h3 hz ho
 go_enter func15,ntmps15
 go_upto_region 1 with fail
 try rw[aV]
 clear aV;obtain⟨kn,Ds⟩:∃kn:Nat,p.k=(kn:Int):=⟨p.k.toNat,by omega⟩;obtain⟨F,hF⟩:∃F,kM p=F:=⟨_,rfl⟩;obtain⟨N,hN⟩:∃N,eF (bg p).length=N:=⟨_,rfl⟩;have HN:=zh (λw=>yI w (bg p).length (by have:=oI.o;omega));have rq:=zh (show N.length<=8 by rw[<-hN,ed];have:=gP (bg p).length;omega);rw[hN]at HN HM;rw[Ds,hF,fT]at HM;obtain⟨B,hB⟩:∃B,bg p=B:=⟨_,rfl⟩;rw[hB]at HN HM oI I8;rw[hF]at Pt;have WD:=Pt.o;have hkl:kn<=14:=by omega
 obtain⟨y,hy⟩:∃y:UInt8,y.toNat=16*kn+F:=⟨UInt8.ofNat (16*kn+F),by simp;omega⟩;have HY:=zh (show jE (16*kn+F)=y by rw[<-hy];simp[jE]);have OY:=zh (show X[0]? =some (.int .i64 (kn:Int))by rw[<-Ds];exact HX.o.c0);have I5:=zh (show IntKind.i64.wrap (16*(kn:Int))=((16*kn:Nat):Int)/\IntKind.u8.wrap ((y.toNat:Nat):Int)=((y.toNat:Nat):Int)from⟨by rw[IntWalk.i64_in _ ⟨by omega,by omega⟩];omega,IntWalk.u8_in _ ⟨by omega,by have:=y.toNat_lt;omega⟩⟩);rw[Ds]at x0;clear hN hB
 by_cases e3:p.k=3
 ·have b3:((kn:Int)==3)=true:=by simp;omega
  obtain⟨n1,e1,g1⟩:∃n,g_ p.dup 8=n/\n<=8:=⟨_,rfl,bY _ _⟩;obtain⟨n2,e2,g2⟩:∃n,g_ p.ret 1=n/\n<=1:=⟨_,rfl,bY _ _⟩;have Ut:=hq e3;obtain⟨q,eq⟩:∃q:Nat,p.q=(q:Int):=⟨p.q.toNat,by omega⟩;have UK:F=n1+n2+2*q:=by rw[<-hF];unfold kM jq;rw[aE e3,e1,e2,eq,fT]
  have VJ:=zh (show∀W,Calls prog 34 #[.bool p.dup,.int .i64 8] W λe w' =>e= .returned (.int .i64 (n1:Nat))/\ae W w' []from λW=>e1▸fX W p.dup 8);have IG:=zh (show∀W,Calls prog 34 #[.bool p.ret,.int .i64 1] W λe w' =>e= .returned (.int .i64 (n2:Nat))/\ae W w' []from λW=>e2▸fX W p.ret 1);have s1:IntKind.i64.wrap (2*(q:Int))=((2*q:Nat):Int):=by rw[IntWalk.i64_in _ ⟨by omega,by omega⟩];omega
  have s2:IntKind.i64.wrap ((n1:Int)+((2*q:Nat):Int))=((n1+2*q:Nat):Int):=by rw[IntWalk.i64_in _ ⟨by omega,by omega⟩];omega
  have s3:IntKind.i64.wrap (((n1+2*q:Nat):Int)+(n2:Int))=(F:Int):=by rw[IntWalk.i64_in _ ⟨by omega,by omega⟩];omega
  have RS:=zh (And.intro s1 (And.intro s2 s3));have c3:=HX.o.c3;rw[eq]at c3;have VZ:=zh c3
  go_upto_region 4 with fail
  clear x0 b3 e1 e2 g1 g2 Ut eq UK s1 s2 s3 c3 e3;refine aB _ (by kernel_rfl) rfl (by kernel_rfl) ?_;refine lq (.pointer (some ⟨w.heap.size,1,none⟩)) ?_;refine ll 4 (.tmp 11) (⟨w.heap.size,1,none⟩) (.bool p.dup) (λW hW=>((HR.o.2.keeps hW).cell 1).trans HX.o.c1) ?_;refine aT 34 (#[.bool p.dup,.int .i64 8]) (.int .i64 (n1:Nat)) (λ_=>by kernel_rfl) (λ_ _=>by kernel_rfl) (λW hW=>by have hh:=VJ.o W;exact hh) ?_;refine lq (.pointer (some ⟨w.heap.size,3,none⟩)) ?_;refine ll 3 (.tmp 14) (⟨w.heap.size,3,none⟩) (.int .i64 (q:Int)) (λW hW=>((HR.o.2.keeps hW).cell 3).trans VZ.o) ?_;refine aK (.int .i64 ((2*q:Nat):Int)) (λ_=>by kernel_rfl) (λW _=>(show _=Result.ok (Next.value (.int .i64 (IntKind.i64.wrap (2*(q:Int))))) W by kernel_rfl).trans (by rw[RS.o.1])) ?_;refine aK (.int .i64 ((n1+2*q:Nat):Int)) (λ_=>by kernel_rfl) (λW _=>(show _=Result.ok (Next.value (.int .i64 (IntKind.i64.wrap ((n1:Int)+((2*q:Nat):Int))))) W by kernel_rfl).trans (by rw[RS.o.2.1])) ?_;refine lq (.pointer (some ⟨w.heap.size,2,none⟩)) ?_;refine ll 4 (.tmp 18) (⟨w.heap.size,2,none⟩) (.bool p.ret) (λW hW=>((HR.o.2.keeps hW).cell 2).trans HX.o.c2) ?_;refine aT 34 (#[.bool p.ret,.int .i64 1]) (.int .i64 (n2:Nat)) (λ_=>by kernel_rfl) (λ_ _=>by kernel_rfl) (λW hW=>by have hh:=IG.o W;exact hh) ?_;refine aK (.int .i64 (F:Nat)) (λ_=>by kernel_rfl) (λW _=>(show _=Result.ok (Next.value (.int .i64 (IntKind.i64.wrap (((n1+2*q:Nat):Int)+(n2:Int))))) W by kernel_rfl).trans (by rw[RS.o.2.2])) ?_;refine lq (.int .i64 (F:Nat)) ?_;refine aq (λW vals hW ag=> ?_);simp only[af,aw]at ag
  try simp only[ai]at ag
  simp only[af,fill,Act.put,bo,bn,bh];clear ag;replace HR:=zh (show ae w W []/\Row W w.heap.size 29 X from⟨HR.o.1.ah hW,HR.o.2.keeps hW⟩);obtain⟨W1,hW1⟩:∃W1,W1=W:=⟨_,rfl⟩;subst hW1;clear hW
  go_upto_region 9 with fail
  have HS:=zh (show IntKind.i64.wrap (((16*kn:Nat):Int)+((F:Nat):Int))=((y.toNat:Nat):Int)by rw[IntWalk.i64_in _ ⟨by omega,by omega⟩];omega);clear hy hF
  go_wp2_with (refine bf (by kernel_rfl) rfl rfl HR.o.2 underlying29 rfl HZ.o ?_)
  refine(I8.o _ HR.o.1).mono ?_;rintro e w1 ⟨u,rfl,ho,hk⟩;obtain⟨A1,c1,rfl,_,_⟩:=ck ho;have HB:=zh (iF.new (ae.refl _ []) ho hk);clear ho hk
  go_wp2_with fail
  refine(HN.o _).mono ?_;rintro e w2 ⟨u,rfl,ho,hk⟩;obtain⟨A2,c2,rfl,_,_⟩:=ck ho;have HU:=zh (bR ho HB.o.k.size);replace HB:=zh (HB.o.ah hk);clear ho hk HN
  go_upto_region 11 with fail
  refine cV ?_;refine aA (.pointer (some ⟨w.heap.size,0,none⟩)) rfl (by kernel_rfl) ?_;refine bO 22 (.tmp 34) ⟨w.heap.size,0,none⟩ (.int .i64 (kn:Int)) rfl rfl (by kernel_rfl) (λ_=>by kernel_rfl) (((HR.o.2.keeps HB.o.k).cell 0).trans OY.o) ?_;refine aA (.int .i64 ((16*kn:Nat):Int)) rfl ((show _=Result.ok (Next.value (.int .i64 (IntKind.i64.wrap (16*(kn:Int))))) _ by kernel_rfl).trans (by rw[I5.o.1])) ?_;refine aA (.int .i64 ((F:Nat):Int)) rfl (by kernel_rfl) ?_;refine aA (.int .i64 ((y.toNat:Nat):Int)) rfl ((show _=Result.ok (Next.value (.int .i64 (IntKind.i64.wrap (((16*kn:Nat):Int)+((F:Nat):Int))))) _ by kernel_rfl).trans (by rw[HS.o])) ?_;refine aA (.int .u8 ((y.toNat:Nat):Int)) rfl ((show _=Result.ok (Next.value (.int .u8 (IntKind.u8.wrap ((y.toNat:Nat):Int)))) _ by kernel_rfl).trans (by rw[I5.o.2])) ?_;simp only[Act.put,bo,bn,bh];have hW:ae w2 w2 []:=ae.refl _ _;obtain⟨Wb,fg⟩:∃Wb,w2.alloc (.cells #[.int .u8 (y.toNat:Nat)] 5)=Wb:=⟨_,rfl⟩;have kb:ae w2 Wb []:=hW.ah (by rw[<-fg];exact ae.alloc _ _);have rb:aS Wb W1.heap.size (.slice (some ⟨w2.heap.size,0,none⟩) 1 1) [y]:=by rw[<-fg];exact bR (kJ w2 y) (HB.o.k.ah hW).size
  have HA:=zh (And.intro (HB.o.ah kb) (And.intro (aM HU.o kb (by simp)) (And.intro rb (show(∀g,(Value.slice A1 B.length c1).ownBlock=some g->g < w2.heap.size)/\W1.heap.size<=w2.heap.size from⟨λg hg=>(dM HB.o.own g hg).2,(HB.o.k.ah hW).size⟩))));clear kb rb HB HU hW
  go_wp2_with (at_builtin;refine Hid.o ?_)
  refine zh ?_;refine aI _ rfl (.tmp 40) (.tmp 41) rfl W1.heap.size (.slice (some ⟨w2.heap.size,0,none⟩) 1 1) (.slice A2 N.length c2) [y] N rfl rfl HA.o.2.2.1 (aS.bytes HA.o.2.1 (by have:=rq.o;omega)) (by have:=rq.o;simp;omega) HA.o.1.k.size ?_;intro A6 c6 w6 l6 E6 vZ pF ko wh;have jP:=zh (And.intro pF (And.intro (aM HA.o.1.own ko (λg hg hm=>by have h1:=HA.o.2.2.2.1 g hg;simp[Value.ownBlock]at hm;omega)) (HA.o.1.k.trans ko (λy hy hlt=>by have:=HA.o.1.k.size;have h2:=HA.o.2.2.2;simp[Value.ownBlock]at hy;omega))));have jX:W1.heap.size<=w6.heap.size:=jP.o.2.2.size;clear pF ko wh fg HA;simp only[Act.put,bo,bn,bh];refine aA (.slice A1 B.length c1) rfl (by kernel_rfl) ?_;simp only[Act.put,bo,bn,bh];refine aI _ rfl (.tmp 42) (.tmp 43) rfl W1.heap.size (.slice A6 l6.length c6) (.slice A1 B.length c1) l6 B rfl rfl jP.o.1 (aS.bytes jP.o.2.1 (by have:=oI.o;omega)) (by have:=rq.o;have:=oI.o;simp at vZ;omega) jX ?_;intro A7 c7 w7 l7 E7 qq mq kf qu;have iN:=zh (jP.o.2.2.trans kf (λy hy hlt=>by have:=(dM jP.o.1 y (by simpa using hy)).1;omega));have uD:=zh (show aS w7 W1.heap.size (.slice A7 l7.length c7) (gu p)by rw[HM.o,HY.o,show y::(N++B)= [y]++N++B by simp,<-E6.o,<-E7.o];exact mq);clear mq kf qu jX E6 E7 vZ qq;simp only[Act.put,bo,bn,bh]
  go_wp2_with fail
  go_ret;exact⟨_,rfl,bR uD.o HR.o.1.size,HR.o.1.ah iN.o⟩
 ·have b3:((kn:Int)==3)=false:=by simp;omega
  by_cases e6:p.k=6\/p.k=8\/p.k=10
  ·have KM:F=2:=by rw[<-hF];unfold kM;rw[aj e3,aE e6]
   subst KM;have hv:((kn:Int)==6)=true\/(((kn:Int)==6)=false/\((kn:Int)==8)=true)\/(((kn:Int)==6)=false/\((kn:Int)==8)=false/\((kn:Int)==10)=true):=by simp only[kX,tS];omega
   clear e6 e3
   rcases hv with b6 | ⟨b6,b8⟩ | ⟨b6,b8,b10⟩
   ·go_upto_region 9 with fail
    clear x0 b3 b6;have HS:=zh (show IntKind.i64.wrap (((16*kn:Nat):Int)+(2:Int))=((y.toNat:Nat):Int)by rw[IntWalk.i64_in _ ⟨by omega,by omega⟩];omega);clear hy hF
    go_wp2_with (refine bf (by kernel_rfl) rfl rfl HR.o.2 underlying29 rfl HZ.o ?_)
    refine(I8.o _ HR.o.1).mono ?_;rintro e w1 ⟨u,rfl,ho,hk⟩;obtain⟨A1,c1,rfl,_,_⟩:=ck ho;have HB:=zh (iF.new (ae.refl _ []) ho hk);clear ho hk
    go_wp2_with fail
    refine(HN.o _).mono ?_;rintro e w2 ⟨u,rfl,ho,hk⟩;obtain⟨A2,c2,rfl,_,_⟩:=ck ho;have HU:=zh (bR ho HB.o.k.size);replace HB:=zh (HB.o.ah hk);clear ho hk HN
    go_upto_region 11 with fail
    refine cV ?_;refine aA (.pointer (some ⟨w.heap.size,0,none⟩)) rfl (by kernel_rfl) ?_;refine bO 22 (.tmp 34) ⟨w.heap.size,0,none⟩ (.int .i64 (kn:Int)) rfl rfl (by kernel_rfl) (λ_=>by kernel_rfl) (((HR.o.2.keeps HB.o.k).cell 0).trans OY.o) ?_;refine aA (.int .i64 ((16*kn:Nat):Int)) rfl ((show _=Result.ok (Next.value (.int .i64 (IntKind.i64.wrap (16*(kn:Int))))) _ by kernel_rfl).trans (by rw[I5.o.1])) ?_;refine aA (.int .i64 (2:Int)) rfl (by kernel_rfl) ?_;refine aA (.int .i64 ((y.toNat:Nat):Int)) rfl ((show _=Result.ok (Next.value (.int .i64 (IntKind.i64.wrap (((16*kn:Nat):Int)+(2:Int))))) _ by kernel_rfl).trans (by rw[HS.o])) ?_;refine aA (.int .u8 ((y.toNat:Nat):Int)) rfl ((show _=Result.ok (Next.value (.int .u8 (IntKind.u8.wrap ((y.toNat:Nat):Int)))) _ by kernel_rfl).trans (by rw[I5.o.2])) ?_;simp only[Act.put,bo,bn,bh];have hW:ae w2 w2 []:=ae.refl _ _;obtain⟨Wb,fg⟩:∃Wb,w2.alloc (.cells #[.int .u8 (y.toNat:Nat)] 5)=Wb:=⟨_,rfl⟩;have kb:ae w2 Wb []:=hW.ah (by rw[<-fg];exact ae.alloc _ _);have rb:aS Wb W0.heap.size (.slice (some ⟨w2.heap.size,0,none⟩) 1 1) [y]:=by rw[<-fg];exact bR (kJ w2 y) (HB.o.k.ah hW).size
    have HA:=zh (And.intro (HB.o.ah kb) (And.intro (aM HU.o kb (by simp)) (And.intro rb (show(∀g,(Value.slice A1 B.length c1).ownBlock=some g->g < w2.heap.size)/\W0.heap.size<=w2.heap.size from⟨λg hg=>(dM HB.o.own g hg).2,(HB.o.k.ah hW).size⟩))));clear kb rb HB HU hW
    go_wp2_with (at_builtin;refine Hid.o ?_)
    refine zh ?_;refine aI _ rfl (.tmp 40) (.tmp 41) rfl W0.heap.size (.slice (some ⟨w2.heap.size,0,none⟩) 1 1) (.slice A2 N.length c2) [y] N rfl rfl HA.o.2.2.1 (aS.bytes HA.o.2.1 (by have:=rq.o;omega)) (by have:=rq.o;simp;omega) HA.o.1.k.size ?_;intro A6 c6 w6 l6 E6 vZ pF ko wh;have jP:=zh (And.intro pF (And.intro (aM HA.o.1.own ko (λg hg hm=>by have h1:=HA.o.2.2.2.1 g hg;simp[Value.ownBlock]at hm;omega)) (HA.o.1.k.trans ko (λy hy hlt=>by have:=HA.o.1.k.size;have h2:=HA.o.2.2.2;simp[Value.ownBlock]at hy;omega))));have jX:W0.heap.size<=w6.heap.size:=jP.o.2.2.size;clear pF ko wh fg HA;simp only[Act.put,bo,bn,bh];refine aA (.slice A1 B.length c1) rfl (by kernel_rfl) ?_;simp only[Act.put,bo,bn,bh];refine aI _ rfl (.tmp 42) (.tmp 43) rfl W0.heap.size (.slice A6 l6.length c6) (.slice A1 B.length c1) l6 B rfl rfl jP.o.1 (aS.bytes jP.o.2.1 (by have:=oI.o;omega)) (by have:=rq.o;have:=oI.o;simp at vZ;omega) jX ?_;intro A7 c7 w7 l7 E7 qq mq kf qu;have iN:=zh (jP.o.2.2.trans kf (λy hy hlt=>by have:=(dM jP.o.1 y (by simpa using hy)).1;omega));have uD:=zh (show aS w7 W0.heap.size (.slice A7 l7.length c7) (gu p)by rw[HM.o,HY.o,show y::(N++B)= [y]++N++B by simp,<-E6.o,<-E7.o];exact mq);clear mq kf qu jX E6 E7 vZ qq;simp only[Act.put,bo,bn,bh]
    go_wp2_with fail
    go_ret;exact⟨_,rfl,bR uD.o HR.o.1.size,HR.o.1.ah iN.o⟩
   ·go_upto_region 9 with fail
    clear x0 b3 b6 b8;have HS:=zh (show IntKind.i64.wrap (((16*kn:Nat):Int)+(2:Int))=((y.toNat:Nat):Int)by rw[IntWalk.i64_in _ ⟨by omega,by omega⟩];omega);clear hy hF
    go_wp2_with (refine bf (by kernel_rfl) rfl rfl HR.o.2 underlying29 rfl HZ.o ?_)
    refine(I8.o _ HR.o.1).mono ?_;rintro e w1 ⟨u,rfl,ho,hk⟩;obtain⟨A1,c1,rfl,_,_⟩:=ck ho;have HB:=zh (iF.new (ae.refl _ []) ho hk);clear ho hk
    go_wp2_with fail
    refine(HN.o _).mono ?_;rintro e w2 ⟨u,rfl,ho,hk⟩;obtain⟨A2,c2,rfl,_,_⟩:=ck ho;have HU:=zh (bR ho HB.o.k.size);replace HB:=zh (HB.o.ah hk);clear ho hk HN
    go_upto_region 11 with fail
    refine cV ?_;refine aA (.pointer (some ⟨w.heap.size,0,none⟩)) rfl (by kernel_rfl) ?_;refine bO 22 (.tmp 34) ⟨w.heap.size,0,none⟩ (.int .i64 (kn:Int)) rfl rfl (by kernel_rfl) (λ_=>by kernel_rfl) (((HR.o.2.keeps HB.o.k).cell 0).trans OY.o) ?_;refine aA (.int .i64 ((16*kn:Nat):Int)) rfl ((show _=Result.ok (Next.value (.int .i64 (IntKind.i64.wrap (16*(kn:Int))))) _ by kernel_rfl).trans (by rw[I5.o.1])) ?_;refine aA (.int .i64 (2:Int)) rfl (by kernel_rfl) ?_;refine aA (.int .i64 ((y.toNat:Nat):Int)) rfl ((show _=Result.ok (Next.value (.int .i64 (IntKind.i64.wrap (((16*kn:Nat):Int)+(2:Int))))) _ by kernel_rfl).trans (by rw[HS.o])) ?_;refine aA (.int .u8 ((y.toNat:Nat):Int)) rfl ((show _=Result.ok (Next.value (.int .u8 (IntKind.u8.wrap ((y.toNat:Nat):Int)))) _ by kernel_rfl).trans (by rw[I5.o.2])) ?_;simp only[Act.put,bo,bn,bh];have hW:ae w2 w2 []:=ae.refl _ _;obtain⟨Wb,fg⟩:∃Wb,w2.alloc (.cells #[.int .u8 (y.toNat:Nat)] 5)=Wb:=⟨_,rfl⟩;have kb:ae w2 Wb []:=hW.ah (by rw[<-fg];exact ae.alloc _ _);have rb:aS Wb W0.heap.size (.slice (some ⟨w2.heap.size,0,none⟩) 1 1) [y]:=by rw[<-fg];exact bR (kJ w2 y) (HB.o.k.ah hW).size
    have HA:=zh (And.intro (HB.o.ah kb) (And.intro (aM HU.o kb (by simp)) (And.intro rb (show(∀g,(Value.slice A1 B.length c1).ownBlock=some g->g < w2.heap.size)/\W0.heap.size<=w2.heap.size from⟨λg hg=>(dM HB.o.own g hg).2,(HB.o.k.ah hW).size⟩))));clear kb rb HB HU hW
    go_wp2_with (at_builtin;refine Hid.o ?_)
    refine zh ?_;refine aI _ rfl (.tmp 40) (.tmp 41) rfl W0.heap.size (.slice (some ⟨w2.heap.size,0,none⟩) 1 1) (.slice A2 N.length c2) [y] N rfl rfl HA.o.2.2.1 (aS.bytes HA.o.2.1 (by have:=rq.o;omega)) (by have:=rq.o;simp;omega) HA.o.1.k.size ?_;intro A6 c6 w6 l6 E6 vZ pF ko wh;have jP:=zh (And.intro pF (And.intro (aM HA.o.1.own ko (λg hg hm=>by have h1:=HA.o.2.2.2.1 g hg;simp[Value.ownBlock]at hm;omega)) (HA.o.1.k.trans ko (λy hy hlt=>by have:=HA.o.1.k.size;have h2:=HA.o.2.2.2;simp[Value.ownBlock]at hy;omega))));have jX:W0.heap.size<=w6.heap.size:=jP.o.2.2.size;clear pF ko wh fg HA;simp only[Act.put,bo,bn,bh];refine aA (.slice A1 B.length c1) rfl (by kernel_rfl) ?_;simp only[Act.put,bo,bn,bh];refine aI _ rfl (.tmp 42) (.tmp 43) rfl W0.heap.size (.slice A6 l6.length c6) (.slice A1 B.length c1) l6 B rfl rfl jP.o.1 (aS.bytes jP.o.2.1 (by have:=oI.o;omega)) (by have:=rq.o;have:=oI.o;simp at vZ;omega) jX ?_;intro A7 c7 w7 l7 E7 qq mq kf qu;have iN:=zh (jP.o.2.2.trans kf (λy hy hlt=>by have:=(dM jP.o.1 y (by simpa using hy)).1;omega));have uD:=zh (show aS w7 W0.heap.size (.slice A7 l7.length c7) (gu p)by rw[HM.o,HY.o,show y::(N++B)= [y]++N++B by simp,<-E6.o,<-E7.o];exact mq);clear mq kf qu jX E6 E7 vZ qq;simp only[Act.put,bo,bn,bh]
    go_wp2_with fail
    go_ret;exact⟨_,rfl,bR uD.o HR.o.1.size,HR.o.1.ah iN.o⟩
   ·go_upto_region 9 with fail
    clear x0 b3 b6 b8 b10;have HS:=zh (show IntKind.i64.wrap (((16*kn:Nat):Int)+(2:Int))=((y.toNat:Nat):Int)by rw[IntWalk.i64_in _ ⟨by omega,by omega⟩];omega);clear hy hF
    go_wp2_with (refine bf (by kernel_rfl) rfl rfl HR.o.2 underlying29 rfl HZ.o ?_)
    refine(I8.o _ HR.o.1).mono ?_;rintro e w1 ⟨u,rfl,ho,hk⟩;obtain⟨A1,c1,rfl,_,_⟩:=ck ho;have HB:=zh (iF.new (ae.refl _ []) ho hk);clear ho hk
    go_wp2_with fail
    refine(HN.o _).mono ?_;rintro e w2 ⟨u,rfl,ho,hk⟩;obtain⟨A2,c2,rfl,_,_⟩:=ck ho;have HU:=zh (bR ho HB.o.k.size);replace HB:=zh (HB.o.ah hk);clear ho hk HN
    go_upto_region 11 with fail
    refine cV ?_;refine aA (.pointer (some ⟨w.heap.size,0,none⟩)) rfl (by kernel_rfl) ?_;refine bO 22 (.tmp 34) ⟨w.heap.size,0,none⟩ (.int .i64 (kn:Int)) rfl rfl (by kernel_rfl) (λ_=>by kernel_rfl) (((HR.o.2.keeps HB.o.k).cell 0).trans OY.o) ?_;refine aA (.int .i64 ((16*kn:Nat):Int)) rfl ((show _=Result.ok (Next.value (.int .i64 (IntKind.i64.wrap (16*(kn:Int))))) _ by kernel_rfl).trans (by rw[I5.o.1])) ?_;refine aA (.int .i64 (2:Int)) rfl (by kernel_rfl) ?_;refine aA (.int .i64 ((y.toNat:Nat):Int)) rfl ((show _=Result.ok (Next.value (.int .i64 (IntKind.i64.wrap (((16*kn:Nat):Int)+(2:Int))))) _ by kernel_rfl).trans (by rw[HS.o])) ?_;refine aA (.int .u8 ((y.toNat:Nat):Int)) rfl ((show _=Result.ok (Next.value (.int .u8 (IntKind.u8.wrap ((y.toNat:Nat):Int)))) _ by kernel_rfl).trans (by rw[I5.o.2])) ?_;simp only[Act.put,bo,bn,bh];have hW:ae w2 w2 []:=ae.refl _ _;obtain⟨Wb,fg⟩:∃Wb,w2.alloc (.cells #[.int .u8 (y.toNat:Nat)] 5)=Wb:=⟨_,rfl⟩;have kb:ae w2 Wb []:=hW.ah (by rw[<-fg];exact ae.alloc _ _);have rb:aS Wb W0.heap.size (.slice (some ⟨w2.heap.size,0,none⟩) 1 1) [y]:=by rw[<-fg];exact bR (kJ w2 y) (HB.o.k.ah hW).size
    have HA:=zh (And.intro (HB.o.ah kb) (And.intro (aM HU.o kb (by simp)) (And.intro rb (show(∀g,(Value.slice A1 B.length c1).ownBlock=some g->g < w2.heap.size)/\W0.heap.size<=w2.heap.size from⟨λg hg=>(dM HB.o.own g hg).2,(HB.o.k.ah hW).size⟩))));clear kb rb HB HU hW
    go_wp2_with (at_builtin;refine Hid.o ?_)
    refine zh ?_;refine aI _ rfl (.tmp 40) (.tmp 41) rfl W0.heap.size (.slice (some ⟨w2.heap.size,0,none⟩) 1 1) (.slice A2 N.length c2) [y] N rfl rfl HA.o.2.2.1 (aS.bytes HA.o.2.1 (by have:=rq.o;omega)) (by have:=rq.o;simp;omega) HA.o.1.k.size ?_;intro A6 c6 w6 l6 E6 vZ pF ko wh;have jP:=zh (And.intro pF (And.intro (aM HA.o.1.own ko (λg hg hm=>by have h1:=HA.o.2.2.2.1 g hg;simp[Value.ownBlock]at hm;omega)) (HA.o.1.k.trans ko (λy hy hlt=>by have:=HA.o.1.k.size;have h2:=HA.o.2.2.2;simp[Value.ownBlock]at hy;omega))));have jX:W0.heap.size<=w6.heap.size:=jP.o.2.2.size;clear pF ko wh fg HA;simp only[Act.put,bo,bn,bh];refine aA (.slice A1 B.length c1) rfl (by kernel_rfl) ?_;simp only[Act.put,bo,bn,bh];refine aI _ rfl (.tmp 42) (.tmp 43) rfl W0.heap.size (.slice A6 l6.length c6) (.slice A1 B.length c1) l6 B rfl rfl jP.o.1 (aS.bytes jP.o.2.1 (by have:=oI.o;omega)) (by have:=rq.o;have:=oI.o;simp at vZ;omega) jX ?_;intro A7 c7 w7 l7 E7 qq mq kf qu;have iN:=zh (jP.o.2.2.trans kf (λy hy hlt=>by have:=(dM jP.o.1 y (by simpa using hy)).1;omega));have uD:=zh (show aS w7 W0.heap.size (.slice A7 l7.length c7) (gu p)by rw[HM.o,HY.o,show y::(N++B)= [y]++N++B by simp,<-E6.o,<-E7.o];exact mq);clear mq kf qu jX E6 E7 vZ qq;simp only[Act.put,bo,bn,bh]
    go_wp2_with fail
    go_ret;exact⟨_,rfl,bR uD.o HR.o.1.size,HR.o.1.ah iN.o⟩
  ·have UL:F=0:=by rw[<-hF];unfold kM;rw[aj e3,aj e6]
   subst UL;have b6:((kn:Int)==6)=false:=by simp;omega
   have b8:((kn:Int)==8)=false:=by simp;omega
   have b10:((kn:Int)==10)=false:=by simp;omega
   clear e6 e3
   go_upto_region 9 with fail
   clear x0 b3 b6 b8 b10;have HS:=zh (show IntKind.i64.wrap (((16*kn:Nat):Int)+(0:Int))=((y.toNat:Nat):Int)by rw[IntWalk.i64_in _ ⟨by omega,by omega⟩];omega);clear hy hF
   go_wp2_with (refine bf (by kernel_rfl) rfl rfl HR.o.2 underlying29 rfl HZ.o ?_)
   refine(I8.o _ HR.o.1).mono ?_;rintro e w1 ⟨u,rfl,ho,hk⟩;obtain⟨A1,c1,rfl,_,_⟩:=ck ho;have HB:=zh (iF.new (ae.refl _ []) ho hk);clear ho hk
   go_wp2_with fail
   refine(HN.o _).mono ?_;rintro e w2 ⟨u,rfl,ho,hk⟩;obtain⟨A2,c2,rfl,_,_⟩:=ck ho;have HU:=zh (bR ho HB.o.k.size);replace HB:=zh (HB.o.ah hk);clear ho hk HN
   go_upto_region 11 with fail
   refine cV ?_;refine aA (.pointer (some ⟨w.heap.size,0,none⟩)) rfl (by kernel_rfl) ?_;refine bO 22 (.tmp 34) ⟨w.heap.size,0,none⟩ (.int .i64 (kn:Int)) rfl rfl (by kernel_rfl) (λ_=>by kernel_rfl) (((HR.o.2.keeps HB.o.k).cell 0).trans OY.o) ?_;refine aA (.int .i64 ((16*kn:Nat):Int)) rfl ((show _=Result.ok (Next.value (.int .i64 (IntKind.i64.wrap (16*(kn:Int))))) _ by kernel_rfl).trans (by rw[I5.o.1])) ?_;refine aA (.int .i64 (0:Int)) rfl (by kernel_rfl) ?_;refine aA (.int .i64 ((y.toNat:Nat):Int)) rfl ((show _=Result.ok (Next.value (.int .i64 (IntKind.i64.wrap (((16*kn:Nat):Int)+(0:Int))))) _ by kernel_rfl).trans (by rw[HS.o])) ?_;refine aA (.int .u8 ((y.toNat:Nat):Int)) rfl ((show _=Result.ok (Next.value (.int .u8 (IntKind.u8.wrap ((y.toNat:Nat):Int)))) _ by kernel_rfl).trans (by rw[I5.o.2])) ?_;simp only[Act.put,bo,bn,bh];have hW:ae w2 w2 []:=ae.refl _ _;obtain⟨Wb,fg⟩:∃Wb,w2.alloc (.cells #[.int .u8 (y.toNat:Nat)] 5)=Wb:=⟨_,rfl⟩;have kb:ae w2 Wb []:=hW.ah (by rw[<-fg];exact ae.alloc _ _);have rb:aS Wb W0.heap.size (.slice (some ⟨w2.heap.size,0,none⟩) 1 1) [y]:=by rw[<-fg];exact bR (kJ w2 y) (HB.o.k.ah hW).size
   have HA:=zh (And.intro (HB.o.ah kb) (And.intro (aM HU.o kb (by simp)) (And.intro rb (show(∀g,(Value.slice A1 B.length c1).ownBlock=some g->g < w2.heap.size)/\W0.heap.size<=w2.heap.size from⟨λg hg=>(dM HB.o.own g hg).2,(HB.o.k.ah hW).size⟩))));clear kb rb HB HU hW
   go_wp2_with (at_builtin;refine Hid.o ?_)
   refine zh ?_;refine aI _ rfl (.tmp 40) (.tmp 41) rfl W0.heap.size (.slice (some ⟨w2.heap.size,0,none⟩) 1 1) (.slice A2 N.length c2) [y] N rfl rfl HA.o.2.2.1 (aS.bytes HA.o.2.1 (by have:=rq.o;omega)) (by have:=rq.o;simp;omega) HA.o.1.k.size ?_;intro A6 c6 w6 l6 E6 vZ pF ko wh;have jP:=zh (And.intro pF (And.intro (aM HA.o.1.own ko (λg hg hm=>by have h1:=HA.o.2.2.2.1 g hg;simp[Value.ownBlock]at hm;omega)) (HA.o.1.k.trans ko (λy hy hlt=>by have:=HA.o.1.k.size;have h2:=HA.o.2.2.2;simp[Value.ownBlock]at hy;omega))));have jX:W0.heap.size<=w6.heap.size:=jP.o.2.2.size;clear pF ko wh fg HA;simp only[Act.put,bo,bn,bh];refine aA (.slice A1 B.length c1) rfl (by kernel_rfl) ?_;simp only[Act.put,bo,bn,bh];refine aI _ rfl (.tmp 42) (.tmp 43) rfl W0.heap.size (.slice A6 l6.length c6) (.slice A1 B.length c1) l6 B rfl rfl jP.o.1 (aS.bytes jP.o.2.1 (by have:=oI.o;omega)) (by have:=rq.o;have:=oI.o;simp at vZ;omega) jX ?_;intro A7 c7 w7 l7 E7 qq mq kf qu;have iN:=zh (jP.o.2.2.trans kf (λy hy hlt=>by have:=(dM jP.o.1 y (by simpa using hy)).1;omega));have uD:=zh (show aS w7 W0.heap.size (.slice A7 l7.length c7) (gu p)by rw[HM.o,HY.o,show y::(N++B)= [y]++N++B by simp,<-E6.o,<-E7.o];exact mq);clear mq kf qu jX E6 E7 vZ qq;simp only[Act.put,bo,bn,bh]
   go_wp2_with fail
   go_ret;exact⟨_,rfl,bR uD.o HR.o.1.size,HR.o.1.ah iN.o⟩
end Go.Proofs.YtahbikfbjenfpaaGreatDoor
