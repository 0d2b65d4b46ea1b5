/- Package packet: may a publish be? -/
import Derived.Test.YtahbikfbjenfpaaGreatDoorPa12
import Derived.Test.YtahbikfbjenfpaaGreatDoorPa13
set_option maxHeartbeats 1000000
set_option maxRecDepth 100000
namespace Go.Proofs.YtahbikfbjenfpaaGreatDoor
open Tryz Go.RowKit

theorem Fh {p:Pk}(hk:p.k=3):cK p=(fW p.t && (decide ((p.b.length:Int)<=2000) && (dz p.q 0 2 && ((p.q==0 && (p.id==0 && !p.dup)) || (decide (p.q > 0) && dz p.id 1 65535))))):=by
 unfold cK;rw[aj (by omega),aj (by omega),aE hk];have e:decide (p.b.length<=2000)=decide ((p.b.length:Int)<=2000):=by rw[decide_eq_decide];omega
 rw[e]
 congr 1
 congr 1
 by_cases hq:p.q=0
 ·rw[aE hq,hq]
  simp
 ·rw[aj hq]
  have h0:(p.q==0)=false:=by simpa using hq
  rw[h0]
  by_cases h1:0<=p.q
  ·rw[bz (show p.q > 0 by omega)]
   unfold qo;simp
  ·have:dz p.q 0 2=false:=by unfold dz;simp;omega
   rw[this];rfl
theorem CW (p:Pk)(sw sc sf:Value)(w:au)(hk:p.k=3)(hs:rl p):Calls prog 132 #[eO p sw sc sf] w (aJ w (cK p)):=by
 have HX:=zh (Fh hk);have Oy:=hs.t
 generalize cK p=X at HX ⊢
 clear hk hs;obtain⟨k,dup,ret,q,t,b,id,c,cl,keep,hw,wt,wb,wq,wr,hu,hp,u,pw,pr,code,wants,aF,fs⟩:=p;simp only at HX Oy;have CN:=zh (λW=>xL W t (by omega));have CQ:=zh (λW=>pY q W);have CI:=zh (λW=>jn id 1 65535 W)
 generalize fW t=xn at HX CN
 generalize dz q 0 2=xq at HX CQ
 generalize dz id 1 65535=xi at HX CI
 obtain⟨xb,LD⟩:∃x,decide ((b.length:Int)<=2000)=x:=⟨_,rfl⟩;obtain⟨z1,hz1⟩:∃x,(q==0)=x:=⟨_,rfl⟩;obtain⟨z2,hz2⟩:∃x,(id==0)=x:=⟨_,rfl⟩;obtain⟨z3,hz3⟩:∃x,decide (q > 0)=x:=⟨_,rfl⟩;rw[LD,hz1,hz2,hz3]at HX;obtain⟨W0,aV⟩:∃W,(w).alloc (.cells (zP k dup ret q t b id c cl keep hw wt wb wq wr hu hp u pw pr code sw sc sf) 29)=W:=⟨_,rfl⟩;have k0:ae (w) W0 []:=by rw[<-aV];exact ae.alloc _ _
 have r0:Row W0 (w).heap.size 29 (zP k dup ret q t b id c cl keep hw wt wb wq wr hu hp u pw pr code sw sc sf):=by rw[<-aV];exact Row.new _ _ _
 have HR:=zh (And.intro k0 r0);clear k0 r0 Oy;obtain⟨ID,Rq⟩:∃x,((z1 && (z2 && !dup)) || (z3 && xi))=x:=⟨_,rfl⟩;have MQ:=zh Rq;rw[Rq]at HX;clear Rq
 go_enter func132,ntmps132
 go_upto_region 1 with fail
 clear aV;have M0:=λ(W' :au) (hW:ae (W0) W' [])=>((HR.o.2).keeps hW).cell 0
 have M1:=λ(W' :au) (hW:ae (W0) W' [])=>((HR.o.2).keeps hW).cell 1
 have M2:=λ(W' :au) (hW:ae (W0) W' [])=>((HR.o.2).keeps hW).cell 2
 have M3:=λ(W' :au) (hW:ae (W0) W' [])=>((HR.o.2).keeps hW).cell 3
 have M4:=λ(W' :au) (hW:ae (W0) W' [])=>((HR.o.2).keeps hW).cell 4
 have M5:=λ(W' :au) (hW:ae (W0) W' [])=>((HR.o.2).keeps hW).cell 5
 have M6:=λ(W' :au) (hW:ae (W0) W' [])=>((HR.o.2).keeps hW).cell 6
 have M7:=λ(W' :au) (hW:ae (W0) W' [])=>((HR.o.2).keeps hW).cell 7
 have M8:=λ(W' :au) (hW:ae (W0) W' [])=>((HR.o.2).keeps hW).cell 8
 have M9:=λ(W' :au) (hW:ae (W0) W' [])=>((HR.o.2).keeps hW).cell 9
 have KW:=λ(W' :au) (hW:ae (W0) W' [])=>((HR.o.2).keeps hW).cell 10
 have Mr:=λ(W' :au) (hW:ae (W0) W' [])=>((HR.o.2).keeps hW).cell 11
 have Mq:=λ(W' :au) (hW:ae (W0) W' [])=>((HR.o.2).keeps hW).cell 12
 have KV:=λ(W' :au) (hW:ae (W0) W' [])=>((HR.o.2).keeps hW).cell 13
 have KU:=λ(W' :au) (hW:ae (W0) W' [])=>((HR.o.2).keeps hW).cell 14
 have KT:=λ(W' :au) (hW:ae (W0) W' [])=>((HR.o.2).keeps hW).cell 15
 have KS:=λ(W' :au) (hW:ae (W0) W' [])=>((HR.o.2).keeps hW).cell 16
 have Mp:=λ(W' :au) (hW:ae (W0) W' [])=>((HR.o.2).keeps hW).cell 17
 have Mn:=λ(W' :au) (hW:ae (W0) W' [])=>((HR.o.2).keeps hW).cell 18
 have I3:=λ(W' :au) (hW:ae (W0) W' [])=>((HR.o.2).keeps hW).cell 19
 have I2:=λ(W' :au) (hW:ae (W0) W' [])=>((HR.o.2).keeps hW).cell 20
 have Is:=λ(W' :au) (hW:ae (W0) W' [])=>((HR.o.2).keeps hW).cell 21
 have I0:=λ(W' :au) (hW:ae (W0) W' [])=>((HR.o.2).keeps hW).cell 22
 have Kh:=λ(W' :au) (hW:ae (W0) W' [])=>((HR.o.2).keeps hW).cell 23
 simp only[cg,bU,fe]at M0 M1 M2 M3 M4 M5 M6 M7 M8 M9 KW Mr Mq KV KU KT KS Mp Mn I3 I2 Is I0 Kh;have HK:=zh HR.o.1;clear HR
 go_cut [3] (λv wx=>v= .bool ID/\ae W0 wx [])
 case first=>
  cases z1 with
  | true=>
   cases z2 with
   | true=>
    cases dup with
    | true=>
     cases z3 with
     | true=>
      refine av ax _ 23 rfl (by kernel_rfl) (by kernel_rfl) (λ_=>ae.refl _ _) (λ_ _ _ h k=>h.trans k (by simp)) ?_;simp only[dc,dg,dF,dK];refine ls ?_;simp only[af];apply ak
      ·intro W vals hW ag
       simp only[knows]at ag
       try simp only[ai]at ag
       clear ag;have m0:=M3 W hW;refine⟨?_⟩;simp only[fill];go_simp
       first | exact⟨ae.refl _ _,rfl⟩ | exact⟨ae.alloc _ _,rfl⟩
      iterate 3
       simp only[af];refine ls ?_
      simp only[af];apply ak
      ·intro W vals hW ag
       simp only[knows]at ag
       try simp only[ai]at ag
       clear ag;have m0:=M6 W hW;refine⟨?_⟩;simp only[fill];go_simp
       first | exact⟨ae.refl _ _,rfl⟩ | exact⟨ae.alloc _ _,rfl⟩
      iterate 4
       simp only[af];refine ls ?_
      simp only[af];apply ak
      ·intro W vals hW ag
       simp only[knows]at ag
       try simp only[ai]at ag
       clear ag;have m0:=M1 W hW;refine⟨?_⟩;simp only[fill];go_simp
       first | exact⟨ae.refl _ _,rfl⟩ | exact⟨ae.alloc _ _,rfl⟩
      iterate 4
       simp only[af];refine ls ?_
      simp only[af];apply ak
      ·intro W vals hW ag
       simp only[knows]at ag
       try simp only[ai]at ag
       clear ag;have m0:=M3 W hW;refine⟨?_⟩;simp only[fill];go_simp
       first | exact⟨ae.refl _ _,rfl⟩ | exact⟨ae.alloc _ _,rfl⟩
      iterate 3
       simp only[af];refine ls ?_
      simp only[af];apply ak
      ·intro W vals hW ag
       simp only[knows]at ag
       try simp only[ai]at ag
       clear ag;have m0:=M6 W hW;refine⟨?_⟩;simp only[fill];go_simp
       first | exact⟨ae.refl _ _,rfl⟩ | exact⟨ae.alloc _ _,rfl⟩
      simp only[af];apply ak
      ·intro W vals hW ag
       clear ag;refine⟨?_⟩;simp only[fill];go_simp;refine aC ?_;exact(CI.o W).mono (by rintro e w2 ⟨rfl,hk⟩;exact⟨_,rfl,hk,rfl⟩)
      iterate 2
       simp only[af];refine ls ?_
      simp only[af];refine aq (λW vals hW ag=> ?_);simp only[aw]at ag
      try simp only[ai]at ag
      simp only[fill,Act.put,bo,bn,bh]
      go_wp2_with fail
      go_meet
      case rel=>exact⟨by rw[<-MQ.o];rfl,hW⟩
     | false=>
      refine av ax _ 23 rfl (by kernel_rfl) (by kernel_rfl) (λ_=>ae.refl _ _) (λ_ _ _ h k=>h.trans k (by simp)) ?_;simp only[dc,dg,dF,dK];refine ls ?_;simp only[af];apply ak
      ·intro W vals hW ag
       simp only[knows]at ag
       try simp only[ai]at ag
       clear ag;have m0:=M3 W hW;refine⟨?_⟩;simp only[fill];go_simp
       first | exact⟨ae.refl _ _,rfl⟩ | exact⟨ae.alloc _ _,rfl⟩
      iterate 3
       simp only[af];refine ls ?_
      simp only[af];apply ak
      ·intro W vals hW ag
       simp only[knows]at ag
       try simp only[ai]at ag
       clear ag;have m0:=M6 W hW;refine⟨?_⟩;simp only[fill];go_simp
       first | exact⟨ae.refl _ _,rfl⟩ | exact⟨ae.alloc _ _,rfl⟩
      iterate 4
       simp only[af];refine ls ?_
      simp only[af];apply ak
      ·intro W vals hW ag
       simp only[knows]at ag
       try simp only[ai]at ag
       clear ag;have m0:=M1 W hW;refine⟨?_⟩;simp only[fill];go_simp
       first | exact⟨ae.refl _ _,rfl⟩ | exact⟨ae.alloc _ _,rfl⟩
      iterate 4
       simp only[af];refine ls ?_
      simp only[af];apply ak
      ·intro W vals hW ag
       simp only[knows]at ag
       try simp only[ai]at ag
       clear ag;have m0:=M3 W hW;refine⟨?_⟩;simp only[fill];go_simp
       first | exact⟨ae.refl _ _,rfl⟩ | exact⟨ae.alloc _ _,rfl⟩
      iterate 2
       simp only[af];refine ls ?_
      iterate 3
       simp only[af];refine lo ?_
      iterate 2
       simp only[af];refine ls ?_
      simp only[af];refine aq (λW vals hW ag=> ?_);simp only[aw]at ag
      try simp only[ai]at ag
      simp only[fill,Act.put,bo,bn,bh]
      go_wp2_with fail
      go_meet
      case rel=>exact⟨by rw[<-MQ.o];rfl,hW⟩
    | false=>
     refine av ax _ 23 rfl (by kernel_rfl) (by kernel_rfl) (λ_=>ae.refl _ _) (λ_ _ _ h k=>h.trans k (by simp)) ?_;simp only[dc,dg,dF,dK];refine ls ?_;simp only[af];apply ak
     ·intro W vals hW ag
      simp only[knows]at ag
      try simp only[ai]at ag
      clear ag;have m0:=M3 W hW;refine⟨?_⟩;simp only[fill];go_simp
      first | exact⟨ae.refl _ _,rfl⟩ | exact⟨ae.alloc _ _,rfl⟩
     iterate 3
      simp only[af];refine ls ?_
     simp only[af];apply ak
     ·intro W vals hW ag
      simp only[knows]at ag
      try simp only[ai]at ag
      clear ag;have m0:=M6 W hW;refine⟨?_⟩;simp only[fill];go_simp
      first | exact⟨ae.refl _ _,rfl⟩ | exact⟨ae.alloc _ _,rfl⟩
     iterate 4
      simp only[af];refine ls ?_
     simp only[af];apply ak
     ·intro W vals hW ag
      simp only[knows]at ag
      try simp only[ai]at ag
      clear ag;have m0:=M1 W hW;refine⟨?_⟩;simp only[fill];go_simp
      first | exact⟨ae.refl _ _,rfl⟩ | exact⟨ae.alloc _ _,rfl⟩
     iterate 3
      simp only[af];refine ls ?_
     iterate 8
      simp only[af];refine lo ?_
     simp only[af];refine ls ?_;simp only[af];refine aq (λW vals hW ag=> ?_);simp only[aw]at ag
     try simp only[ai]at ag
     simp only[fill,Act.put,bo,bn,bh]
     go_wp2_with fail
     go_meet
     case rel=>exact⟨by rw[<-MQ.o];rfl,hW⟩
   | false=>
    cases z3 with
    | true=>
     refine av ax _ 23 rfl (by kernel_rfl) (by kernel_rfl) (λ_=>ae.refl _ _) (λ_ _ _ h k=>h.trans k (by simp)) ?_;simp only[dc,dg,dF,dK];refine ls ?_;simp only[af];apply ak
     ·intro W vals hW ag
      simp only[knows]at ag
      try simp only[ai]at ag
      clear ag;have m0:=M3 W hW;refine⟨?_⟩;simp only[fill];go_simp
      first | exact⟨ae.refl _ _,rfl⟩ | exact⟨ae.alloc _ _,rfl⟩
     iterate 3
      simp only[af];refine ls ?_
     simp only[af];apply ak
     ·intro W vals hW ag
      simp only[knows]at ag
      try simp only[ai]at ag
      clear ag;have m0:=M6 W hW;refine⟨?_⟩;simp only[fill];go_simp
      first | exact⟨ae.refl _ _,rfl⟩ | exact⟨ae.alloc _ _,rfl⟩
     iterate 3
      simp only[af];refine ls ?_
     iterate 3
      simp only[af];refine lo ?_
     iterate 3
      simp only[af];refine ls ?_
     simp only[af];apply ak
     ·intro W vals hW ag
      simp only[knows]at ag
      try simp only[ai]at ag
      clear ag;have m0:=M3 W hW;refine⟨?_⟩;simp only[fill];go_simp
      first | exact⟨ae.refl _ _,rfl⟩ | exact⟨ae.alloc _ _,rfl⟩
     iterate 3
      simp only[af];refine ls ?_
     simp only[af];apply ak
     ·intro W vals hW ag
      simp only[knows]at ag
      try simp only[ai]at ag
      clear ag;have m0:=M6 W hW;refine⟨?_⟩;simp only[fill];go_simp
      first | exact⟨ae.refl _ _,rfl⟩ | exact⟨ae.alloc _ _,rfl⟩
     simp only[af];apply ak
     ·intro W vals hW ag
      clear ag;refine⟨?_⟩;simp only[fill];go_simp;refine aC ?_;exact(CI.o W).mono (by rintro e w2 ⟨rfl,hk⟩;exact⟨_,rfl,hk,rfl⟩)
     iterate 2
      simp only[af];refine ls ?_
     simp only[af];refine aq (λW vals hW ag=> ?_);simp only[aw]at ag
     try simp only[ai]at ag
     simp only[fill,Act.put,bo,bn,bh]
     go_wp2_with fail
     go_meet
     case rel=>exact⟨by rw[<-MQ.o];rfl,hW⟩
    | false=>
     refine av ax _ 23 rfl (by kernel_rfl) (by kernel_rfl) (λ_=>ae.refl _ _) (λ_ _ _ h k=>h.trans k (by simp)) ?_;simp only[dc,dg,dF,dK];refine ls ?_;simp only[af];apply ak
     ·intro W vals hW ag
      simp only[knows]at ag
      try simp only[ai]at ag
      clear ag;have m0:=M3 W hW;refine⟨?_⟩;simp only[fill];go_simp
      first | exact⟨ae.refl _ _,rfl⟩ | exact⟨ae.alloc _ _,rfl⟩
     iterate 3
      simp only[af];refine ls ?_
     simp only[af];apply ak
     ·intro W vals hW ag
      simp only[knows]at ag
      try simp only[ai]at ag
      clear ag;have m0:=M6 W hW;refine⟨?_⟩;simp only[fill];go_simp
      first | exact⟨ae.refl _ _,rfl⟩ | exact⟨ae.alloc _ _,rfl⟩
     iterate 3
      simp only[af];refine ls ?_
     iterate 3
      simp only[af];refine lo ?_
     iterate 3
      simp only[af];refine ls ?_
     simp only[af];apply ak
     ·intro W vals hW ag
      simp only[knows]at ag
      try simp only[ai]at ag
      clear ag;have m0:=M3 W hW;refine⟨?_⟩;simp only[fill];go_simp
      first | exact⟨ae.refl _ _,rfl⟩ | exact⟨ae.alloc _ _,rfl⟩
     iterate 2
      simp only[af];refine ls ?_
     iterate 3
      simp only[af];refine lo ?_
     iterate 2
      simp only[af];refine ls ?_
     simp only[af];refine aq (λW vals hW ag=> ?_);simp only[aw]at ag
     try simp only[ai]at ag
     simp only[fill,Act.put,bo,bn,bh]
     go_wp2_with fail
     go_meet
     case rel=>exact⟨by rw[<-MQ.o];rfl,hW⟩
  | false=>
   cases z3 with
   | true=>
    refine av ax _ 23 rfl (by kernel_rfl) (by kernel_rfl) (λ_=>ae.refl _ _) (λ_ _ _ h k=>h.trans k (by simp)) ?_;simp only[dc,dg,dF,dK];refine ls ?_;simp only[af];apply ak
    ·intro W vals hW ag
     simp only[knows]at ag
     try simp only[ai]at ag
     clear ag;have m0:=M3 W hW;refine⟨?_⟩;simp only[fill];go_simp
     first | exact⟨ae.refl _ _,rfl⟩ | exact⟨ae.alloc _ _,rfl⟩
    iterate 2
     simp only[af];refine ls ?_;simp only[af];refine ls ?_;simp only[af];refine lo ?_;simp only[af];refine lo ?_;simp only[af];refine lo ?_
    iterate 3
     simp only[af];refine ls ?_
    simp only[af];apply ak
    ·intro W vals hW ag
     simp only[knows]at ag
     try simp only[ai]at ag
     clear ag;have m0:=M3 W hW;refine⟨?_⟩;simp only[fill];go_simp
     first | exact⟨ae.refl _ _,rfl⟩ | exact⟨ae.alloc _ _,rfl⟩
    iterate 3
     simp only[af];refine ls ?_
    simp only[af];apply ak
    ·intro W vals hW ag
     simp only[knows]at ag
     try simp only[ai]at ag
     clear ag;have m0:=M6 W hW;refine⟨?_⟩;simp only[fill];go_simp
     first | exact⟨ae.refl _ _,rfl⟩ | exact⟨ae.alloc _ _,rfl⟩
    simp only[af];apply ak
    ·intro W vals hW ag
     clear ag;refine⟨?_⟩;simp only[fill];go_simp;refine aC ?_;exact(CI.o W).mono (by rintro e w2 ⟨rfl,hk⟩;exact⟨_,rfl,hk,rfl⟩)
    iterate 2
     simp only[af];refine ls ?_
    simp only[af];refine aq (λW vals hW ag=> ?_);simp only[aw]at ag
    try simp only[ai]at ag
    simp only[fill,Act.put,bo,bn,bh]
    go_wp2_with fail
    go_meet
    case rel=>exact⟨by rw[<-MQ.o];rfl,hW⟩
   | false=>
    refine av ax _ 23 rfl (by kernel_rfl) (by kernel_rfl) (λ_=>ae.refl _ _) (λ_ _ _ h k=>h.trans k (by simp)) ?_;simp only[dc,dg,dF,dK];refine ls ?_;simp only[af];apply ak
    ·intro W vals hW ag
     simp only[knows]at ag
     try simp only[ai]at ag
     clear ag;have m0:=M3 W hW;refine⟨?_⟩;simp only[fill];go_simp
     first | exact⟨ae.refl _ _,rfl⟩ | exact⟨ae.alloc _ _,rfl⟩
    iterate 2
     simp only[af];refine ls ?_;simp only[af];refine ls ?_;simp only[af];refine lo ?_;simp only[af];refine lo ?_;simp only[af];refine lo ?_
    iterate 3
     simp only[af];refine ls ?_
    simp only[af];apply ak
    ·intro W vals hW ag
     simp only[knows]at ag
     try simp only[ai]at ag
     clear ag;have m0:=M3 W hW;refine⟨?_⟩;simp only[fill];go_simp
     first | exact⟨ae.refl _ _,rfl⟩ | exact⟨ae.alloc _ _,rfl⟩
    iterate 2
     simp only[af];refine ls ?_
    iterate 3
     simp only[af];refine lo ?_
    iterate 2
     simp only[af];refine ls ?_
    simp only[af];refine aq (λW vals hW ag=> ?_);simp only[aw]at ag
    try simp only[ai]at ag
    simp only[fill,Act.put,bo,bn,bh]
    go_wp2_with fail
    go_meet
    case rel=>exact⟨by rw[<-MQ.o];rfl,hW⟩
 case rest=>
  obtain⟨rfl,hk1⟩:=hcut;have kU:=zh (HK.o.ah hk1);have HM:=zh hk1;clear hk1
  go_upto_region 2 with fail
  cases xn with
  | true=>
   cases xb with
   | true=>
    cases xq with
    | true=>
     refine av ax _ 17 rfl (by kernel_rfl) (by kernel_rfl) (λ_=>ae.refl _ _) (λ_ _ _ h k=>h.trans k (by simp)) ?_;simp only[dc,dg,dF,dK];refine ls ?_;simp only[af];apply ak
     ·intro W vals hW ag
      simp only[knows]at ag
      try simp only[ai]at ag
      clear ag;have m0:=M4 W (HM.o.ah hW);refine⟨?_⟩;simp only[fill];go_simp
      first | exact⟨ae.refl _ _,rfl⟩ | exact⟨ae.alloc _ _,rfl⟩
     simp only[af];apply ak
     ·intro W vals hW ag
      clear ag;refine⟨?_⟩;simp only[fill];go_simp;refine aC ?_;exact(CN.o W).mono (by rintro e w2 ⟨rfl,hk⟩;exact⟨_,rfl,hk,rfl⟩)
     iterate 2
      simp only[af];refine ls ?_
     simp only[af];apply ak
     ·intro W vals hW ag
      simp only[knows]at ag
      try simp only[ai]at ag
      clear ag;have m0:=M5 W (HM.o.ah hW);refine⟨?_⟩;simp only[fill];go_simp
      first | exact⟨ae.refl _ _,rfl⟩ | exact⟨ae.alloc _ _,rfl⟩
     iterate 5
      simp only[af];refine ls ?_
     simp only[af];apply ak
     ·intro W vals hW ag
      simp only[knows]at ag
      try simp only[ai]at ag
      clear ag;have m0:=M3 W (HM.o.ah hW);refine⟨?_⟩;simp only[fill];go_simp
      first | exact⟨ae.refl _ _,rfl⟩ | exact⟨ae.alloc _ _,rfl⟩
     simp only[af];apply ak
     ·intro W vals hW ag
      clear ag;refine⟨?_⟩;simp only[fill];go_simp;refine aC ?_;exact(CQ.o W).mono (by rintro e w2 ⟨rfl,hk⟩;exact⟨_,rfl,hk,rfl⟩)
     iterate 4
      simp only[af];refine ls ?_
     simp only[af];refine aq (λW vals hW ag=> ?_);simp only[aw]at ag
     try simp only[ai]at ag
     simp only[fill,Act.put,bo,bn,bh]
     go_wp2_with fail
     go_ret;exact⟨by rw[HX.o];rfl,kU.o.ah hW⟩
    | false=>
     refine av ax _ 17 rfl (by kernel_rfl) (by kernel_rfl) (λ_=>ae.refl _ _) (λ_ _ _ h k=>h.trans k (by simp)) ?_;simp only[dc,dg,dF,dK];refine ls ?_;simp only[af];apply ak
     ·intro W vals hW ag
      simp only[knows]at ag
      try simp only[ai]at ag
      clear ag;have m0:=M4 W (HM.o.ah hW);refine⟨?_⟩;simp only[fill];go_simp
      first | exact⟨ae.refl _ _,rfl⟩ | exact⟨ae.alloc _ _,rfl⟩
     simp only[af];apply ak
     ·intro W vals hW ag
      clear ag;refine⟨?_⟩;simp only[fill];go_simp;refine aC ?_;exact(CN.o W).mono (by rintro e w2 ⟨rfl,hk⟩;exact⟨_,rfl,hk,rfl⟩)
     iterate 2
      simp only[af];refine ls ?_
     simp only[af];apply ak
     ·intro W vals hW ag
      simp only[knows]at ag
      try simp only[ai]at ag
      clear ag;have m0:=M5 W (HM.o.ah hW);refine⟨?_⟩;simp only[fill];go_simp
      first | exact⟨ae.refl _ _,rfl⟩ | exact⟨ae.alloc _ _,rfl⟩
     iterate 5
      simp only[af];refine ls ?_
     simp only[af];apply ak
     ·intro W vals hW ag
      simp only[knows]at ag
      try simp only[ai]at ag
      clear ag;have m0:=M3 W (HM.o.ah hW);refine⟨?_⟩;simp only[fill];go_simp
      first | exact⟨ae.refl _ _,rfl⟩ | exact⟨ae.alloc _ _,rfl⟩
     simp only[af];apply ak
     ·intro W vals hW ag
      clear ag;refine⟨?_⟩;simp only[fill];go_simp;refine aC ?_;exact(CQ.o W).mono (by rintro e w2 ⟨rfl,hk⟩;exact⟨_,rfl,hk,rfl⟩)
     iterate 2
      simp only[af];refine ls ?_
     simp only[af];refine lo ?_;simp only[af];refine ls ?_;simp only[af];refine aq (λW vals hW ag=> ?_);simp only[aw]at ag
     try simp only[ai]at ag
     simp only[fill,Act.put,bo,bn,bh]
     go_wp2_with fail
     go_ret;exact⟨by rw[HX.o];rfl,kU.o.ah hW⟩
   | false=>
    refine av ax _ 17 rfl (by kernel_rfl) (by kernel_rfl) (λ_=>ae.refl _ _) (λ_ _ _ h k=>h.trans k (by simp)) ?_;simp only[dc,dg,dF,dK];refine ls ?_;simp only[af];apply ak
    ·intro W vals hW ag
     simp only[knows]at ag
     try simp only[ai]at ag
     clear ag;have m0:=M4 W (HM.o.ah hW);refine⟨?_⟩;simp only[fill];go_simp
     first | exact⟨ae.refl _ _,rfl⟩ | exact⟨ae.alloc _ _,rfl⟩
    simp only[af];apply ak
    ·intro W vals hW ag
     clear ag;refine⟨?_⟩;simp only[fill];go_simp;refine aC ?_;exact(CN.o W).mono (by rintro e w2 ⟨rfl,hk⟩;exact⟨_,rfl,hk,rfl⟩)
    iterate 2
     simp only[af];refine ls ?_
    simp only[af];apply ak
    ·intro W vals hW ag
     simp only[knows]at ag
     try simp only[ai]at ag
     clear ag;have m0:=M5 W (HM.o.ah hW);refine⟨?_⟩;simp only[fill];go_simp
     first | exact⟨ae.refl _ _,rfl⟩ | exact⟨ae.alloc _ _,rfl⟩
    iterate 4
     simp only[af];refine ls ?_
    iterate 3
     simp only[af];refine lo ?_
    iterate 2
     simp only[af];refine ls ?_
    simp only[af];refine lo ?_;simp only[af];refine ls ?_;simp only[af];refine aq (λW vals hW ag=> ?_);simp only[aw]at ag
    try simp only[ai]at ag
    simp only[fill,Act.put,bo,bn,bh]
    go_wp2_with fail
    go_ret;exact⟨by rw[HX.o];rfl,kU.o.ah hW⟩
  | false=>
   refine av ax _ 17 rfl (by kernel_rfl) (by kernel_rfl) (λ_=>ae.refl _ _) (λ_ _ _ h k=>h.trans k (by simp)) ?_;simp only[dc,dg,dF,dK];refine ls ?_;simp only[af];apply ak
   ·intro W vals hW ag
    simp only[knows]at ag
    try simp only[ai]at ag
    clear ag;have m0:=M4 W (HM.o.ah hW);refine⟨?_⟩;simp only[fill];go_simp
    first | exact⟨ae.refl _ _,rfl⟩ | exact⟨ae.alloc _ _,rfl⟩
   simp only[af];apply ak
   ·intro W vals hW ag
    clear ag;refine⟨?_⟩;simp only[fill];go_simp;refine aC ?_;exact(CN.o W).mono (by rintro e w2 ⟨rfl,hk⟩;exact⟨_,rfl,hk,rfl⟩)
   simp only[af];refine ls ?_
   iterate 4
    simp only[af];refine lo ?_
   iterate 2
    simp only[af];refine ls ?_
   iterate 3
    simp only[af];refine lo ?_
   iterate 2
    simp only[af];refine ls ?_
   simp only[af];refine lo ?_;simp only[af];refine ls ?_;simp only[af];refine aq (λW vals hW ag=> ?_);simp only[aw]at ag
   try simp only[ai]at ag
   simp only[fill,Act.put,bo,bn,bh]
   go_wp2_with fail
   go_ret;exact⟨by rw[HX.o];rfl,kU.o.ah hW⟩
end Go.Proofs.YtahbikfbjenfpaaGreatDoor
