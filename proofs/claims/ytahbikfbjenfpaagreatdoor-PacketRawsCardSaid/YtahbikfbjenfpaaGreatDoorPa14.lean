/- Package packet: may a publish be? -/
import Derived.Test.YtahbikfbjenfpaaGreatDoorPa12
import Derived.Test.YtahbikfbjenfpaaGreatDoorPa13

namespace Go.Proofs.YtahbikfbjenfpaaGreatDoor
open Go.RowKit

theorem pkMay3_eq {p:Pk}(hk:p.k=3):pkMay p=(tName p.t && (decide ((p.b.length:Int)≤2000) && (pkIn p.q 0 2 && ((p.q==0 && (p.id==0 && !p.dup)) || (decide (p.q > 0) && pkIn p.id 1 65535))))):=by
 unfold pkMay;rw[if_neg (by omega),if_neg (by omega),if_pos hk];have e:decide (p.b.length≤2000)=decide ((p.b.length:Int)≤2000):=by rw[decide_eq_decide];omega
 rw[e]
 congr 1
 congr 1
 by_cases hq:p.q=0
 ·rw[if_pos hq,hq]
  simp
 ·rw[if_neg hq]
  have h0:(p.q==0)=false:=by simpa using hq
  rw[h0]
  by_cases h1:0≤p.q
  ·rw[decide_eq_true (show p.q > 0 by omega)]
   unfold pkId;simp
  ·have:pkIn p.q 0 2=false:=by unfold pkIn;simp;omega
   rw[this];rfl
set_option maxRecDepth 100000 in
set_option maxHeartbeats 1000000 in
theorem pkMay3_any (p:Pk)(sw sc sf:Value)(w:World)(hk:p.k=3)(hs:PkSm p):Calls Tryz.prog 132 #[pkV p sw sc sf] w (TruePost w (pkMay p)):=by
 have HX:=zh (pkMay3_eq hk);have hbt:=hs.t
 generalize pkMay p=X at HX ⊢
 clear hk hs;obtain⟨k,dup,ret,q,t,b,id,c,cl,keep,hw,wt,wb,wq,wr,hu,hp,u,pw,pr,code,wants,codes,fs⟩:=p;simp only at HX hbt;have CN:=zh (fun W=>tName_any W t (by omega));have CQ:=zh (fun W=>pkQos_any q W);have CI:=zh (fun W=>pkWithin_any id 1 65535 W)
 generalize tName t=xn at HX CN
 generalize pkIn q 0 2=xq at HX CQ
 generalize pkIn id 1 65535=xi at HX CI
 obtain⟨xb,hxb⟩:∃x,decide ((b.length:Int)≤2000)=x:=⟨_,rfl⟩;obtain⟨z1,hz1⟩:∃x,(q==0)=x:=⟨_,rfl⟩;obtain⟨z2,hz2⟩:∃x,(id==0)=x:=⟨_,rfl⟩;obtain⟨z3,hz3⟩:∃x,decide (q > 0)=x:=⟨_,rfl⟩;rw[hxb,hz1,hz2,hz3]at HX;obtain⟨W0,hW0⟩:∃W,(w).alloc (.cells (zP k dup ret q t b id c cl keep hw wt wb wq wr hu hp u pw pr code sw sc sf) 29)=W:=⟨_,rfl⟩;have k0:Keeps (w) W0 []:=by rw[←hW0];exact Keeps.alloc _ _
 have r0:Row W0 (w).heap.size 29 (zP k dup ret q t b id c cl keep hw wt wb wq wr hu hp u pw pr code sw sc sf):=by rw[←hW0];exact Row.new _ _ _
 have HR:=zh (And.intro k0 r0);clear k0 r0 hbt;obtain⟨ID,hID⟩:∃x,((z1 && (z2 && !dup)) || (z3 && xi))=x:=⟨_,rfl⟩;have HID:=zh hID;rw[hID]at HX;clear hID
 go_enter Tryz.func132,Tryz.ntmps132
 go_upto_region 1 with fail
 clear hW0;have M0:=fun(W' :World) (hW:Keeps (W0) W' [])=>((HR.out.2).keeps hW).cell 0
 have M1:=fun(W' :World) (hW:Keeps (W0) W' [])=>((HR.out.2).keeps hW).cell 1
 have M2:=fun(W' :World) (hW:Keeps (W0) W' [])=>((HR.out.2).keeps hW).cell 2
 have M3:=fun(W' :World) (hW:Keeps (W0) W' [])=>((HR.out.2).keeps hW).cell 3
 have M4:=fun(W' :World) (hW:Keeps (W0) W' [])=>((HR.out.2).keeps hW).cell 4
 have M5:=fun(W' :World) (hW:Keeps (W0) W' [])=>((HR.out.2).keeps hW).cell 5
 have M6:=fun(W' :World) (hW:Keeps (W0) W' [])=>((HR.out.2).keeps hW).cell 6
 have M7:=fun(W' :World) (hW:Keeps (W0) W' [])=>((HR.out.2).keeps hW).cell 7
 have M8:=fun(W' :World) (hW:Keeps (W0) W' [])=>((HR.out.2).keeps hW).cell 8
 have M9:=fun(W' :World) (hW:Keeps (W0) W' [])=>((HR.out.2).keeps hW).cell 9
 have M10:=fun(W' :World) (hW:Keeps (W0) W' [])=>((HR.out.2).keeps hW).cell 10
 have M11:=fun(W' :World) (hW:Keeps (W0) W' [])=>((HR.out.2).keeps hW).cell 11
 have M12:=fun(W' :World) (hW:Keeps (W0) W' [])=>((HR.out.2).keeps hW).cell 12
 have M13:=fun(W' :World) (hW:Keeps (W0) W' [])=>((HR.out.2).keeps hW).cell 13
 have M14:=fun(W' :World) (hW:Keeps (W0) W' [])=>((HR.out.2).keeps hW).cell 14
 have M15:=fun(W' :World) (hW:Keeps (W0) W' [])=>((HR.out.2).keeps hW).cell 15
 have M16:=fun(W' :World) (hW:Keeps (W0) W' [])=>((HR.out.2).keeps hW).cell 16
 have M17:=fun(W' :World) (hW:Keeps (W0) W' [])=>((HR.out.2).keeps hW).cell 17
 have M18:=fun(W' :World) (hW:Keeps (W0) W' [])=>((HR.out.2).keeps hW).cell 18
 have M19:=fun(W' :World) (hW:Keeps (W0) W' [])=>((HR.out.2).keeps hW).cell 19
 have M20:=fun(W' :World) (hW:Keeps (W0) W' [])=>((HR.out.2).keeps hW).cell 20
 have M21:=fun(W' :World) (hW:Keeps (W0) W' [])=>((HR.out.2).keeps hW).cell 21
 have M22:=fun(W' :World) (hW:Keeps (W0) W' [])=>((HR.out.2).keeps hW).cell 22
 have M23:=fun(W' :World) (hW:Keeps (W0) W' [])=>((HR.out.2).keeps hW).cell 23
 simp only[zga,zgz,zgs]at M0 M1 M2 M3 M4 M5 M6 M7 M8 M9 M10 M11 M12 M13 M14 M15 M16 M17 M18 M19 M20 M21 M22 M23;have HK:=zh HR.out.1;clear HR
 go_cut [3] (fun v wx=>v= .bool ID∧Keeps W0 wx [])
 case first=>
  cases z1 with
  | true=>
   cases z2 with
   | true=>
    cases dup with
    | true=>
     cases z3 with
     | true=>
      refine wp_region_line KeepsAll _ 23 rfl (by kernel_rfl) (by kernel_rfl) (fun _=>Keeps.refl _ _) (fun _ _ _ h k=>h.trans k (by simp)) ?_;simp only[zts,ztz,zds,zdz];refine ls ?_;simp only[addEnt];apply loose_is
      ·intro W vals hW hkn
       simp only[knows]at hkn
       try simp only[and_true]at hkn
       clear hkn;have m0:=M3 W hW;refine⟨?_⟩;simp only[fill];go_simp
       first | exact⟨Keeps.refl _ _,rfl⟩ | exact⟨Keeps.alloc _ _,rfl⟩
      iterate 3
       simp only[addEnt];refine ls ?_
      simp only[addEnt];apply loose_is
      ·intro W vals hW hkn
       simp only[knows]at hkn
       try simp only[and_true]at hkn
       clear hkn;have m0:=M6 W hW;refine⟨?_⟩;simp only[fill];go_simp
       first | exact⟨Keeps.refl _ _,rfl⟩ | exact⟨Keeps.alloc _ _,rfl⟩
      iterate 4
       simp only[addEnt];refine ls ?_
      simp only[addEnt];apply loose_is
      ·intro W vals hW hkn
       simp only[knows]at hkn
       try simp only[and_true]at hkn
       clear hkn;have m0:=M1 W hW;refine⟨?_⟩;simp only[fill];go_simp
       first | exact⟨Keeps.refl _ _,rfl⟩ | exact⟨Keeps.alloc _ _,rfl⟩
      iterate 4
       simp only[addEnt];refine ls ?_
      simp only[addEnt];apply loose_is
      ·intro W vals hW hkn
       simp only[knows]at hkn
       try simp only[and_true]at hkn
       clear hkn;have m0:=M3 W hW;refine⟨?_⟩;simp only[fill];go_simp
       first | exact⟨Keeps.refl _ _,rfl⟩ | exact⟨Keeps.alloc _ _,rfl⟩
      iterate 3
       simp only[addEnt];refine ls ?_
      simp only[addEnt];apply loose_is
      ·intro W vals hW hkn
       simp only[knows]at hkn
       try simp only[and_true]at hkn
       clear hkn;have m0:=M6 W hW;refine⟨?_⟩;simp only[fill];go_simp
       first | exact⟨Keeps.refl _ _,rfl⟩ | exact⟨Keeps.alloc _ _,rfl⟩
      simp only[addEnt];apply loose_is
      ·intro W vals hW hkn
       clear hkn;refine⟨?_⟩;simp only[fill];go_simp;refine looseUpon_calls ?_;exact(CI.out W).mono (by rintro e w2 ⟨rfl,hk⟩;exact⟨_,rfl,hk,rfl⟩)
      iterate 2
       simp only[addEnt];refine ls ?_
      simp only[addEnt];refine loose_nil (fun W vals hW hkn=> ?_);simp only[knowsAll]at hkn
      try simp only[and_true]at hkn
      simp only[fill,Act.put,zsa,zsc,zsz]
      go_wp2_with fail
      go_meet
      case rel=>exact⟨by rw[←HID.out];rfl,hW⟩
     | false=>
      refine wp_region_line KeepsAll _ 23 rfl (by kernel_rfl) (by kernel_rfl) (fun _=>Keeps.refl _ _) (fun _ _ _ h k=>h.trans k (by simp)) ?_;simp only[zts,ztz,zds,zdz];refine ls ?_;simp only[addEnt];apply loose_is
      ·intro W vals hW hkn
       simp only[knows]at hkn
       try simp only[and_true]at hkn
       clear hkn;have m0:=M3 W hW;refine⟨?_⟩;simp only[fill];go_simp
       first | exact⟨Keeps.refl _ _,rfl⟩ | exact⟨Keeps.alloc _ _,rfl⟩
      iterate 3
       simp only[addEnt];refine ls ?_
      simp only[addEnt];apply loose_is
      ·intro W vals hW hkn
       simp only[knows]at hkn
       try simp only[and_true]at hkn
       clear hkn;have m0:=M6 W hW;refine⟨?_⟩;simp only[fill];go_simp
       first | exact⟨Keeps.refl _ _,rfl⟩ | exact⟨Keeps.alloc _ _,rfl⟩
      iterate 4
       simp only[addEnt];refine ls ?_
      simp only[addEnt];apply loose_is
      ·intro W vals hW hkn
       simp only[knows]at hkn
       try simp only[and_true]at hkn
       clear hkn;have m0:=M1 W hW;refine⟨?_⟩;simp only[fill];go_simp
       first | exact⟨Keeps.refl _ _,rfl⟩ | exact⟨Keeps.alloc _ _,rfl⟩
      iterate 4
       simp only[addEnt];refine ls ?_
      simp only[addEnt];apply loose_is
      ·intro W vals hW hkn
       simp only[knows]at hkn
       try simp only[and_true]at hkn
       clear hkn;have m0:=M3 W hW;refine⟨?_⟩;simp only[fill];go_simp
       first | exact⟨Keeps.refl _ _,rfl⟩ | exact⟨Keeps.alloc _ _,rfl⟩
      iterate 2
       simp only[addEnt];refine ls ?_
      iterate 3
       simp only[addEnt];refine lo ?_
      iterate 2
       simp only[addEnt];refine ls ?_
      simp only[addEnt];refine loose_nil (fun W vals hW hkn=> ?_);simp only[knowsAll]at hkn
      try simp only[and_true]at hkn
      simp only[fill,Act.put,zsa,zsc,zsz]
      go_wp2_with fail
      go_meet
      case rel=>exact⟨by rw[←HID.out];rfl,hW⟩
    | false=>
     refine wp_region_line KeepsAll _ 23 rfl (by kernel_rfl) (by kernel_rfl) (fun _=>Keeps.refl _ _) (fun _ _ _ h k=>h.trans k (by simp)) ?_;simp only[zts,ztz,zds,zdz];refine ls ?_;simp only[addEnt];apply loose_is
     ·intro W vals hW hkn
      simp only[knows]at hkn
      try simp only[and_true]at hkn
      clear hkn;have m0:=M3 W hW;refine⟨?_⟩;simp only[fill];go_simp
      first | exact⟨Keeps.refl _ _,rfl⟩ | exact⟨Keeps.alloc _ _,rfl⟩
     iterate 3
      simp only[addEnt];refine ls ?_
     simp only[addEnt];apply loose_is
     ·intro W vals hW hkn
      simp only[knows]at hkn
      try simp only[and_true]at hkn
      clear hkn;have m0:=M6 W hW;refine⟨?_⟩;simp only[fill];go_simp
      first | exact⟨Keeps.refl _ _,rfl⟩ | exact⟨Keeps.alloc _ _,rfl⟩
     iterate 4
      simp only[addEnt];refine ls ?_
     simp only[addEnt];apply loose_is
     ·intro W vals hW hkn
      simp only[knows]at hkn
      try simp only[and_true]at hkn
      clear hkn;have m0:=M1 W hW;refine⟨?_⟩;simp only[fill];go_simp
      first | exact⟨Keeps.refl _ _,rfl⟩ | exact⟨Keeps.alloc _ _,rfl⟩
     iterate 3
      simp only[addEnt];refine ls ?_
     iterate 8
      simp only[addEnt];refine lo ?_
     simp only[addEnt];refine ls ?_;simp only[addEnt];refine loose_nil (fun W vals hW hkn=> ?_);simp only[knowsAll]at hkn
     try simp only[and_true]at hkn
     simp only[fill,Act.put,zsa,zsc,zsz]
     go_wp2_with fail
     go_meet
     case rel=>exact⟨by rw[←HID.out];rfl,hW⟩
   | false=>
    cases z3 with
    | true=>
     refine wp_region_line KeepsAll _ 23 rfl (by kernel_rfl) (by kernel_rfl) (fun _=>Keeps.refl _ _) (fun _ _ _ h k=>h.trans k (by simp)) ?_;simp only[zts,ztz,zds,zdz];refine ls ?_;simp only[addEnt];apply loose_is
     ·intro W vals hW hkn
      simp only[knows]at hkn
      try simp only[and_true]at hkn
      clear hkn;have m0:=M3 W hW;refine⟨?_⟩;simp only[fill];go_simp
      first | exact⟨Keeps.refl _ _,rfl⟩ | exact⟨Keeps.alloc _ _,rfl⟩
     iterate 3
      simp only[addEnt];refine ls ?_
     simp only[addEnt];apply loose_is
     ·intro W vals hW hkn
      simp only[knows]at hkn
      try simp only[and_true]at hkn
      clear hkn;have m0:=M6 W hW;refine⟨?_⟩;simp only[fill];go_simp
      first | exact⟨Keeps.refl _ _,rfl⟩ | exact⟨Keeps.alloc _ _,rfl⟩
     iterate 3
      simp only[addEnt];refine ls ?_
     iterate 3
      simp only[addEnt];refine lo ?_
     iterate 3
      simp only[addEnt];refine ls ?_
     simp only[addEnt];apply loose_is
     ·intro W vals hW hkn
      simp only[knows]at hkn
      try simp only[and_true]at hkn
      clear hkn;have m0:=M3 W hW;refine⟨?_⟩;simp only[fill];go_simp
      first | exact⟨Keeps.refl _ _,rfl⟩ | exact⟨Keeps.alloc _ _,rfl⟩
     iterate 3
      simp only[addEnt];refine ls ?_
     simp only[addEnt];apply loose_is
     ·intro W vals hW hkn
      simp only[knows]at hkn
      try simp only[and_true]at hkn
      clear hkn;have m0:=M6 W hW;refine⟨?_⟩;simp only[fill];go_simp
      first | exact⟨Keeps.refl _ _,rfl⟩ | exact⟨Keeps.alloc _ _,rfl⟩
     simp only[addEnt];apply loose_is
     ·intro W vals hW hkn
      clear hkn;refine⟨?_⟩;simp only[fill];go_simp;refine looseUpon_calls ?_;exact(CI.out W).mono (by rintro e w2 ⟨rfl,hk⟩;exact⟨_,rfl,hk,rfl⟩)
     iterate 2
      simp only[addEnt];refine ls ?_
     simp only[addEnt];refine loose_nil (fun W vals hW hkn=> ?_);simp only[knowsAll]at hkn
     try simp only[and_true]at hkn
     simp only[fill,Act.put,zsa,zsc,zsz]
     go_wp2_with fail
     go_meet
     case rel=>exact⟨by rw[←HID.out];rfl,hW⟩
    | false=>
     refine wp_region_line KeepsAll _ 23 rfl (by kernel_rfl) (by kernel_rfl) (fun _=>Keeps.refl _ _) (fun _ _ _ h k=>h.trans k (by simp)) ?_;simp only[zts,ztz,zds,zdz];refine ls ?_;simp only[addEnt];apply loose_is
     ·intro W vals hW hkn
      simp only[knows]at hkn
      try simp only[and_true]at hkn
      clear hkn;have m0:=M3 W hW;refine⟨?_⟩;simp only[fill];go_simp
      first | exact⟨Keeps.refl _ _,rfl⟩ | exact⟨Keeps.alloc _ _,rfl⟩
     iterate 3
      simp only[addEnt];refine ls ?_
     simp only[addEnt];apply loose_is
     ·intro W vals hW hkn
      simp only[knows]at hkn
      try simp only[and_true]at hkn
      clear hkn;have m0:=M6 W hW;refine⟨?_⟩;simp only[fill];go_simp
      first | exact⟨Keeps.refl _ _,rfl⟩ | exact⟨Keeps.alloc _ _,rfl⟩
     iterate 3
      simp only[addEnt];refine ls ?_
     iterate 3
      simp only[addEnt];refine lo ?_
     iterate 3
      simp only[addEnt];refine ls ?_
     simp only[addEnt];apply loose_is
     ·intro W vals hW hkn
      simp only[knows]at hkn
      try simp only[and_true]at hkn
      clear hkn;have m0:=M3 W hW;refine⟨?_⟩;simp only[fill];go_simp
      first | exact⟨Keeps.refl _ _,rfl⟩ | exact⟨Keeps.alloc _ _,rfl⟩
     iterate 2
      simp only[addEnt];refine ls ?_
     iterate 3
      simp only[addEnt];refine lo ?_
     iterate 2
      simp only[addEnt];refine ls ?_
     simp only[addEnt];refine loose_nil (fun W vals hW hkn=> ?_);simp only[knowsAll]at hkn
     try simp only[and_true]at hkn
     simp only[fill,Act.put,zsa,zsc,zsz]
     go_wp2_with fail
     go_meet
     case rel=>exact⟨by rw[←HID.out];rfl,hW⟩
  | false=>
   cases z3 with
   | true=>
    refine wp_region_line KeepsAll _ 23 rfl (by kernel_rfl) (by kernel_rfl) (fun _=>Keeps.refl _ _) (fun _ _ _ h k=>h.trans k (by simp)) ?_;simp only[zts,ztz,zds,zdz];refine ls ?_;simp only[addEnt];apply loose_is
    ·intro W vals hW hkn
     simp only[knows]at hkn
     try simp only[and_true]at hkn
     clear hkn;have m0:=M3 W hW;refine⟨?_⟩;simp only[fill];go_simp
     first | exact⟨Keeps.refl _ _,rfl⟩ | exact⟨Keeps.alloc _ _,rfl⟩
    iterate 2
     simp only[addEnt];refine ls ?_;simp only[addEnt];refine ls ?_;simp only[addEnt];refine lo ?_;simp only[addEnt];refine lo ?_;simp only[addEnt];refine lo ?_
    iterate 3
     simp only[addEnt];refine ls ?_
    simp only[addEnt];apply loose_is
    ·intro W vals hW hkn
     simp only[knows]at hkn
     try simp only[and_true]at hkn
     clear hkn;have m0:=M3 W hW;refine⟨?_⟩;simp only[fill];go_simp
     first | exact⟨Keeps.refl _ _,rfl⟩ | exact⟨Keeps.alloc _ _,rfl⟩
    iterate 3
     simp only[addEnt];refine ls ?_
    simp only[addEnt];apply loose_is
    ·intro W vals hW hkn
     simp only[knows]at hkn
     try simp only[and_true]at hkn
     clear hkn;have m0:=M6 W hW;refine⟨?_⟩;simp only[fill];go_simp
     first | exact⟨Keeps.refl _ _,rfl⟩ | exact⟨Keeps.alloc _ _,rfl⟩
    simp only[addEnt];apply loose_is
    ·intro W vals hW hkn
     clear hkn;refine⟨?_⟩;simp only[fill];go_simp;refine looseUpon_calls ?_;exact(CI.out W).mono (by rintro e w2 ⟨rfl,hk⟩;exact⟨_,rfl,hk,rfl⟩)
    iterate 2
     simp only[addEnt];refine ls ?_
    simp only[addEnt];refine loose_nil (fun W vals hW hkn=> ?_);simp only[knowsAll]at hkn
    try simp only[and_true]at hkn
    simp only[fill,Act.put,zsa,zsc,zsz]
    go_wp2_with fail
    go_meet
    case rel=>exact⟨by rw[←HID.out];rfl,hW⟩
   | false=>
    refine wp_region_line KeepsAll _ 23 rfl (by kernel_rfl) (by kernel_rfl) (fun _=>Keeps.refl _ _) (fun _ _ _ h k=>h.trans k (by simp)) ?_;simp only[zts,ztz,zds,zdz];refine ls ?_;simp only[addEnt];apply loose_is
    ·intro W vals hW hkn
     simp only[knows]at hkn
     try simp only[and_true]at hkn
     clear hkn;have m0:=M3 W hW;refine⟨?_⟩;simp only[fill];go_simp
     first | exact⟨Keeps.refl _ _,rfl⟩ | exact⟨Keeps.alloc _ _,rfl⟩
    iterate 2
     simp only[addEnt];refine ls ?_;simp only[addEnt];refine ls ?_;simp only[addEnt];refine lo ?_;simp only[addEnt];refine lo ?_;simp only[addEnt];refine lo ?_
    iterate 3
     simp only[addEnt];refine ls ?_
    simp only[addEnt];apply loose_is
    ·intro W vals hW hkn
     simp only[knows]at hkn
     try simp only[and_true]at hkn
     clear hkn;have m0:=M3 W hW;refine⟨?_⟩;simp only[fill];go_simp
     first | exact⟨Keeps.refl _ _,rfl⟩ | exact⟨Keeps.alloc _ _,rfl⟩
    iterate 2
     simp only[addEnt];refine ls ?_
    iterate 3
     simp only[addEnt];refine lo ?_
    iterate 2
     simp only[addEnt];refine ls ?_
    simp only[addEnt];refine loose_nil (fun W vals hW hkn=> ?_);simp only[knowsAll]at hkn
    try simp only[and_true]at hkn
    simp only[fill,Act.put,zsa,zsc,zsz]
    go_wp2_with fail
    go_meet
    case rel=>exact⟨by rw[←HID.out];rfl,hW⟩
 case rest=>
  obtain⟨rfl,hk1⟩:=hcut;have HK1:=zh (HK.out.then_ hk1);have HM:=zh hk1;clear hk1
  go_upto_region 2 with fail
  cases xn with
  | true=>
   cases xb with
   | true=>
    cases xq with
    | true=>
     refine wp_region_line KeepsAll _ 17 rfl (by kernel_rfl) (by kernel_rfl) (fun _=>Keeps.refl _ _) (fun _ _ _ h k=>h.trans k (by simp)) ?_;simp only[zts,ztz,zds,zdz];refine ls ?_;simp only[addEnt];apply loose_is
     ·intro W vals hW hkn
      simp only[knows]at hkn
      try simp only[and_true]at hkn
      clear hkn;have m0:=M4 W (HM.out.then_ hW);refine⟨?_⟩;simp only[fill];go_simp
      first | exact⟨Keeps.refl _ _,rfl⟩ | exact⟨Keeps.alloc _ _,rfl⟩
     simp only[addEnt];apply loose_is
     ·intro W vals hW hkn
      clear hkn;refine⟨?_⟩;simp only[fill];go_simp;refine looseUpon_calls ?_;exact(CN.out W).mono (by rintro e w2 ⟨rfl,hk⟩;exact⟨_,rfl,hk,rfl⟩)
     iterate 2
      simp only[addEnt];refine ls ?_
     simp only[addEnt];apply loose_is
     ·intro W vals hW hkn
      simp only[knows]at hkn
      try simp only[and_true]at hkn
      clear hkn;have m0:=M5 W (HM.out.then_ hW);refine⟨?_⟩;simp only[fill];go_simp
      first | exact⟨Keeps.refl _ _,rfl⟩ | exact⟨Keeps.alloc _ _,rfl⟩
     iterate 5
      simp only[addEnt];refine ls ?_
     simp only[addEnt];apply loose_is
     ·intro W vals hW hkn
      simp only[knows]at hkn
      try simp only[and_true]at hkn
      clear hkn;have m0:=M3 W (HM.out.then_ hW);refine⟨?_⟩;simp only[fill];go_simp
      first | exact⟨Keeps.refl _ _,rfl⟩ | exact⟨Keeps.alloc _ _,rfl⟩
     simp only[addEnt];apply loose_is
     ·intro W vals hW hkn
      clear hkn;refine⟨?_⟩;simp only[fill];go_simp;refine looseUpon_calls ?_;exact(CQ.out W).mono (by rintro e w2 ⟨rfl,hk⟩;exact⟨_,rfl,hk,rfl⟩)
     iterate 4
      simp only[addEnt];refine ls ?_
     simp only[addEnt];refine loose_nil (fun W vals hW hkn=> ?_);simp only[knowsAll]at hkn
     try simp only[and_true]at hkn
     simp only[fill,Act.put,zsa,zsc,zsz]
     go_wp2_with fail
     go_ret;exact⟨by rw[HX.out];rfl,HK1.out.then_ hW⟩
    | false=>
     refine wp_region_line KeepsAll _ 17 rfl (by kernel_rfl) (by kernel_rfl) (fun _=>Keeps.refl _ _) (fun _ _ _ h k=>h.trans k (by simp)) ?_;simp only[zts,ztz,zds,zdz];refine ls ?_;simp only[addEnt];apply loose_is
     ·intro W vals hW hkn
      simp only[knows]at hkn
      try simp only[and_true]at hkn
      clear hkn;have m0:=M4 W (HM.out.then_ hW);refine⟨?_⟩;simp only[fill];go_simp
      first | exact⟨Keeps.refl _ _,rfl⟩ | exact⟨Keeps.alloc _ _,rfl⟩
     simp only[addEnt];apply loose_is
     ·intro W vals hW hkn
      clear hkn;refine⟨?_⟩;simp only[fill];go_simp;refine looseUpon_calls ?_;exact(CN.out W).mono (by rintro e w2 ⟨rfl,hk⟩;exact⟨_,rfl,hk,rfl⟩)
     iterate 2
      simp only[addEnt];refine ls ?_
     simp only[addEnt];apply loose_is
     ·intro W vals hW hkn
      simp only[knows]at hkn
      try simp only[and_true]at hkn
      clear hkn;have m0:=M5 W (HM.out.then_ hW);refine⟨?_⟩;simp only[fill];go_simp
      first | exact⟨Keeps.refl _ _,rfl⟩ | exact⟨Keeps.alloc _ _,rfl⟩
     iterate 5
      simp only[addEnt];refine ls ?_
     simp only[addEnt];apply loose_is
     ·intro W vals hW hkn
      simp only[knows]at hkn
      try simp only[and_true]at hkn
      clear hkn;have m0:=M3 W (HM.out.then_ hW);refine⟨?_⟩;simp only[fill];go_simp
      first | exact⟨Keeps.refl _ _,rfl⟩ | exact⟨Keeps.alloc _ _,rfl⟩
     simp only[addEnt];apply loose_is
     ·intro W vals hW hkn
      clear hkn;refine⟨?_⟩;simp only[fill];go_simp;refine looseUpon_calls ?_;exact(CQ.out W).mono (by rintro e w2 ⟨rfl,hk⟩;exact⟨_,rfl,hk,rfl⟩)
     iterate 2
      simp only[addEnt];refine ls ?_
     simp only[addEnt];refine lo ?_;simp only[addEnt];refine ls ?_;simp only[addEnt];refine loose_nil (fun W vals hW hkn=> ?_);simp only[knowsAll]at hkn
     try simp only[and_true]at hkn
     simp only[fill,Act.put,zsa,zsc,zsz]
     go_wp2_with fail
     go_ret;exact⟨by rw[HX.out];rfl,HK1.out.then_ hW⟩
   | false=>
    refine wp_region_line KeepsAll _ 17 rfl (by kernel_rfl) (by kernel_rfl) (fun _=>Keeps.refl _ _) (fun _ _ _ h k=>h.trans k (by simp)) ?_;simp only[zts,ztz,zds,zdz];refine ls ?_;simp only[addEnt];apply loose_is
    ·intro W vals hW hkn
     simp only[knows]at hkn
     try simp only[and_true]at hkn
     clear hkn;have m0:=M4 W (HM.out.then_ hW);refine⟨?_⟩;simp only[fill];go_simp
     first | exact⟨Keeps.refl _ _,rfl⟩ | exact⟨Keeps.alloc _ _,rfl⟩
    simp only[addEnt];apply loose_is
    ·intro W vals hW hkn
     clear hkn;refine⟨?_⟩;simp only[fill];go_simp;refine looseUpon_calls ?_;exact(CN.out W).mono (by rintro e w2 ⟨rfl,hk⟩;exact⟨_,rfl,hk,rfl⟩)
    iterate 2
     simp only[addEnt];refine ls ?_
    simp only[addEnt];apply loose_is
    ·intro W vals hW hkn
     simp only[knows]at hkn
     try simp only[and_true]at hkn
     clear hkn;have m0:=M5 W (HM.out.then_ hW);refine⟨?_⟩;simp only[fill];go_simp
     first | exact⟨Keeps.refl _ _,rfl⟩ | exact⟨Keeps.alloc _ _,rfl⟩
    iterate 4
     simp only[addEnt];refine ls ?_
    iterate 3
     simp only[addEnt];refine lo ?_
    iterate 2
     simp only[addEnt];refine ls ?_
    simp only[addEnt];refine lo ?_;simp only[addEnt];refine ls ?_;simp only[addEnt];refine loose_nil (fun W vals hW hkn=> ?_);simp only[knowsAll]at hkn
    try simp only[and_true]at hkn
    simp only[fill,Act.put,zsa,zsc,zsz]
    go_wp2_with fail
    go_ret;exact⟨by rw[HX.out];rfl,HK1.out.then_ hW⟩
  | false=>
   refine wp_region_line KeepsAll _ 17 rfl (by kernel_rfl) (by kernel_rfl) (fun _=>Keeps.refl _ _) (fun _ _ _ h k=>h.trans k (by simp)) ?_;simp only[zts,ztz,zds,zdz];refine ls ?_;simp only[addEnt];apply loose_is
   ·intro W vals hW hkn
    simp only[knows]at hkn
    try simp only[and_true]at hkn
    clear hkn;have m0:=M4 W (HM.out.then_ hW);refine⟨?_⟩;simp only[fill];go_simp
    first | exact⟨Keeps.refl _ _,rfl⟩ | exact⟨Keeps.alloc _ _,rfl⟩
   simp only[addEnt];apply loose_is
   ·intro W vals hW hkn
    clear hkn;refine⟨?_⟩;simp only[fill];go_simp;refine looseUpon_calls ?_;exact(CN.out W).mono (by rintro e w2 ⟨rfl,hk⟩;exact⟨_,rfl,hk,rfl⟩)
   simp only[addEnt];refine ls ?_
   iterate 4
    simp only[addEnt];refine lo ?_
   iterate 2
    simp only[addEnt];refine ls ?_
   iterate 3
    simp only[addEnt];refine lo ?_
   iterate 2
    simp only[addEnt];refine ls ?_
   simp only[addEnt];refine lo ?_;simp only[addEnt];refine ls ?_;simp only[addEnt];refine loose_nil (fun W vals hW hkn=> ?_);simp only[knowsAll]at hkn
   try simp only[and_true]at hkn
   simp only[fill,Act.put,zsa,zsc,zsz]
   go_wp2_with fail
   go_ret;exact⟨by rw[HX.out];rfl,HK1.out.then_ hW⟩
end Go.Proofs.YtahbikfbjenfpaaGreatDoor
