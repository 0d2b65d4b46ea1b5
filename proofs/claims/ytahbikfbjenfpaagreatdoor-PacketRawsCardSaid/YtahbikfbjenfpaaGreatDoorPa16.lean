/- Package packet: may a connect be? -/
import Derived.Test.YtahbikfbjenfpaaGreatDoorPa14
import Derived.Test.YtahbikfbjenfpaaGreatDoorPa15

namespace Go.Proofs.YtahbikfbjenfpaaGreatDoor
open Go.RowKit

theorem pkWill_eq (p:Pk):pkWill p=((!p.hw && willB p pkZ) || (p.hw && (tName p.wt && (decide ((p.wb.length:Int)≤2000) && pkIn p.wq 0 2)))):=by
 have e:decide (p.wb.length≤2000)=decide ((p.wb.length:Int)≤2000):=by rw[decide_eq_decide];omega
 unfold pkWill;rw[e]
 cases p.hw with
 | true=>simp
 | false=>
  rw[if_neg (by simp)];have:willB p pkZ=(p.wt.isEmpty && (p.wb.isEmpty && (p.wq==0 && !p.wr))):=by
   show(p.wt== [] && (p.wb== [] && (p.wq==0 && (p.wr==false && true))))=_;rw[Bool.eq_iff_iff];simp
  rw[this];simp
theorem pkUser_eq (p:Pk):pkUser p=((p.hu && pkSaid p.u 200) || (!p.hu && (p.u.isEmpty && !p.hp))):=by
 unfold pkUser
 cases p.hu <;> simp
theorem pkPass_eq (p:Pk):pkPass p=((p.hp && decide ((p.pw.length:Int)≤200)) || (!p.hp && p.pw.isEmpty)):=by
 have e:decide (p.pw.length≤200)=decide ((p.pw.length:Int)≤200):=by rw[decide_eq_decide];omega
 unfold pkPass;rw[e]
 cases p.hp <;> simp
theorem pkMay1_eq {p:Pk}(hk:p.k=1):pkMay p=(pkSaid p.c 23 && ((p.cl || !p.c.isEmpty) && (pkIn p.keep 0 65535 && (pkWill p && (pkUser p && pkPass p))))):=by
 unfold pkMay;rw[if_pos hk]
theorem str_nil (u:List UInt8):((⟨u.toArray⟩:ByteArray).toList==(⟨#[]⟩:ByteArray).toList)=u.isEmpty:=by
 cases u <;> simp
theorem str_some (u:List UInt8):(!((⟨u.toArray⟩:ByteArray).toList==(⟨#[]⟩:ByteArray).toList))= !u.isEmpty:=by
 rw[str_nil]
theorem undWill:∃d,Tryz.prog.underlying 24=some d∧d.isRow=true:=⟨_,Tryz.underlying24,rfl⟩
set_option maxRecDepth 100000 in
set_option maxHeartbeats 2000000 in
theorem pkMay1_any (p:Pk)(sw sc sf:Value)(w:World)(hk:p.k=1)(hs:PkSm p):Calls Tryz.prog 125 #[pkV p sw sc sf] w (TruePost w (pkMay p)):=by
 have HX:=zh (pkMay1_eq hk);have HZ:=zh (show∀W,(Op.equalIn 10000 24 (.agg #[.string ⟨p.wt.toArray⟩,.string ⟨p.wb.toArray⟩,.int .i64 p.wq,.bool p.wr]) (.agg #[.string ⟨#[]⟩,.string ⟨#[]⟩,.int .i64 0,.bool false])).run Tryz.prog W= .ok (willB p pkZ) W from fun W=>will_eq 9998 p pkZ W);have E1:=zh (pkWill_eq p);have E2:=zh (pkUser_eq p);have E3:=zh (pkPass_eq p);obtain⟨xz,hxz⟩:∃x,willB p pkZ=x:=⟨_,rfl⟩;rw[hxz]at HZ E1;clear hxz;have CN:=zh (fun W=>tName_any W p.wt (by have:=hs.wt;omega));have CQ:=zh (fun W=>pkQos_any p.wq W);have CK:=zh (fun W=>pkWithin_any p.keep 0 65535 W);have CU:=zh (fun W=>pkSaid_any p.u 200 W (by have:=hs.u;omega));have CC:=zh (fun W=>pkSaid_any p.c 23 W (by have:=hs.c;omega));clear hk hs
 generalize pkMay p=X at HX ⊢
 generalize pkWill p=WW at HX E1
 generalize pkUser p=UU at HX E2
 generalize pkPass p=PP at HX E3
 obtain⟨k,dup,ret,q,t,b,id,c,cl,keep,hw,wt,wb,wq,wr,hu,hp,u,pw,pr,code,wants,codes,fs⟩:=p;simp only at HX HZ E1 E2 E3 CN CQ CK CU CC
 generalize tName wt=xn at E1 CN
 generalize pkIn wq 0 2=xq at E1 CQ
 generalize pkIn keep 0 65535=xk at HX CK
 generalize pkSaid u 200=xu at E2 CU
 generalize pkSaid c 23=xc at HX CC
 obtain⟨xb,hxb⟩:∃x,decide ((wb.length:Int)≤2000)=x:=⟨_,rfl⟩;obtain⟨xp,hxp⟩:∃x,decide ((pw.length:Int)≤200)=x:=⟨_,rfl⟩;have hue:=str_nil u;have hpe:=str_nil pw;have hce:=str_some c
 generalize u.isEmpty=ue at hue E2
 generalize pw.isEmpty=pe at hpe E3
 generalize (!c.isEmpty)=ce at hce HX
 rw[hxb]at E1;rw[hxp]at E3;obtain⟨W0,hW0⟩:∃W,(w).alloc (.cells (zP k dup ret q t b id c cl keep hw wt wb wq wr hu hp u pw pr code sw sc sf) 29)=W:=⟨_,rfl⟩;have k0:Keeps (w) W0 []:=by rw[←hW0];exact Keeps.alloc _ _
 have r0:Row W0 (w).heap.size 29 (zP k dup ret q t b id c cl keep hw wt wb wq wr hu hp u pw pr code sw sc sf):=by rw[←hW0];exact Row.new _ _ _
 obtain⟨W1,hW1⟩:∃W1,W0.alloc (.cells #[.string ⟨wt.toArray⟩,.string ⟨wb.toArray⟩,.int .i64 wq,.bool wr] 24)=W1:=⟨_,rfl⟩;have q0:Keeps W0 W1 []:=by rw[←hW1];exact Keeps.alloc _ _
 have HR:=zh (And.intro (k0.then_ q0) (And.intro (r0.keeps q0) (show Row W1 W0.heap.size 24 #[.string ⟨wt.toArray⟩,.string ⟨wb.toArray⟩,.int .i64 wq,.bool wr]by rw[←hW1];exact Row.new _ _ _)));have x0:=r0.cell 0;have x1:=r0.cell 1;have x2:=r0.cell 2;have x3:=r0.cell 3;have x4:=r0.cell 4;have x5:=r0.cell 5;have x6:=r0.cell 6;have x7:=r0.cell 7;have x8:=r0.cell 8;have x9:=r0.cell 9;have x10:=r0.cell 10;have x11:=r0.cell 11;have x12:=r0.cell 12;have x13:=r0.cell 13;have x14:=r0.cell 14;have x15:=r0.cell 15;have x16:=r0.cell 16;have x17:=r0.cell 17;have x18:=r0.cell 18;have x19:=r0.cell 19;have x20:=r0.cell 20;have x21:=r0.cell 21;have x22:=r0.cell 22;have x23:=r0.cell 23;simp only[zga,zgz,zgs]at x0 x1 x2 x3 x4 x5 x6 x7 x8 x9 x10 x11 x12 x13 x14 x15 x16 x17 x18 x19 x20 x21 x22 x23;have h0:=r0.lt;clear k0 r0 q0
 go_enter Tryz.func125,Tryz.ntmps125
 go_upto_region 2 with fail
 clear hW0 hW1 h0;clear x0 x1 x2 x3 x4 x5 x6 x7 x8 x9 x10 x11 x12 x13 x14 x15 x16 x17 x18 x19 x20 x21 x22 x23;have HP:=zh HR.out.2.1;have HV:=zh HR.out.2.2;have HK:=zh HR.out.1;clear HR;have HK0:=zh (Keeps.refl W1 [])
 go_cut [4] (fun v wx=>v= .bool WW∧Keeps W1 wx [])
 case first=>
  cases hw with
  | true=>
   cases xn with
   | true=>
    cases xb with
    | true=>
     refine wp_region_line KeepsAll _ 28 rfl (by kernel_rfl) (by kernel_rfl) (fun _=>Keeps.refl _ _) (fun _ _ _ h k=>h.trans k (by simp)) ?_;simp only[zts,ztz,zds,zdz];refine lq (.pointer (some ⟨w.heap.size,10,none⟩)) ?_;refine ll 4 (.tmp 9) (⟨w.heap.size,10,none⟩) (.bool true) (fun W hW=>((HP.out.keeps (HK0.out.then_ hW)).cell 10).trans (by kernel_rfl)) ?_
     iterate 2
      refine lq (.bool false) ?_
     iterate 3
      refine lo ?_
     iterate 2
      refine lq (.bool false) ?_
     refine lq (.pointer (some ⟨w.heap.size,10,none⟩)) ?_;refine ll 4 (.tmp 18) (⟨w.heap.size,10,none⟩) (.bool true) (fun W hW=>((HP.out.keeps (HK0.out.then_ hW)).cell 10).trans (by kernel_rfl)) ?_;refine lq (.bool true) ?_;refine lq (.pointer (some ⟨W0.heap.size,0,none⟩)) ?_;refine ll 9 (.tmp 21) (⟨W0.heap.size,0,none⟩) (.string ⟨wt.toArray⟩) (fun W hW=>((HV.out.keeps (HK0.out.then_ hW)).cell 0).trans (by kernel_rfl)) ?_;refine loose_qc 126 (#[.string ⟨wt.toArray⟩]) (.bool true) (fun _=>by kernel_rfl) (fun _ _=>by kernel_rfl) (fun W hW=>CN.out W) ?_
     iterate 2
      refine lq (.bool true) ?_
     refine lq (.pointer (some ⟨W0.heap.size,1,none⟩)) ?_;refine ll 9 (.tmp 26) (⟨W0.heap.size,1,none⟩) (.string ⟨wb.toArray⟩) (fun W hW=>((HV.out.keeps (HK0.out.then_ hW)).cell 1).trans (by kernel_rfl)) ?_;refine lq (.int .i64 ((wb.length:Nat):Int)) ?_;refine loose_q (.bool true) (fun _=>by kernel_rfl) (fun W _=>(show _=Result.ok (Next.value (.bool (decide ((wb.length:Int)≤2000)))) W by kernel_rfl).trans (by rw[hxb])) ?_
     iterate 2
      refine lq (.bool true) ?_
     refine lq (.pointer (some ⟨W0.heap.size,2,none⟩)) ?_;refine ll 3 (.tmp 32) (⟨W0.heap.size,2,none⟩) (.int .i64 wq) (fun W hW=>((HV.out.keeps (HK0.out.then_ hW)).cell 2).trans (by kernel_rfl)) ?_;refine loose_qc 65 (#[.int .i64 wq]) (.bool xq) (fun _=>by kernel_rfl) (fun _ _=>by kernel_rfl) (fun W hW=>CQ.out W) ?_
     iterate 2
      refine lq (.bool xq) ?_
     refine loose_nil (fun W vals hW hkn=> ?_);simp only[addEnt,knowsAll]at hkn
     try simp only[and_true]at hkn
     simp only[addEnt,fill,Act.put,zsa,zsc,zsz]
     go_wp2_with fail
     go_meet
     case rel=>exact⟨by rw[E1.out];rfl,HK0.out.then_ hW⟩
    | false=>
     refine wp_region_line KeepsAll _ 28 rfl (by kernel_rfl) (by kernel_rfl) (fun _=>Keeps.refl _ _) (fun _ _ _ h k=>h.trans k (by simp)) ?_;simp only[zts,ztz,zds,zdz];refine lq (.pointer (some ⟨w.heap.size,10,none⟩)) ?_;refine ll 4 (.tmp 9) (⟨w.heap.size,10,none⟩) (.bool true) (fun W hW=>((HP.out.keeps (HK0.out.then_ hW)).cell 10).trans (by kernel_rfl)) ?_
     iterate 2
      refine lq (.bool false) ?_
     iterate 3
      refine lo ?_
     iterate 2
      refine lq (.bool false) ?_
     refine lq (.pointer (some ⟨w.heap.size,10,none⟩)) ?_;refine ll 4 (.tmp 18) (⟨w.heap.size,10,none⟩) (.bool true) (fun W hW=>((HP.out.keeps (HK0.out.then_ hW)).cell 10).trans (by kernel_rfl)) ?_;refine lq (.bool true) ?_;refine lq (.pointer (some ⟨W0.heap.size,0,none⟩)) ?_;refine ll 9 (.tmp 21) (⟨W0.heap.size,0,none⟩) (.string ⟨wt.toArray⟩) (fun W hW=>((HV.out.keeps (HK0.out.then_ hW)).cell 0).trans (by kernel_rfl)) ?_;refine loose_qc 126 (#[.string ⟨wt.toArray⟩]) (.bool true) (fun _=>by kernel_rfl) (fun _ _=>by kernel_rfl) (fun W hW=>CN.out W) ?_
     iterate 2
      refine lq (.bool true) ?_
     refine lq (.pointer (some ⟨W0.heap.size,1,none⟩)) ?_;refine ll 9 (.tmp 26) (⟨W0.heap.size,1,none⟩) (.string ⟨wb.toArray⟩) (fun W hW=>((HV.out.keeps (HK0.out.then_ hW)).cell 1).trans (by kernel_rfl)) ?_;refine lq (.int .i64 ((wb.length:Nat):Int)) ?_;refine loose_q (.bool false) (fun _=>by kernel_rfl) (fun W _=>(show _=Result.ok (Next.value (.bool (decide ((wb.length:Int)≤2000)))) W by kernel_rfl).trans (by rw[hxb])) ?_
     iterate 2
      refine lq (.bool false) ?_
     iterate 3
      refine lo ?_
     iterate 2
      refine lq (.bool false) ?_
     refine loose_nil (fun W vals hW hkn=> ?_);simp only[addEnt,knowsAll]at hkn
     try simp only[and_true]at hkn
     simp only[addEnt,fill,Act.put,zsa,zsc,zsz]
     go_wp2_with fail
     go_meet
     case rel=>exact⟨by rw[E1.out];rfl,HK0.out.then_ hW⟩
   | false=>
    refine wp_region_line KeepsAll _ 28 rfl (by kernel_rfl) (by kernel_rfl) (fun _=>Keeps.refl _ _) (fun _ _ _ h k=>h.trans k (by simp)) ?_;simp only[zts,ztz,zds,zdz];refine lq (.pointer (some ⟨w.heap.size,10,none⟩)) ?_;refine ll 4 (.tmp 9) (⟨w.heap.size,10,none⟩) (.bool true) (fun W hW=>((HP.out.keeps (HK0.out.then_ hW)).cell 10).trans (by kernel_rfl)) ?_
    iterate 2
     refine lq (.bool false) ?_
    iterate 3
     refine lo ?_
    iterate 2
     refine lq (.bool false) ?_
    refine lq (.pointer (some ⟨w.heap.size,10,none⟩)) ?_;refine ll 4 (.tmp 18) (⟨w.heap.size,10,none⟩) (.bool true) (fun W hW=>((HP.out.keeps (HK0.out.then_ hW)).cell 10).trans (by kernel_rfl)) ?_;refine lq (.bool true) ?_;refine lq (.pointer (some ⟨W0.heap.size,0,none⟩)) ?_;refine ll 9 (.tmp 21) (⟨W0.heap.size,0,none⟩) (.string ⟨wt.toArray⟩) (fun W hW=>((HV.out.keeps (HK0.out.then_ hW)).cell 0).trans (by kernel_rfl)) ?_;refine loose_qc 126 (#[.string ⟨wt.toArray⟩]) (.bool false) (fun _=>by kernel_rfl) (fun _ _=>by kernel_rfl) (fun W hW=>CN.out W) ?_
    iterate 2
     refine lq (.bool false) ?_
    iterate 4
     refine lo ?_
    iterate 2
     refine lq (.bool false) ?_
    iterate 3
     refine lo ?_
    iterate 2
     refine lq (.bool false) ?_
    refine loose_nil (fun W vals hW hkn=> ?_);simp only[addEnt,knowsAll]at hkn
    try simp only[and_true]at hkn
    simp only[addEnt,fill,Act.put,zsa,zsc,zsz]
    go_wp2_with fail
    go_meet
    case rel=>exact⟨by rw[E1.out];rfl,HK0.out.then_ hW⟩
  | false=>
   cases xz with
   | true=>
    refine wp_region_line KeepsAll _ 28 rfl (by kernel_rfl) (by kernel_rfl) (fun _=>Keeps.refl _ _) (fun _ _ _ h k=>h.trans k (by simp)) ?_;simp only[zts,ztz,zds,zdz];refine lq (.pointer (some ⟨w.heap.size,10,none⟩)) ?_;refine ll 4 (.tmp 9) (⟨w.heap.size,10,none⟩) (.bool false) (fun W hW=>((HP.out.keeps (HK0.out.then_ hW)).cell 10).trans (by kernel_rfl)) ?_
    iterate 2
     refine lq (.bool true) ?_
    apply loose_is
    ·intro W vals hW hkn
     clear hkn;simp only[addEnt,fill];obtain⟨d,hu,hd⟩:=undWill;refine opOk_load ?_ rfl ?_ (range_row (HV.out.keeps hW)) hu hd ?_ (Keeps.refl _ _) rfl
     ·go_simp
     ·go_simp
     ·kernel_rfl
    simp only[addEnt];refine ls ?_;simp only[addEnt];apply loose_is
    ·intro W vals hW hkn
     clear hkn;simp only[fill];refine opOk_eql ?_ rfl ?_ ?_ ?_ HZ.out (Keeps.refl _ _) rfl
     ·go_simp
     ·go_simp
     ·go_simp
     ·kernel_rfl
    simp only[addEnt]
    iterate 2
     refine lq (.bool true) ?_
    iterate 18
     refine lo ?_
    refine lq (.bool true) ?_;refine loose_nil (fun W vals hW hkn=> ?_);simp only[addEnt,knowsAll]at hkn
    try simp only[and_true]at hkn
    simp only[addEnt,fill,Act.put,zsa,zsc,zsz]
    go_wp2_with fail
    go_meet
    case rel=>exact⟨by rw[E1.out];rfl,HK0.out.then_ hW⟩
   | false=>
    refine wp_region_line KeepsAll _ 28 rfl (by kernel_rfl) (by kernel_rfl) (fun _=>Keeps.refl _ _) (fun _ _ _ h k=>h.trans k (by simp)) ?_;simp only[zts,ztz,zds,zdz];refine lq (.pointer (some ⟨w.heap.size,10,none⟩)) ?_;refine ll 4 (.tmp 9) (⟨w.heap.size,10,none⟩) (.bool false) (fun W hW=>((HP.out.keeps (HK0.out.then_ hW)).cell 10).trans (by kernel_rfl)) ?_
    iterate 2
     refine lq (.bool true) ?_
    apply loose_is
    ·intro W vals hW hkn
     clear hkn;simp only[addEnt,fill];obtain⟨d,hu,hd⟩:=undWill;refine opOk_load ?_ rfl ?_ (range_row (HV.out.keeps hW)) hu hd ?_ (Keeps.refl _ _) rfl
     ·go_simp
     ·go_simp
     ·kernel_rfl
    simp only[addEnt];refine ls ?_;simp only[addEnt];apply loose_is
    ·intro W vals hW hkn
     clear hkn;simp only[fill];refine opOk_eql ?_ rfl ?_ ?_ ?_ HZ.out (Keeps.refl _ _) rfl
     ·go_simp
     ·go_simp
     ·go_simp
     ·kernel_rfl
    simp only[addEnt]
    iterate 2
     refine lq (.bool false) ?_
    refine lq (.pointer (some ⟨w.heap.size,10,none⟩)) ?_;refine ll 4 (.tmp 18) (⟨w.heap.size,10,none⟩) (.bool false) (fun W hW=>((HP.out.keeps (HK0.out.then_ hW)).cell 10).trans (by kernel_rfl)) ?_;refine lq (.bool false) ?_
    iterate 2
     refine lo ?_;refine lo ?_;refine lo ?_;refine lq (.bool false) ?_;refine lq (.bool false) ?_;refine lo ?_
    refine lo ?_;refine lo ?_
    iterate 2
     refine lq (.bool false) ?_
    refine loose_nil (fun W vals hW hkn=> ?_);simp only[addEnt,knowsAll]at hkn
    try simp only[and_true]at hkn
    simp only[addEnt,fill,Act.put,zsa,zsc,zsz]
    go_wp2_with fail
    go_meet
    case rel=>exact⟨by rw[E1.out];rfl,HK0.out.then_ hW⟩
 case rest=>
  obtain⟨rfl,hk1⟩:=hcut;have HK1:=zh (HK0.out.then_ hk1);clear hk1
  go_upto_region 3 with fail
  go_cut [5] (fun v wx=>v= .bool UU∧Keeps W1 wx [])
  case first=>
   cases hu with
   | true=>
    cases xu with
    | true=>
     refine wp_region_line KeepsAll _ 22 rfl (by kernel_rfl) (by kernel_rfl) (fun _=>Keeps.refl _ _) (fun _ _ _ h k=>h.trans k (by simp)) ?_;simp only[zts,ztz,zds,zdz];refine lq (.pointer (some ⟨w.heap.size,15,none⟩)) ?_;refine ll 4 (.tmp 37) (⟨w.heap.size,15,none⟩) (.bool true) (fun W hW=>((HP.out.keeps (HK1.out.then_ hW)).cell 15).trans (by kernel_rfl)) ?_;refine lq (.bool true) ?_;refine lq (.pointer (some ⟨w.heap.size,17,none⟩)) ?_;refine ll 9 (.tmp 40) (⟨w.heap.size,17,none⟩) (.string ⟨u.toArray⟩) (fun W hW=>((HP.out.keeps (HK1.out.then_ hW)).cell 17).trans (by kernel_rfl)) ?_;refine loose_qc 127 (#[.string ⟨u.toArray⟩,.int .i64 200]) (.bool true) (fun _=>by kernel_rfl) (fun _ _=>by kernel_rfl) (fun W hW=>CU.out W) ?_
     iterate 2
      refine lq (.bool true) ?_
     iterate 13
      refine lo ?_
     refine lq (.bool true) ?_;refine loose_nil (fun W vals hW hkn=> ?_);simp only[addEnt,knowsAll]at hkn
     try simp only[and_true]at hkn
     simp only[addEnt,fill,Act.put,zsa,zsc,zsz]
     go_wp2_with fail
     go_meet
     case rel=>exact⟨by rw[E2.out];rfl,HK1.out.then_ hW⟩
    | false=>
     refine wp_region_line KeepsAll _ 22 rfl (by kernel_rfl) (by kernel_rfl) (fun _=>Keeps.refl _ _) (fun _ _ _ h k=>h.trans k (by simp)) ?_;simp only[zts,ztz,zds,zdz];refine lq (.pointer (some ⟨w.heap.size,15,none⟩)) ?_;refine ll 4 (.tmp 37) (⟨w.heap.size,15,none⟩) (.bool true) (fun W hW=>((HP.out.keeps (HK1.out.then_ hW)).cell 15).trans (by kernel_rfl)) ?_;refine lq (.bool true) ?_;refine lq (.pointer (some ⟨w.heap.size,17,none⟩)) ?_;refine ll 9 (.tmp 40) (⟨w.heap.size,17,none⟩) (.string ⟨u.toArray⟩) (fun W hW=>((HP.out.keeps (HK1.out.then_ hW)).cell 17).trans (by kernel_rfl)) ?_;refine loose_qc 127 (#[.string ⟨u.toArray⟩,.int .i64 200]) (.bool false) (fun _=>by kernel_rfl) (fun _ _=>by kernel_rfl) (fun W hW=>CU.out W) ?_
     iterate 2
      refine lq (.bool false) ?_
     refine lq (.pointer (some ⟨w.heap.size,15,none⟩)) ?_;refine ll 4 (.tmp 45) (⟨w.heap.size,15,none⟩) (.bool true) (fun W hW=>((HP.out.keeps (HK1.out.then_ hW)).cell 15).trans (by kernel_rfl)) ?_
     iterate 2
      refine lq (.bool false) ?_;refine lq (.bool false) ?_;refine lo ?_;refine lo ?_;refine lo ?_
     iterate 2
      refine lq (.bool false) ?_
     refine loose_nil (fun W vals hW hkn=> ?_);simp only[addEnt,knowsAll]at hkn
     try simp only[and_true]at hkn
     simp only[addEnt,fill,Act.put,zsa,zsc,zsz]
     go_wp2_with fail
     go_meet
     case rel=>exact⟨by rw[E2.out];rfl,HK1.out.then_ hW⟩
   | false=>
    cases ue with
    | true=>
     refine wp_region_line KeepsAll _ 22 rfl (by kernel_rfl) (by kernel_rfl) (fun _=>Keeps.refl _ _) (fun _ _ _ h k=>h.trans k (by simp)) ?_;simp only[zts,ztz,zds,zdz];refine lq (.pointer (some ⟨w.heap.size,15,none⟩)) ?_;refine ll 4 (.tmp 37) (⟨w.heap.size,15,none⟩) (.bool false) (fun W hW=>((HP.out.keeps (HK1.out.then_ hW)).cell 15).trans (by kernel_rfl)) ?_;refine lq (.bool false) ?_
     iterate 3
      refine lo ?_
     iterate 2
      refine lq (.bool false) ?_
     refine lq (.pointer (some ⟨w.heap.size,15,none⟩)) ?_;refine ll 4 (.tmp 45) (⟨w.heap.size,15,none⟩) (.bool false) (fun W hW=>((HP.out.keeps (HK1.out.then_ hW)).cell 15).trans (by kernel_rfl)) ?_
     iterate 2
      refine lq (.bool true) ?_
     refine lq (.pointer (some ⟨w.heap.size,17,none⟩)) ?_;refine ll 9 (.tmp 49) (⟨w.heap.size,17,none⟩) (.string ⟨u.toArray⟩) (fun W hW=>((HP.out.keeps (HK1.out.then_ hW)).cell 17).trans (by kernel_rfl)) ?_;refine loose_q (.bool true) (fun _=>by kernel_rfl) (fun W _=>(show _=Result.ok (Next.value (.bool (((⟨u.toArray⟩:ByteArray).toList==(⟨#[]⟩:ByteArray).toList)))) W by kernel_rfl).trans (by rw[hue])) ?_
     iterate 2
      refine lq (.bool true) ?_
     refine lq (.pointer (some ⟨w.heap.size,16,none⟩)) ?_;refine ll 4 (.tmp 54) (⟨w.heap.size,16,none⟩) (.bool hp) (fun W hW=>((HP.out.keeps (HK1.out.then_ hW)).cell 16).trans (by kernel_rfl)) ?_
     iterate 3
      refine lq (.bool (!hp)) ?_
     refine loose_nil (fun W vals hW hkn=> ?_);simp only[addEnt,knowsAll]at hkn
     try simp only[and_true]at hkn
     simp only[addEnt,fill,Act.put,zsa,zsc,zsz]
     go_wp2_with fail
     go_meet
     case rel=>exact⟨by rw[E2.out];rfl,HK1.out.then_ hW⟩
    | false=>
     refine wp_region_line KeepsAll _ 22 rfl (by kernel_rfl) (by kernel_rfl) (fun _=>Keeps.refl _ _) (fun _ _ _ h k=>h.trans k (by simp)) ?_;simp only[zts,ztz,zds,zdz];refine lq (.pointer (some ⟨w.heap.size,15,none⟩)) ?_;refine ll 4 (.tmp 37) (⟨w.heap.size,15,none⟩) (.bool false) (fun W hW=>((HP.out.keeps (HK1.out.then_ hW)).cell 15).trans (by kernel_rfl)) ?_;refine lq (.bool false) ?_
     iterate 3
      refine lo ?_
     iterate 2
      refine lq (.bool false) ?_
     refine lq (.pointer (some ⟨w.heap.size,15,none⟩)) ?_;refine ll 4 (.tmp 45) (⟨w.heap.size,15,none⟩) (.bool false) (fun W hW=>((HP.out.keeps (HK1.out.then_ hW)).cell 15).trans (by kernel_rfl)) ?_
     iterate 2
      refine lq (.bool true) ?_
     refine lq (.pointer (some ⟨w.heap.size,17,none⟩)) ?_;refine ll 9 (.tmp 49) (⟨w.heap.size,17,none⟩) (.string ⟨u.toArray⟩) (fun W hW=>((HP.out.keeps (HK1.out.then_ hW)).cell 17).trans (by kernel_rfl)) ?_;refine loose_q (.bool false) (fun _=>by kernel_rfl) (fun W _=>(show _=Result.ok (Next.value (.bool (((⟨u.toArray⟩:ByteArray).toList==(⟨#[]⟩:ByteArray).toList)))) W by kernel_rfl).trans (by rw[hue])) ?_
     iterate 2
      refine lq (.bool false) ?_
     iterate 3
      refine lo ?_
     iterate 2
      refine lq (.bool false) ?_
     refine loose_nil (fun W vals hW hkn=> ?_);simp only[addEnt,knowsAll]at hkn
     try simp only[and_true]at hkn
     simp only[addEnt,fill,Act.put,zsa,zsc,zsz]
     go_wp2_with fail
     go_meet
     case rel=>exact⟨by rw[E2.out];rfl,HK1.out.then_ hW⟩
  case rest=>
   obtain⟨rfl,hk1⟩:=hcut;have HK2:=zh (HK0.out.then_ hk1);clear hk1
   go_upto_region 4 with fail
   go_cut [6] (fun v wx=>v= .bool PP∧Keeps W1 wx [])
   case first=>
    cases hp with
    | true=>
     cases xp with
     | true=>
      refine wp_region_line KeepsAll _ 18 rfl (by kernel_rfl) (by kernel_rfl) (fun _=>Keeps.refl _ _) (fun _ _ _ h k=>h.trans k (by simp)) ?_;simp only[zts,ztz,zds,zdz];refine lq (.pointer (some ⟨w.heap.size,16,none⟩)) ?_;refine ll 4 (.tmp 59) (⟨w.heap.size,16,none⟩) (.bool true) (fun W hW=>((HP.out.keeps (HK2.out.then_ hW)).cell 16).trans (by kernel_rfl)) ?_;refine lq (.bool true) ?_;refine lq (.pointer (some ⟨w.heap.size,18,none⟩)) ?_;refine ll 9 (.tmp 62) (⟨w.heap.size,18,none⟩) (.string ⟨pw.toArray⟩) (fun W hW=>((HP.out.keeps (HK2.out.then_ hW)).cell 18).trans (by kernel_rfl)) ?_;refine lq (.int .i64 ((pw.length:Nat):Int)) ?_;refine loose_q (.bool true) (fun _=>by kernel_rfl) (fun W _=>(show _=Result.ok (Next.value (.bool (decide ((pw.length:Int)≤200)))) W by kernel_rfl).trans (by rw[hxp])) ?_
      iterate 2
       refine lq (.bool true) ?_
      iterate 8
       refine lo ?_
      refine lq (.bool true) ?_;refine loose_nil (fun W vals hW hkn=> ?_);simp only[addEnt,knowsAll]at hkn
      try simp only[and_true]at hkn
      simp only[addEnt,fill,Act.put,zsa,zsc,zsz]
      go_wp2_with fail
      go_meet
      case rel=>exact⟨by rw[E3.out];rfl,HK2.out.then_ hW⟩
     | false=>
      refine wp_region_line KeepsAll _ 18 rfl (by kernel_rfl) (by kernel_rfl) (fun _=>Keeps.refl _ _) (fun _ _ _ h k=>h.trans k (by simp)) ?_;simp only[zts,ztz,zds,zdz];refine lq (.pointer (some ⟨w.heap.size,16,none⟩)) ?_;refine ll 4 (.tmp 59) (⟨w.heap.size,16,none⟩) (.bool true) (fun W hW=>((HP.out.keeps (HK2.out.then_ hW)).cell 16).trans (by kernel_rfl)) ?_;refine lq (.bool true) ?_;refine lq (.pointer (some ⟨w.heap.size,18,none⟩)) ?_;refine ll 9 (.tmp 62) (⟨w.heap.size,18,none⟩) (.string ⟨pw.toArray⟩) (fun W hW=>((HP.out.keeps (HK2.out.then_ hW)).cell 18).trans (by kernel_rfl)) ?_;refine lq (.int .i64 ((pw.length:Nat):Int)) ?_;refine loose_q (.bool false) (fun _=>by kernel_rfl) (fun W _=>(show _=Result.ok (Next.value (.bool (decide ((pw.length:Int)≤200)))) W by kernel_rfl).trans (by rw[hxp])) ?_
      iterate 2
       refine lq (.bool false) ?_
      refine lq (.pointer (some ⟨w.heap.size,16,none⟩)) ?_;refine ll 4 (.tmp 68) (⟨w.heap.size,16,none⟩) (.bool true) (fun W hW=>((HP.out.keeps (HK2.out.then_ hW)).cell 16).trans (by kernel_rfl)) ?_
      iterate 2
       refine lq (.bool false) ?_
      iterate 3
       refine lo ?_
      iterate 2
       refine lq (.bool false) ?_
      refine loose_nil (fun W vals hW hkn=> ?_);simp only[addEnt,knowsAll]at hkn
      try simp only[and_true]at hkn
      simp only[addEnt,fill,Act.put,zsa,zsc,zsz]
      go_wp2_with fail
      go_meet
      case rel=>exact⟨by rw[E3.out];rfl,HK2.out.then_ hW⟩
    | false=>
     refine wp_region_line KeepsAll _ 18 rfl (by kernel_rfl) (by kernel_rfl) (fun _=>Keeps.refl _ _) (fun _ _ _ h k=>h.trans k (by simp)) ?_;simp only[zts,ztz,zds,zdz];refine lq (.pointer (some ⟨w.heap.size,16,none⟩)) ?_;refine ll 4 (.tmp 59) (⟨w.heap.size,16,none⟩) (.bool false) (fun W hW=>((HP.out.keeps (HK2.out.then_ hW)).cell 16).trans (by kernel_rfl)) ?_;refine lq (.bool false) ?_
     iterate 4
      refine lo ?_
     iterate 2
      refine lq (.bool false) ?_
     refine lq (.pointer (some ⟨w.heap.size,16,none⟩)) ?_;refine ll 4 (.tmp 68) (⟨w.heap.size,16,none⟩) (.bool false) (fun W hW=>((HP.out.keeps (HK2.out.then_ hW)).cell 16).trans (by kernel_rfl)) ?_
     iterate 2
      refine lq (.bool true) ?_
     refine lq (.pointer (some ⟨w.heap.size,18,none⟩)) ?_;refine ll 9 (.tmp 72) (⟨w.heap.size,18,none⟩) (.string ⟨pw.toArray⟩) (fun W hW=>((HP.out.keeps (HK2.out.then_ hW)).cell 18).trans (by kernel_rfl)) ?_;refine loose_q (.bool pe) (fun _=>by kernel_rfl) (fun W _=>(show _=Result.ok (Next.value (.bool (((⟨pw.toArray⟩:ByteArray).toList==(⟨#[]⟩:ByteArray).toList)))) W by kernel_rfl).trans (by rw[hpe])) ?_
     iterate 2
      refine lq (.bool pe) ?_
     refine loose_nil (fun W vals hW hkn=> ?_);simp only[addEnt,knowsAll]at hkn
     try simp only[and_true]at hkn
     simp only[addEnt,fill,Act.put,zsa,zsc,zsz]
     go_wp2_with fail
     go_meet
     case rel=>exact⟨by rw[E3.out];rfl,HK2.out.then_ hW⟩
   case rest=>
    obtain⟨rfl,hk1⟩:=hcut;have HK3:=zh (HK0.out.then_ hk1);clear hk1
    go_upto_region 5 with fail
    cases xc with
    | true=>
     cases cl with
     | true=>
      cases xk with
      | true=>
       cases WW with
       | true=>
        cases UU with
        | true=>
         refine wp_region_line KeepsAll _ 26 rfl (by kernel_rfl) (by kernel_rfl) (fun _=>Keeps.refl _ _) (fun _ _ _ h k=>h.trans k (by simp)) ?_;simp only[zts,ztz,zds,zdz];refine lq (.pointer (some ⟨w.heap.size,7,none⟩)) ?_;refine ll 9 (.tmp 77) (⟨w.heap.size,7,none⟩) (.string ⟨c.toArray⟩) (fun W hW=>((HP.out.keeps (HK3.out.then_ hW)).cell 7).trans (by kernel_rfl)) ?_;refine loose_qc 127 (#[.string ⟨c.toArray⟩,.int .i64 23]) (.bool true) (fun _=>by kernel_rfl) (fun _ _=>by kernel_rfl) (fun W hW=>CC.out W) ?_;refine lq (.bool true) ?_;refine lq (.pointer (some ⟨w.heap.size,8,none⟩)) ?_;refine ll 4 (.tmp 81) (⟨w.heap.size,8,none⟩) (.bool true) (fun W hW=>((HP.out.keeps (HK3.out.then_ hW)).cell 8).trans (by kernel_rfl)) ?_;refine lq (.bool true) ?_
         iterate 3
          refine lo ?_
         iterate 3
          refine lq (.bool true) ?_
         refine lq (.pointer (some ⟨w.heap.size,9,none⟩)) ?_;refine ll 2 (.tmp 90) (⟨w.heap.size,9,none⟩) (.int .i64 keep) (fun W hW=>((HP.out.keeps (HK3.out.then_ hW)).cell 9).trans (by kernel_rfl)) ?_;refine loose_qc 52 (#[.int .i64 keep,.int .i64 0,.int .i64 65535]) (.bool true) (fun _=>by kernel_rfl) (fun _ _=>by kernel_rfl) (fun W hW=>CK.out W) ?_
         iterate 8
          refine lq (.bool true) ?_
         iterate 2
          refine lq (.bool PP) ?_
         refine loose_nil (fun W vals hW hkn=> ?_);simp only[addEnt,knowsAll]at hkn
         try simp only[and_true]at hkn
         simp only[addEnt,fill,Act.put,zsa,zsc,zsz]
         go_wp2_with fail
         go_ret;exact⟨by rw[HX.out];rfl,HK.out.then_ (HK3.out.then_ hW)⟩
        | false=>
         refine wp_region_line KeepsAll _ 26 rfl (by kernel_rfl) (by kernel_rfl) (fun _=>Keeps.refl _ _) (fun _ _ _ h k=>h.trans k (by simp)) ?_;simp only[zts,ztz,zds,zdz];refine lq (.pointer (some ⟨w.heap.size,7,none⟩)) ?_;refine ll 9 (.tmp 77) (⟨w.heap.size,7,none⟩) (.string ⟨c.toArray⟩) (fun W hW=>((HP.out.keeps (HK3.out.then_ hW)).cell 7).trans (by kernel_rfl)) ?_;refine loose_qc 127 (#[.string ⟨c.toArray⟩,.int .i64 23]) (.bool true) (fun _=>by kernel_rfl) (fun _ _=>by kernel_rfl) (fun W hW=>CC.out W) ?_;refine lq (.bool true) ?_;refine lq (.pointer (some ⟨w.heap.size,8,none⟩)) ?_;refine ll 4 (.tmp 81) (⟨w.heap.size,8,none⟩) (.bool true) (fun W hW=>((HP.out.keeps (HK3.out.then_ hW)).cell 8).trans (by kernel_rfl)) ?_;refine lq (.bool true) ?_
         iterate 3
          refine lo ?_
         iterate 3
          refine lq (.bool true) ?_
         refine lq (.pointer (some ⟨w.heap.size,9,none⟩)) ?_;refine ll 2 (.tmp 90) (⟨w.heap.size,9,none⟩) (.int .i64 keep) (fun W hW=>((HP.out.keeps (HK3.out.then_ hW)).cell 9).trans (by kernel_rfl)) ?_;refine loose_qc 52 (#[.int .i64 keep,.int .i64 0,.int .i64 65535]) (.bool true) (fun _=>by kernel_rfl) (fun _ _=>by kernel_rfl) (fun W hW=>CK.out W) ?_
         iterate 5
          refine lq (.bool true) ?_
         iterate 3
          refine lq (.bool false) ?_
         refine lo ?_;refine lq (.bool false) ?_;refine loose_nil (fun W vals hW hkn=> ?_);simp only[addEnt,knowsAll]at hkn
         try simp only[and_true]at hkn
         simp only[addEnt,fill,Act.put,zsa,zsc,zsz]
         go_wp2_with fail
         go_ret;exact⟨by rw[HX.out];rfl,HK.out.then_ (HK3.out.then_ hW)⟩
       | false=>
        refine wp_region_line KeepsAll _ 26 rfl (by kernel_rfl) (by kernel_rfl) (fun _=>Keeps.refl _ _) (fun _ _ _ h k=>h.trans k (by simp)) ?_;simp only[zts,ztz,zds,zdz];refine lq (.pointer (some ⟨w.heap.size,7,none⟩)) ?_;refine ll 9 (.tmp 77) (⟨w.heap.size,7,none⟩) (.string ⟨c.toArray⟩) (fun W hW=>((HP.out.keeps (HK3.out.then_ hW)).cell 7).trans (by kernel_rfl)) ?_;refine loose_qc 127 (#[.string ⟨c.toArray⟩,.int .i64 23]) (.bool true) (fun _=>by kernel_rfl) (fun _ _=>by kernel_rfl) (fun W hW=>CC.out W) ?_;refine lq (.bool true) ?_;refine lq (.pointer (some ⟨w.heap.size,8,none⟩)) ?_;refine ll 4 (.tmp 81) (⟨w.heap.size,8,none⟩) (.bool true) (fun W hW=>((HP.out.keeps (HK3.out.then_ hW)).cell 8).trans (by kernel_rfl)) ?_;refine lq (.bool true) ?_
        iterate 3
         refine lo ?_
        iterate 3
         refine lq (.bool true) ?_
        refine lq (.pointer (some ⟨w.heap.size,9,none⟩)) ?_;refine ll 2 (.tmp 90) (⟨w.heap.size,9,none⟩) (.int .i64 keep) (fun W hW=>((HP.out.keeps (HK3.out.then_ hW)).cell 9).trans (by kernel_rfl)) ?_;refine loose_qc 52 (#[.int .i64 keep,.int .i64 0,.int .i64 65535]) (.bool true) (fun _=>by kernel_rfl) (fun _ _=>by kernel_rfl) (fun W hW=>CK.out W) ?_
        iterate 2
         refine lq (.bool true) ?_
        iterate 3
         refine lq (.bool false) ?_
        refine lo ?_
        iterate 2
         refine lq (.bool false) ?_
        refine lo ?_;refine lq (.bool false) ?_;refine loose_nil (fun W vals hW hkn=> ?_);simp only[addEnt,knowsAll]at hkn
        try simp only[and_true]at hkn
        simp only[addEnt,fill,Act.put,zsa,zsc,zsz]
        go_wp2_with fail
        go_ret;exact⟨by rw[HX.out];rfl,HK.out.then_ (HK3.out.then_ hW)⟩
      | false=>
       refine wp_region_line KeepsAll _ 26 rfl (by kernel_rfl) (by kernel_rfl) (fun _=>Keeps.refl _ _) (fun _ _ _ h k=>h.trans k (by simp)) ?_;simp only[zts,ztz,zds,zdz];refine lq (.pointer (some ⟨w.heap.size,7,none⟩)) ?_;refine ll 9 (.tmp 77) (⟨w.heap.size,7,none⟩) (.string ⟨c.toArray⟩) (fun W hW=>((HP.out.keeps (HK3.out.then_ hW)).cell 7).trans (by kernel_rfl)) ?_;refine loose_qc 127 (#[.string ⟨c.toArray⟩,.int .i64 23]) (.bool true) (fun _=>by kernel_rfl) (fun _ _=>by kernel_rfl) (fun W hW=>CC.out W) ?_;refine lq (.bool true) ?_;refine lq (.pointer (some ⟨w.heap.size,8,none⟩)) ?_;refine ll 4 (.tmp 81) (⟨w.heap.size,8,none⟩) (.bool true) (fun W hW=>((HP.out.keeps (HK3.out.then_ hW)).cell 8).trans (by kernel_rfl)) ?_;refine lq (.bool true) ?_
       iterate 3
        refine lo ?_
       iterate 3
        refine lq (.bool true) ?_
       refine lq (.pointer (some ⟨w.heap.size,9,none⟩)) ?_;refine ll 2 (.tmp 90) (⟨w.heap.size,9,none⟩) (.int .i64 keep) (fun W hW=>((HP.out.keeps (HK3.out.then_ hW)).cell 9).trans (by kernel_rfl)) ?_;refine loose_qc 52 (#[.int .i64 keep,.int .i64 0,.int .i64 65535]) (.bool false) (fun _=>by kernel_rfl) (fun _ _=>by kernel_rfl) (fun W hW=>CK.out W) ?_
       iterate 3
        refine lq (.bool false) ?_;refine lq (.bool false) ?_;refine lo ?_
       refine lq (.bool false) ?_;refine loose_nil (fun W vals hW hkn=> ?_);simp only[addEnt,knowsAll]at hkn
       try simp only[and_true]at hkn
       simp only[addEnt,fill,Act.put,zsa,zsc,zsz]
       go_wp2_with fail
       go_ret;exact⟨by rw[HX.out];rfl,HK.out.then_ (HK3.out.then_ hW)⟩
     | false=>
      cases ce with
      | true=>
       cases xk with
       | true=>
        cases WW with
        | true=>
         cases UU with
         | true=>
          refine wp_region_line KeepsAll _ 26 rfl (by kernel_rfl) (by kernel_rfl) (fun _=>Keeps.refl _ _) (fun _ _ _ h k=>h.trans k (by simp)) ?_;simp only[zts,ztz,zds,zdz];refine lq (.pointer (some ⟨w.heap.size,7,none⟩)) ?_;refine ll 9 (.tmp 77) (⟨w.heap.size,7,none⟩) (.string ⟨c.toArray⟩) (fun W hW=>((HP.out.keeps (HK3.out.then_ hW)).cell 7).trans (by kernel_rfl)) ?_;refine loose_qc 127 (#[.string ⟨c.toArray⟩,.int .i64 23]) (.bool true) (fun _=>by kernel_rfl) (fun _ _=>by kernel_rfl) (fun W hW=>CC.out W) ?_;refine lq (.bool true) ?_;refine lq (.pointer (some ⟨w.heap.size,8,none⟩)) ?_;refine ll 4 (.tmp 81) (⟨w.heap.size,8,none⟩) (.bool false) (fun W hW=>((HP.out.keeps (HK3.out.then_ hW)).cell 8).trans (by kernel_rfl)) ?_;refine lq (.bool false) ?_;refine lq (.pointer (some ⟨w.heap.size,7,none⟩)) ?_;refine ll 9 (.tmp 84) (⟨w.heap.size,7,none⟩) (.string ⟨c.toArray⟩) (fun W hW=>((HP.out.keeps (HK3.out.then_ hW)).cell 7).trans (by kernel_rfl)) ?_;refine loose_q (.bool true) (fun _=>by kernel_rfl) (fun W _=>(show _=Result.ok (Next.value (.bool ((!((⟨c.toArray⟩:ByteArray).toList==(⟨#[]⟩:ByteArray).toList))))) W by kernel_rfl).trans (by rw[hce])) ?_
          iterate 3
           refine lq (.bool true) ?_
          refine lq (.pointer (some ⟨w.heap.size,9,none⟩)) ?_;refine ll 2 (.tmp 90) (⟨w.heap.size,9,none⟩) (.int .i64 keep) (fun W hW=>((HP.out.keeps (HK3.out.then_ hW)).cell 9).trans (by kernel_rfl)) ?_;refine loose_qc 52 (#[.int .i64 keep,.int .i64 0,.int .i64 65535]) (.bool true) (fun _=>by kernel_rfl) (fun _ _=>by kernel_rfl) (fun W hW=>CK.out W) ?_
          iterate 8
           refine lq (.bool true) ?_
          iterate 2
           refine lq (.bool PP) ?_
          refine loose_nil (fun W vals hW hkn=> ?_);simp only[addEnt,knowsAll]at hkn
          try simp only[and_true]at hkn
          simp only[addEnt,fill,Act.put,zsa,zsc,zsz]
          go_wp2_with fail
          go_ret;exact⟨by rw[HX.out];rfl,HK.out.then_ (HK3.out.then_ hW)⟩
         | false=>
          refine wp_region_line KeepsAll _ 26 rfl (by kernel_rfl) (by kernel_rfl) (fun _=>Keeps.refl _ _) (fun _ _ _ h k=>h.trans k (by simp)) ?_;simp only[zts,ztz,zds,zdz];refine lq (.pointer (some ⟨w.heap.size,7,none⟩)) ?_;refine ll 9 (.tmp 77) (⟨w.heap.size,7,none⟩) (.string ⟨c.toArray⟩) (fun W hW=>((HP.out.keeps (HK3.out.then_ hW)).cell 7).trans (by kernel_rfl)) ?_;refine loose_qc 127 (#[.string ⟨c.toArray⟩,.int .i64 23]) (.bool true) (fun _=>by kernel_rfl) (fun _ _=>by kernel_rfl) (fun W hW=>CC.out W) ?_;refine lq (.bool true) ?_;refine lq (.pointer (some ⟨w.heap.size,8,none⟩)) ?_;refine ll 4 (.tmp 81) (⟨w.heap.size,8,none⟩) (.bool false) (fun W hW=>((HP.out.keeps (HK3.out.then_ hW)).cell 8).trans (by kernel_rfl)) ?_;refine lq (.bool false) ?_;refine lq (.pointer (some ⟨w.heap.size,7,none⟩)) ?_;refine ll 9 (.tmp 84) (⟨w.heap.size,7,none⟩) (.string ⟨c.toArray⟩) (fun W hW=>((HP.out.keeps (HK3.out.then_ hW)).cell 7).trans (by kernel_rfl)) ?_;refine loose_q (.bool true) (fun _=>by kernel_rfl) (fun W _=>(show _=Result.ok (Next.value (.bool ((!((⟨c.toArray⟩:ByteArray).toList==(⟨#[]⟩:ByteArray).toList))))) W by kernel_rfl).trans (by rw[hce])) ?_
          iterate 3
           refine lq (.bool true) ?_
          refine lq (.pointer (some ⟨w.heap.size,9,none⟩)) ?_;refine ll 2 (.tmp 90) (⟨w.heap.size,9,none⟩) (.int .i64 keep) (fun W hW=>((HP.out.keeps (HK3.out.then_ hW)).cell 9).trans (by kernel_rfl)) ?_;refine loose_qc 52 (#[.int .i64 keep,.int .i64 0,.int .i64 65535]) (.bool true) (fun _=>by kernel_rfl) (fun _ _=>by kernel_rfl) (fun W hW=>CK.out W) ?_
          iterate 5
           refine lq (.bool true) ?_
          iterate 3
           refine lq (.bool false) ?_
          refine lo ?_;refine lq (.bool false) ?_;refine loose_nil (fun W vals hW hkn=> ?_);simp only[addEnt,knowsAll]at hkn
          try simp only[and_true]at hkn
          simp only[addEnt,fill,Act.put,zsa,zsc,zsz]
          go_wp2_with fail
          go_ret;exact⟨by rw[HX.out];rfl,HK.out.then_ (HK3.out.then_ hW)⟩
        | false=>
         refine wp_region_line KeepsAll _ 26 rfl (by kernel_rfl) (by kernel_rfl) (fun _=>Keeps.refl _ _) (fun _ _ _ h k=>h.trans k (by simp)) ?_;simp only[zts,ztz,zds,zdz];refine lq (.pointer (some ⟨w.heap.size,7,none⟩)) ?_;refine ll 9 (.tmp 77) (⟨w.heap.size,7,none⟩) (.string ⟨c.toArray⟩) (fun W hW=>((HP.out.keeps (HK3.out.then_ hW)).cell 7).trans (by kernel_rfl)) ?_;refine loose_qc 127 (#[.string ⟨c.toArray⟩,.int .i64 23]) (.bool true) (fun _=>by kernel_rfl) (fun _ _=>by kernel_rfl) (fun W hW=>CC.out W) ?_;refine lq (.bool true) ?_;refine lq (.pointer (some ⟨w.heap.size,8,none⟩)) ?_;refine ll 4 (.tmp 81) (⟨w.heap.size,8,none⟩) (.bool false) (fun W hW=>((HP.out.keeps (HK3.out.then_ hW)).cell 8).trans (by kernel_rfl)) ?_;refine lq (.bool false) ?_;refine lq (.pointer (some ⟨w.heap.size,7,none⟩)) ?_;refine ll 9 (.tmp 84) (⟨w.heap.size,7,none⟩) (.string ⟨c.toArray⟩) (fun W hW=>((HP.out.keeps (HK3.out.then_ hW)).cell 7).trans (by kernel_rfl)) ?_;refine loose_q (.bool true) (fun _=>by kernel_rfl) (fun W _=>(show _=Result.ok (Next.value (.bool ((!((⟨c.toArray⟩:ByteArray).toList==(⟨#[]⟩:ByteArray).toList))))) W by kernel_rfl).trans (by rw[hce])) ?_
         iterate 3
          refine lq (.bool true) ?_
         refine lq (.pointer (some ⟨w.heap.size,9,none⟩)) ?_;refine ll 2 (.tmp 90) (⟨w.heap.size,9,none⟩) (.int .i64 keep) (fun W hW=>((HP.out.keeps (HK3.out.then_ hW)).cell 9).trans (by kernel_rfl)) ?_;refine loose_qc 52 (#[.int .i64 keep,.int .i64 0,.int .i64 65535]) (.bool true) (fun _=>by kernel_rfl) (fun _ _=>by kernel_rfl) (fun W hW=>CK.out W) ?_
         iterate 2
          refine lq (.bool true) ?_
         iterate 3
          refine lq (.bool false) ?_
         refine lo ?_
         iterate 2
          refine lq (.bool false) ?_
         refine lo ?_;refine lq (.bool false) ?_;refine loose_nil (fun W vals hW hkn=> ?_);simp only[addEnt,knowsAll]at hkn
         try simp only[and_true]at hkn
         simp only[addEnt,fill,Act.put,zsa,zsc,zsz]
         go_wp2_with fail
         go_ret;exact⟨by rw[HX.out];rfl,HK.out.then_ (HK3.out.then_ hW)⟩
       | false=>
        refine wp_region_line KeepsAll _ 26 rfl (by kernel_rfl) (by kernel_rfl) (fun _=>Keeps.refl _ _) (fun _ _ _ h k=>h.trans k (by simp)) ?_;simp only[zts,ztz,zds,zdz];refine lq (.pointer (some ⟨w.heap.size,7,none⟩)) ?_;refine ll 9 (.tmp 77) (⟨w.heap.size,7,none⟩) (.string ⟨c.toArray⟩) (fun W hW=>((HP.out.keeps (HK3.out.then_ hW)).cell 7).trans (by kernel_rfl)) ?_;refine loose_qc 127 (#[.string ⟨c.toArray⟩,.int .i64 23]) (.bool true) (fun _=>by kernel_rfl) (fun _ _=>by kernel_rfl) (fun W hW=>CC.out W) ?_;refine lq (.bool true) ?_;refine lq (.pointer (some ⟨w.heap.size,8,none⟩)) ?_;refine ll 4 (.tmp 81) (⟨w.heap.size,8,none⟩) (.bool false) (fun W hW=>((HP.out.keeps (HK3.out.then_ hW)).cell 8).trans (by kernel_rfl)) ?_;refine lq (.bool false) ?_;refine lq (.pointer (some ⟨w.heap.size,7,none⟩)) ?_;refine ll 9 (.tmp 84) (⟨w.heap.size,7,none⟩) (.string ⟨c.toArray⟩) (fun W hW=>((HP.out.keeps (HK3.out.then_ hW)).cell 7).trans (by kernel_rfl)) ?_;refine loose_q (.bool true) (fun _=>by kernel_rfl) (fun W _=>(show _=Result.ok (Next.value (.bool ((!((⟨c.toArray⟩:ByteArray).toList==(⟨#[]⟩:ByteArray).toList))))) W by kernel_rfl).trans (by rw[hce])) ?_
        iterate 3
         refine lq (.bool true) ?_
        refine lq (.pointer (some ⟨w.heap.size,9,none⟩)) ?_;refine ll 2 (.tmp 90) (⟨w.heap.size,9,none⟩) (.int .i64 keep) (fun W hW=>((HP.out.keeps (HK3.out.then_ hW)).cell 9).trans (by kernel_rfl)) ?_;refine loose_qc 52 (#[.int .i64 keep,.int .i64 0,.int .i64 65535]) (.bool false) (fun _=>by kernel_rfl) (fun _ _=>by kernel_rfl) (fun W hW=>CK.out W) ?_
        iterate 3
         refine lq (.bool false) ?_;refine lq (.bool false) ?_;refine lo ?_
        refine lq (.bool false) ?_;refine loose_nil (fun W vals hW hkn=> ?_);simp only[addEnt,knowsAll]at hkn
        try simp only[and_true]at hkn
        simp only[addEnt,fill,Act.put,zsa,zsc,zsz]
        go_wp2_with fail
        go_ret;exact⟨by rw[HX.out];rfl,HK.out.then_ (HK3.out.then_ hW)⟩
      | false=>
       refine wp_region_line KeepsAll _ 26 rfl (by kernel_rfl) (by kernel_rfl) (fun _=>Keeps.refl _ _) (fun _ _ _ h k=>h.trans k (by simp)) ?_;simp only[zts,ztz,zds,zdz];refine lq (.pointer (some ⟨w.heap.size,7,none⟩)) ?_;refine ll 9 (.tmp 77) (⟨w.heap.size,7,none⟩) (.string ⟨c.toArray⟩) (fun W hW=>((HP.out.keeps (HK3.out.then_ hW)).cell 7).trans (by kernel_rfl)) ?_;refine loose_qc 127 (#[.string ⟨c.toArray⟩,.int .i64 23]) (.bool true) (fun _=>by kernel_rfl) (fun _ _=>by kernel_rfl) (fun W hW=>CC.out W) ?_;refine lq (.bool true) ?_;refine lq (.pointer (some ⟨w.heap.size,8,none⟩)) ?_;refine ll 4 (.tmp 81) (⟨w.heap.size,8,none⟩) (.bool false) (fun W hW=>((HP.out.keeps (HK3.out.then_ hW)).cell 8).trans (by kernel_rfl)) ?_;refine lq (.bool false) ?_;refine lq (.pointer (some ⟨w.heap.size,7,none⟩)) ?_;refine ll 9 (.tmp 84) (⟨w.heap.size,7,none⟩) (.string ⟨c.toArray⟩) (fun W hW=>((HP.out.keeps (HK3.out.then_ hW)).cell 7).trans (by kernel_rfl)) ?_;refine loose_q (.bool false) (fun _=>by kernel_rfl) (fun W _=>(show _=Result.ok (Next.value (.bool ((!((⟨c.toArray⟩:ByteArray).toList==(⟨#[]⟩:ByteArray).toList))))) W by kernel_rfl).trans (by rw[hce])) ?_
       iterate 3
        refine lq (.bool false) ?_
       iterate 3
        refine lo ?_
       iterate 3
        refine lq (.bool false) ?_;refine lq (.bool false) ?_;refine lo ?_
       refine lq (.bool false) ?_;refine loose_nil (fun W vals hW hkn=> ?_);simp only[addEnt,knowsAll]at hkn
       try simp only[and_true]at hkn
       simp only[addEnt,fill,Act.put,zsa,zsc,zsz]
       go_wp2_with fail
       go_ret;exact⟨by rw[HX.out];rfl,HK.out.then_ (HK3.out.then_ hW)⟩
    | false=>
     refine wp_region_line KeepsAll _ 26 rfl (by kernel_rfl) (by kernel_rfl) (fun _=>Keeps.refl _ _) (fun _ _ _ h k=>h.trans k (by simp)) ?_;simp only[zts,ztz,zds,zdz];refine lq (.pointer (some ⟨w.heap.size,7,none⟩)) ?_;refine ll 9 (.tmp 77) (⟨w.heap.size,7,none⟩) (.string ⟨c.toArray⟩) (fun W hW=>((HP.out.keeps (HK3.out.then_ hW)).cell 7).trans (by kernel_rfl)) ?_;refine loose_qc 127 (#[.string ⟨c.toArray⟩,.int .i64 23]) (.bool false) (fun _=>by kernel_rfl) (fun _ _=>by kernel_rfl) (fun W hW=>CC.out W) ?_;refine lq (.bool false) ?_
     iterate 7
      refine lo ?_
     iterate 2
      refine lq (.bool false) ?_
     iterate 3
      refine lo ?_
     iterate 3
      refine lq (.bool false) ?_;refine lq (.bool false) ?_;refine lo ?_
     refine lq (.bool false) ?_;refine loose_nil (fun W vals hW hkn=> ?_);simp only[addEnt,knowsAll]at hkn
     try simp only[and_true]at hkn
     simp only[addEnt,fill,Act.put,zsa,zsc,zsz]
     go_wp2_with fail
     go_ret;exact⟨by rw[HX.out];rfl,HK.out.then_ (HK3.out.then_ hW)⟩
end Go.Proofs.YtahbikfbjenfpaaGreatDoor
