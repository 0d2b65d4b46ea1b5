/- Package packet: may a connect be? -/
import Derived.Test.YtahbikfbjenfpaaGreatDoorPa14
import Derived.Test.YtahbikfbjenfpaaGreatDoorPa15
set_option maxHeartbeats 2000000
set_option maxRecDepth 100000
namespace Go.Proofs.YtahbikfbjenfpaaGreatDoor
open Tryz Go.RowKit

theorem EY (p:Pk):o7 p=((!p.hw && lZ p bN) || (p.hw && (fW p.wt && (decide ((p.wb.length:Int)<=2000) && dz p.wq 0 2)))):=by
 have e:decide (p.wb.length<=2000)=decide ((p.wb.length:Int)<=2000):=by rw[decide_eq_decide];omega
 unfold o7;rw[e]
 cases p.hw with
 | true=>simp
 | false=>
  rw[aj (by simp)];have:lZ p bN=(p.wt.isEmpty && (p.wb.isEmpty && (p.wq==0 && !p.wr))):=by
   show(p.wt== [] && (p.wb== [] && (p.wq==0 && (p.wr==false && true))))=_;rw[lP];simp
  rw[this];simp
theorem EZ (p:Pk):o8 p=((p.hu && dW p.u 200) || (!p.hu && (p.u.isEmpty && !p.hp))):=by
 unfold o8
 cases p.hu <;> simp
theorem Fb (p:Pk):o9 p=((p.hp && decide ((p.pw.length:Int)<=200)) || (!p.hp && p.pw.isEmpty)):=by
 have e:decide (p.pw.length<=200)=decide ((p.pw.length:Int)<=200):=by rw[decide_eq_decide];omega
 unfold o9;rw[e]
 cases p.hp <;> simp
theorem Fj {p:Pk}(hk:p.k=1):cK p=(dW p.c 23 && ((p.cl || !p.c.isEmpty) && (dz p.keep 0 65535 && (o7 p && (o8 p && o9 p))))):=by
 unfold cK;rw[aE hk]
theorem yA (u:aG):((⟨u.toArray⟩:ByteArray).toList==(⟨#[]⟩:ByteArray).toList)=u.isEmpty:=by
 cases u <;> simp
theorem Gl (u:aG):(!((⟨u.toArray⟩:ByteArray).toList==(⟨#[]⟩:ByteArray).toList))= !u.isEmpty:=by
 rw[yA]
theorem D2:∃d,Tryz.prog.underlying 24=some d/\d.isRow=true:=⟨_,underlying24,rfl⟩
theorem CY (p:Pk)(sw sc sf:Value)(w:au)(hk:p.k=1)(hs:rl p):Calls prog 125 #[eO p sw sc sf] w (aJ w (cK p)):=by
 have HX:=zh (Fj hk);have HZ:=zh (show∀W,(Op.equalIn 10000 24 (.agg #[.string ⟨p.wt.toArray⟩,.string ⟨p.wb.toArray⟩,.int .i64 p.wq,.bool p.wr]) (.agg #[.string ⟨#[]⟩,.string ⟨#[]⟩,.int .i64 0,.bool false])).run prog W= .ok (lZ p bN) W from λW=>yw 9998 p bN W);have E1:=zh (EY p);have E2:=zh (EZ p);have E3:=zh (Fb p);obtain⟨xz,SS⟩:∃x,lZ p bN=x:=⟨_,rfl⟩;rw[SS]at HZ E1;clear SS;have CN:=zh (λW=>xL W p.wt (by have:=hs.wt;omega));have CQ:=zh (λW=>pY p.wq W);have CK:=zh (λW=>jn p.keep 0 65535 W);have CU:=zh (λW=>vK p.u 200 W (by have:=hs.u;omega));have CC:=zh (λW=>vK p.c 23 W (by have:=hs.c;omega));clear hk hs
 generalize cK p=X at HX ⊢
 generalize o7 p=WW at HX E1
 generalize o8 p=UU at HX E2
 generalize o9 p=PP at HX E3
 obtain⟨k,dup,ret,q,t,b,id,c,cl,keep,hw,wt,wb,wq,wr,hu,hp,u,pw,pr,code,wants,aF,fs⟩:=p;simp only at HX HZ E1 E2 E3 CN CQ CK CU CC
 generalize fW wt=xn at E1 CN
 generalize dz wq 0 2=xq at E1 CQ
 generalize dz keep 0 65535=xk at HX CK
 generalize dW u 200=xu at E2 CU
 generalize dW c 23=xc at HX CC
 obtain⟨xb,LD⟩:∃x,decide ((wb.length:Int)<=2000)=x:=⟨_,rfl⟩;obtain⟨xp,QP⟩:∃x,decide ((pw.length:Int)<=200)=x:=⟨_,rfl⟩;have hue:=yA u;have hpe:=yA pw;have hce:=Gl c
 generalize u.isEmpty=ue at hue E2
 generalize pw.isEmpty=pe at hpe E3
 generalize (!c.isEmpty)=ce at hce HX
 rw[LD]at E1;rw[QP]at E3;obtain⟨W0,aV⟩:∃W,(w).alloc (.cells (zP k dup ret q t b id c cl keep hw wt wb wq wr hu hp u pw pr code sw sc sf) 29)=W:=⟨_,rfl⟩;have k0:ae (w) W0 []:=by rw[<-aV];exact ae.alloc _ _
 have r0:Row W0 (w).heap.size 29 (zP k dup ret q t b id c cl keep hw wt wb wq wr hu hp u pw pr code sw sc sf):=by rw[<-aV];exact Row.new _ _ _
 obtain⟨W1,hW1⟩:∃W1,W0.alloc (.cells #[.string ⟨wt.toArray⟩,.string ⟨wb.toArray⟩,.int .i64 wq,.bool wr] 24)=W1:=⟨_,rfl⟩;have q0:ae W0 W1 []:=by rw[<-hW1];exact ae.alloc _ _
 have HR:=zh (And.intro (k0.ah q0) (And.intro (r0.keeps q0) (show Row W1 W0.heap.size 24 #[.string ⟨wt.toArray⟩,.string ⟨wb.toArray⟩,.int .i64 wq,.bool wr]by rw[<-hW1];exact Row.new _ _ _)));have x0:=r0.cell 0;have x1:=r0.cell 1;have x2:=r0.cell 2;have x3:=r0.cell 3;have x4:=r0.cell 4;have x5:=r0.cell 5;have x6:=r0.cell 6;have x7:=r0.cell 7;have x8:=r0.cell 8;have x9:=r0.cell 9;have iB:=r0.cell 10;have mz:=r0.cell 11;have lV:=r0.cell 12;have lU:=r0.cell 13;have mw:=r0.cell 14;have jf:=r0.cell 15;have hU:=r0.cell 16;have lT:=r0.cell 17;have mL:=r0.cell 18;have mK:=r0.cell 19;have x20:=r0.cell 20;have ju:=r0.cell 21;have mr:=r0.cell 22;have mJ:=r0.cell 23;simp only[cg,bU,fe]at x0 x1 x2 x3 x4 x5 x6 x7 x8 x9 iB mz lV lU mw jf hU lT mL mK x20 ju mr mJ;have h0:=r0.lt;clear k0 r0 q0
 go_enter func125,ntmps125
 go_upto_region 2 with fail
 clear aV hW1 h0;clear x0 x1 x2 x3 x4 x5 x6 x7 x8 x9 iB mz lV lU mw jf hU lT mL mK x20 ju mr mJ;have HP:=zh HR.o.2.1;have HV:=zh HR.o.2.2;have HK:=zh HR.o.1;clear HR;have jM:=zh (ae.refl W1 [])
 go_cut [4] (λv wx=>v= .bool WW/\ae W1 wx [])
 case first=>
  cases hw with
  | true=>
   cases xn with
   | true=>
    cases xb with
    | true=>
     refine av ax _ 28 rfl (by kernel_rfl) (by kernel_rfl) (λ_=>ae.refl _ _) (λ_ _ _ h k=>h.trans k (by simp)) ?_;simp only[dc,dg,dF,dK];refine lq (.pointer (some ⟨w.heap.size,10,none⟩)) ?_;refine ll 4 (.tmp 9) (⟨w.heap.size,10,none⟩) (.bool true) (λW hW=>((HP.o.keeps (jM.o.ah hW)).cell 10).trans (by kernel_rfl)) ?_
     iterate 2
      refine lq (.bool false) ?_
     iterate 3
      refine lo ?_
     iterate 2
      refine lq (.bool false) ?_
     refine lq (.pointer (some ⟨w.heap.size,10,none⟩)) ?_;refine ll 4 (.tmp 18) (⟨w.heap.size,10,none⟩) (.bool true) (λW hW=>((HP.o.keeps (jM.o.ah hW)).cell 10).trans (by kernel_rfl)) ?_;refine lq (.bool true) ?_;refine lq (.pointer (some ⟨W0.heap.size,0,none⟩)) ?_;refine ll 9 (.tmp 21) (⟨W0.heap.size,0,none⟩) (.string ⟨wt.toArray⟩) (λW hW=>((HV.o.keeps (jM.o.ah hW)).cell 0).trans (by kernel_rfl)) ?_;refine aT 126 (#[.string ⟨wt.toArray⟩]) (.bool true) (λ_=>by kernel_rfl) (λ_ _=>by kernel_rfl) (λW hW=>CN.o W) ?_
     iterate 2
      refine lq (.bool true) ?_
     refine lq (.pointer (some ⟨W0.heap.size,1,none⟩)) ?_;refine ll 9 (.tmp 26) (⟨W0.heap.size,1,none⟩) (.string ⟨wb.toArray⟩) (λW hW=>((HV.o.keeps (jM.o.ah hW)).cell 1).trans (by kernel_rfl)) ?_;refine lq (.int .i64 ((wb.length:Nat):Int)) ?_;refine aK (.bool true) (λ_=>by kernel_rfl) (λW _=>(show _=Result.ok (Next.value (.bool (decide ((wb.length:Int)<=2000)))) W by kernel_rfl).trans (by rw[LD])) ?_
     iterate 2
      refine lq (.bool true) ?_
     refine lq (.pointer (some ⟨W0.heap.size,2,none⟩)) ?_;refine ll 3 (.tmp 32) (⟨W0.heap.size,2,none⟩) (.int .i64 wq) (λW hW=>((HV.o.keeps (jM.o.ah hW)).cell 2).trans (by kernel_rfl)) ?_;refine aT 65 (#[.int .i64 wq]) (.bool xq) (λ_=>by kernel_rfl) (λ_ _=>by kernel_rfl) (λW hW=>CQ.o W) ?_
     iterate 2
      refine lq (.bool xq) ?_
     refine aq (λW vals hW ag=> ?_);simp only[af,aw]at ag
     try simp only[ai]at ag
     simp only[af,fill,Act.put,bo,bn,bh]
     go_wp2_with fail
     go_meet
     case rel=>exact⟨by rw[E1.o];rfl,jM.o.ah hW⟩
    | false=>
     refine av ax _ 28 rfl (by kernel_rfl) (by kernel_rfl) (λ_=>ae.refl _ _) (λ_ _ _ h k=>h.trans k (by simp)) ?_;simp only[dc,dg,dF,dK];refine lq (.pointer (some ⟨w.heap.size,10,none⟩)) ?_;refine ll 4 (.tmp 9) (⟨w.heap.size,10,none⟩) (.bool true) (λW hW=>((HP.o.keeps (jM.o.ah hW)).cell 10).trans (by kernel_rfl)) ?_
     iterate 2
      refine lq (.bool false) ?_
     iterate 3
      refine lo ?_
     iterate 2
      refine lq (.bool false) ?_
     refine lq (.pointer (some ⟨w.heap.size,10,none⟩)) ?_;refine ll 4 (.tmp 18) (⟨w.heap.size,10,none⟩) (.bool true) (λW hW=>((HP.o.keeps (jM.o.ah hW)).cell 10).trans (by kernel_rfl)) ?_;refine lq (.bool true) ?_;refine lq (.pointer (some ⟨W0.heap.size,0,none⟩)) ?_;refine ll 9 (.tmp 21) (⟨W0.heap.size,0,none⟩) (.string ⟨wt.toArray⟩) (λW hW=>((HV.o.keeps (jM.o.ah hW)).cell 0).trans (by kernel_rfl)) ?_;refine aT 126 (#[.string ⟨wt.toArray⟩]) (.bool true) (λ_=>by kernel_rfl) (λ_ _=>by kernel_rfl) (λW hW=>CN.o W) ?_
     iterate 2
      refine lq (.bool true) ?_
     refine lq (.pointer (some ⟨W0.heap.size,1,none⟩)) ?_;refine ll 9 (.tmp 26) (⟨W0.heap.size,1,none⟩) (.string ⟨wb.toArray⟩) (λW hW=>((HV.o.keeps (jM.o.ah hW)).cell 1).trans (by kernel_rfl)) ?_;refine lq (.int .i64 ((wb.length:Nat):Int)) ?_;refine aK (.bool false) (λ_=>by kernel_rfl) (λW _=>(show _=Result.ok (Next.value (.bool (decide ((wb.length:Int)<=2000)))) W by kernel_rfl).trans (by rw[LD])) ?_
     iterate 2
      refine lq (.bool false) ?_
     iterate 3
      refine lo ?_
     iterate 2
      refine lq (.bool false) ?_
     refine aq (λW vals hW ag=> ?_);simp only[af,aw]at ag
     try simp only[ai]at ag
     simp only[af,fill,Act.put,bo,bn,bh]
     go_wp2_with fail
     go_meet
     case rel=>exact⟨by rw[E1.o];rfl,jM.o.ah hW⟩
   | false=>
    refine av ax _ 28 rfl (by kernel_rfl) (by kernel_rfl) (λ_=>ae.refl _ _) (λ_ _ _ h k=>h.trans k (by simp)) ?_;simp only[dc,dg,dF,dK];refine lq (.pointer (some ⟨w.heap.size,10,none⟩)) ?_;refine ll 4 (.tmp 9) (⟨w.heap.size,10,none⟩) (.bool true) (λW hW=>((HP.o.keeps (jM.o.ah hW)).cell 10).trans (by kernel_rfl)) ?_
    iterate 2
     refine lq (.bool false) ?_
    iterate 3
     refine lo ?_
    iterate 2
     refine lq (.bool false) ?_
    refine lq (.pointer (some ⟨w.heap.size,10,none⟩)) ?_;refine ll 4 (.tmp 18) (⟨w.heap.size,10,none⟩) (.bool true) (λW hW=>((HP.o.keeps (jM.o.ah hW)).cell 10).trans (by kernel_rfl)) ?_;refine lq (.bool true) ?_;refine lq (.pointer (some ⟨W0.heap.size,0,none⟩)) ?_;refine ll 9 (.tmp 21) (⟨W0.heap.size,0,none⟩) (.string ⟨wt.toArray⟩) (λW hW=>((HV.o.keeps (jM.o.ah hW)).cell 0).trans (by kernel_rfl)) ?_;refine aT 126 (#[.string ⟨wt.toArray⟩]) (.bool false) (λ_=>by kernel_rfl) (λ_ _=>by kernel_rfl) (λW hW=>CN.o W) ?_
    iterate 2
     refine lq (.bool false) ?_
    iterate 4
     refine lo ?_
    iterate 2
     refine lq (.bool false) ?_
    iterate 3
     refine lo ?_
    iterate 2
     refine lq (.bool false) ?_
    refine aq (λW vals hW ag=> ?_);simp only[af,aw]at ag
    try simp only[ai]at ag
    simp only[af,fill,Act.put,bo,bn,bh]
    go_wp2_with fail
    go_meet
    case rel=>exact⟨by rw[E1.o];rfl,jM.o.ah hW⟩
  | false=>
   cases xz with
   | true=>
    refine av ax _ 28 rfl (by kernel_rfl) (by kernel_rfl) (λ_=>ae.refl _ _) (λ_ _ _ h k=>h.trans k (by simp)) ?_;simp only[dc,dg,dF,dK];refine lq (.pointer (some ⟨w.heap.size,10,none⟩)) ?_;refine ll 4 (.tmp 9) (⟨w.heap.size,10,none⟩) (.bool false) (λW hW=>((HP.o.keeps (jM.o.ah hW)).cell 10).trans (by kernel_rfl)) ?_
    iterate 2
     refine lq (.bool true) ?_
    apply ak
    ·intro W vals hW ag
     clear ag;simp only[af,fill];obtain⟨d,hu,hd⟩:=D2;refine kQ ?_ rfl ?_ (aD (HV.o.keeps hW)) hu hd ?_ (ae.refl _ _) rfl
     ·go_simp
     ·go_simp
     ·kernel_rfl
    simp only[af];refine ls ?_;simp only[af];apply ak
    ·intro W vals hW ag
     clear ag;simp only[fill];refine vP ?_ rfl ?_ ?_ ?_ HZ.o (ae.refl _ _) rfl
     ·go_simp
     ·go_simp
     ·go_simp
     ·kernel_rfl
    simp only[af]
    iterate 2
     refine lq (.bool true) ?_
    iterate 18
     refine lo ?_
    refine lq (.bool true) ?_;refine aq (λW vals hW ag=> ?_);simp only[af,aw]at ag
    try simp only[ai]at ag
    simp only[af,fill,Act.put,bo,bn,bh]
    go_wp2_with fail
    go_meet
    case rel=>exact⟨by rw[E1.o];rfl,jM.o.ah hW⟩
   | false=>
    refine av ax _ 28 rfl (by kernel_rfl) (by kernel_rfl) (λ_=>ae.refl _ _) (λ_ _ _ h k=>h.trans k (by simp)) ?_;simp only[dc,dg,dF,dK];refine lq (.pointer (some ⟨w.heap.size,10,none⟩)) ?_;refine ll 4 (.tmp 9) (⟨w.heap.size,10,none⟩) (.bool false) (λW hW=>((HP.o.keeps (jM.o.ah hW)).cell 10).trans (by kernel_rfl)) ?_
    iterate 2
     refine lq (.bool true) ?_
    apply ak
    ·intro W vals hW ag
     clear ag;simp only[af,fill];obtain⟨d,hu,hd⟩:=D2;refine kQ ?_ rfl ?_ (aD (HV.o.keeps hW)) hu hd ?_ (ae.refl _ _) rfl
     ·go_simp
     ·go_simp
     ·kernel_rfl
    simp only[af];refine ls ?_;simp only[af];apply ak
    ·intro W vals hW ag
     clear ag;simp only[fill];refine vP ?_ rfl ?_ ?_ ?_ HZ.o (ae.refl _ _) rfl
     ·go_simp
     ·go_simp
     ·go_simp
     ·kernel_rfl
    simp only[af]
    iterate 2
     refine lq (.bool false) ?_
    refine lq (.pointer (some ⟨w.heap.size,10,none⟩)) ?_;refine ll 4 (.tmp 18) (⟨w.heap.size,10,none⟩) (.bool false) (λW hW=>((HP.o.keeps (jM.o.ah hW)).cell 10).trans (by kernel_rfl)) ?_;refine lq (.bool false) ?_
    iterate 2
     refine lo ?_;refine lo ?_;refine lo ?_;refine lq (.bool false) ?_;refine lq (.bool false) ?_;refine lo ?_
    refine lo ?_;refine lo ?_
    iterate 2
     refine lq (.bool false) ?_
    refine aq (λW vals hW ag=> ?_);simp only[af,aw]at ag
    try simp only[ai]at ag
    simp only[af,fill,Act.put,bo,bn,bh]
    go_wp2_with fail
    go_meet
    case rel=>exact⟨by rw[E1.o];rfl,jM.o.ah hW⟩
 case rest=>
  obtain⟨rfl,hk1⟩:=hcut;have kU:=zh (jM.o.ah hk1);clear hk1
  go_upto_region 3 with fail
  go_cut [5] (λv wx=>v= .bool UU/\ae W1 wx [])
  case first=>
   cases hu with
   | true=>
    cases xu with
    | true=>
     refine av ax _ 22 rfl (by kernel_rfl) (by kernel_rfl) (λ_=>ae.refl _ _) (λ_ _ _ h k=>h.trans k (by simp)) ?_;simp only[dc,dg,dF,dK];refine lq (.pointer (some ⟨w.heap.size,15,none⟩)) ?_;refine ll 4 (.tmp 37) (⟨w.heap.size,15,none⟩) (.bool true) (λW hW=>((HP.o.keeps (kU.o.ah hW)).cell 15).trans (by kernel_rfl)) ?_;refine lq (.bool true) ?_;refine lq (.pointer (some ⟨w.heap.size,17,none⟩)) ?_;refine ll 9 (.tmp 40) (⟨w.heap.size,17,none⟩) (.string ⟨u.toArray⟩) (λW hW=>((HP.o.keeps (kU.o.ah hW)).cell 17).trans (by kernel_rfl)) ?_;refine aT 127 (#[.string ⟨u.toArray⟩,.int .i64 200]) (.bool true) (λ_=>by kernel_rfl) (λ_ _=>by kernel_rfl) (λW hW=>CU.o W) ?_
     iterate 2
      refine lq (.bool true) ?_
     iterate 13
      refine lo ?_
     refine lq (.bool true) ?_;refine aq (λW vals hW ag=> ?_);simp only[af,aw]at ag
     try simp only[ai]at ag
     simp only[af,fill,Act.put,bo,bn,bh]
     go_wp2_with fail
     go_meet
     case rel=>exact⟨by rw[E2.o];rfl,kU.o.ah hW⟩
    | false=>
     refine av ax _ 22 rfl (by kernel_rfl) (by kernel_rfl) (λ_=>ae.refl _ _) (λ_ _ _ h k=>h.trans k (by simp)) ?_;simp only[dc,dg,dF,dK];refine lq (.pointer (some ⟨w.heap.size,15,none⟩)) ?_;refine ll 4 (.tmp 37) (⟨w.heap.size,15,none⟩) (.bool true) (λW hW=>((HP.o.keeps (kU.o.ah hW)).cell 15).trans (by kernel_rfl)) ?_;refine lq (.bool true) ?_;refine lq (.pointer (some ⟨w.heap.size,17,none⟩)) ?_;refine ll 9 (.tmp 40) (⟨w.heap.size,17,none⟩) (.string ⟨u.toArray⟩) (λW hW=>((HP.o.keeps (kU.o.ah hW)).cell 17).trans (by kernel_rfl)) ?_;refine aT 127 (#[.string ⟨u.toArray⟩,.int .i64 200]) (.bool false) (λ_=>by kernel_rfl) (λ_ _=>by kernel_rfl) (λW hW=>CU.o W) ?_
     iterate 2
      refine lq (.bool false) ?_
     refine lq (.pointer (some ⟨w.heap.size,15,none⟩)) ?_;refine ll 4 (.tmp 45) (⟨w.heap.size,15,none⟩) (.bool true) (λW hW=>((HP.o.keeps (kU.o.ah hW)).cell 15).trans (by kernel_rfl)) ?_
     iterate 2
      refine lq (.bool false) ?_;refine lq (.bool false) ?_;refine lo ?_;refine lo ?_;refine lo ?_
     iterate 2
      refine lq (.bool false) ?_
     refine aq (λW vals hW ag=> ?_);simp only[af,aw]at ag
     try simp only[ai]at ag
     simp only[af,fill,Act.put,bo,bn,bh]
     go_wp2_with fail
     go_meet
     case rel=>exact⟨by rw[E2.o];rfl,kU.o.ah hW⟩
   | false=>
    cases ue with
    | true=>
     refine av ax _ 22 rfl (by kernel_rfl) (by kernel_rfl) (λ_=>ae.refl _ _) (λ_ _ _ h k=>h.trans k (by simp)) ?_;simp only[dc,dg,dF,dK];refine lq (.pointer (some ⟨w.heap.size,15,none⟩)) ?_;refine ll 4 (.tmp 37) (⟨w.heap.size,15,none⟩) (.bool false) (λW hW=>((HP.o.keeps (kU.o.ah hW)).cell 15).trans (by kernel_rfl)) ?_;refine lq (.bool false) ?_
     iterate 3
      refine lo ?_
     iterate 2
      refine lq (.bool false) ?_
     refine lq (.pointer (some ⟨w.heap.size,15,none⟩)) ?_;refine ll 4 (.tmp 45) (⟨w.heap.size,15,none⟩) (.bool false) (λW hW=>((HP.o.keeps (kU.o.ah hW)).cell 15).trans (by kernel_rfl)) ?_
     iterate 2
      refine lq (.bool true) ?_
     refine lq (.pointer (some ⟨w.heap.size,17,none⟩)) ?_;refine ll 9 (.tmp 49) (⟨w.heap.size,17,none⟩) (.string ⟨u.toArray⟩) (λW hW=>((HP.o.keeps (kU.o.ah hW)).cell 17).trans (by kernel_rfl)) ?_;refine aK (.bool true) (λ_=>by kernel_rfl) (λW _=>(show _=Result.ok (Next.value (.bool (((⟨u.toArray⟩:ByteArray).toList==(⟨#[]⟩:ByteArray).toList)))) W by kernel_rfl).trans (by rw[hue])) ?_
     iterate 2
      refine lq (.bool true) ?_
     refine lq (.pointer (some ⟨w.heap.size,16,none⟩)) ?_;refine ll 4 (.tmp 54) (⟨w.heap.size,16,none⟩) (.bool hp) (λW hW=>((HP.o.keeps (kU.o.ah hW)).cell 16).trans (by kernel_rfl)) ?_
     iterate 3
      refine lq (.bool (!hp)) ?_
     refine aq (λW vals hW ag=> ?_);simp only[af,aw]at ag
     try simp only[ai]at ag
     simp only[af,fill,Act.put,bo,bn,bh]
     go_wp2_with fail
     go_meet
     case rel=>exact⟨by rw[E2.o];rfl,kU.o.ah hW⟩
    | false=>
     refine av ax _ 22 rfl (by kernel_rfl) (by kernel_rfl) (λ_=>ae.refl _ _) (λ_ _ _ h k=>h.trans k (by simp)) ?_;simp only[dc,dg,dF,dK];refine lq (.pointer (some ⟨w.heap.size,15,none⟩)) ?_;refine ll 4 (.tmp 37) (⟨w.heap.size,15,none⟩) (.bool false) (λW hW=>((HP.o.keeps (kU.o.ah hW)).cell 15).trans (by kernel_rfl)) ?_;refine lq (.bool false) ?_
     iterate 3
      refine lo ?_
     iterate 2
      refine lq (.bool false) ?_
     refine lq (.pointer (some ⟨w.heap.size,15,none⟩)) ?_;refine ll 4 (.tmp 45) (⟨w.heap.size,15,none⟩) (.bool false) (λW hW=>((HP.o.keeps (kU.o.ah hW)).cell 15).trans (by kernel_rfl)) ?_
     iterate 2
      refine lq (.bool true) ?_
     refine lq (.pointer (some ⟨w.heap.size,17,none⟩)) ?_;refine ll 9 (.tmp 49) (⟨w.heap.size,17,none⟩) (.string ⟨u.toArray⟩) (λW hW=>((HP.o.keeps (kU.o.ah hW)).cell 17).trans (by kernel_rfl)) ?_;refine aK (.bool false) (λ_=>by kernel_rfl) (λW _=>(show _=Result.ok (Next.value (.bool (((⟨u.toArray⟩:ByteArray).toList==(⟨#[]⟩:ByteArray).toList)))) W by kernel_rfl).trans (by rw[hue])) ?_
     iterate 2
      refine lq (.bool false) ?_
     iterate 3
      refine lo ?_
     iterate 2
      refine lq (.bool false) ?_
     refine aq (λW vals hW ag=> ?_);simp only[af,aw]at ag
     try simp only[ai]at ag
     simp only[af,fill,Act.put,bo,bn,bh]
     go_wp2_with fail
     go_meet
     case rel=>exact⟨by rw[E2.o];rfl,kU.o.ah hW⟩
  case rest=>
   obtain⟨rfl,hk1⟩:=hcut;have lN:=zh (jM.o.ah hk1);clear hk1
   go_upto_region 4 with fail
   go_cut [6] (λv wx=>v= .bool PP/\ae W1 wx [])
   case first=>
    cases hp with
    | true=>
     cases xp with
     | true=>
      refine av ax _ 18 rfl (by kernel_rfl) (by kernel_rfl) (λ_=>ae.refl _ _) (λ_ _ _ h k=>h.trans k (by simp)) ?_;simp only[dc,dg,dF,dK];refine lq (.pointer (some ⟨w.heap.size,16,none⟩)) ?_;refine ll 4 (.tmp 59) (⟨w.heap.size,16,none⟩) (.bool true) (λW hW=>((HP.o.keeps (lN.o.ah hW)).cell 16).trans (by kernel_rfl)) ?_;refine lq (.bool true) ?_;refine lq (.pointer (some ⟨w.heap.size,18,none⟩)) ?_;refine ll 9 (.tmp 62) (⟨w.heap.size,18,none⟩) (.string ⟨pw.toArray⟩) (λW hW=>((HP.o.keeps (lN.o.ah hW)).cell 18).trans (by kernel_rfl)) ?_;refine lq (.int .i64 ((pw.length:Nat):Int)) ?_;refine aK (.bool true) (λ_=>by kernel_rfl) (λW _=>(show _=Result.ok (Next.value (.bool (decide ((pw.length:Int)<=200)))) W by kernel_rfl).trans (by rw[QP])) ?_
      iterate 2
       refine lq (.bool true) ?_
      iterate 8
       refine lo ?_
      refine lq (.bool true) ?_;refine aq (λW vals hW ag=> ?_);simp only[af,aw]at ag
      try simp only[ai]at ag
      simp only[af,fill,Act.put,bo,bn,bh]
      go_wp2_with fail
      go_meet
      case rel=>exact⟨by rw[E3.o];rfl,lN.o.ah hW⟩
     | false=>
      refine av ax _ 18 rfl (by kernel_rfl) (by kernel_rfl) (λ_=>ae.refl _ _) (λ_ _ _ h k=>h.trans k (by simp)) ?_;simp only[dc,dg,dF,dK];refine lq (.pointer (some ⟨w.heap.size,16,none⟩)) ?_;refine ll 4 (.tmp 59) (⟨w.heap.size,16,none⟩) (.bool true) (λW hW=>((HP.o.keeps (lN.o.ah hW)).cell 16).trans (by kernel_rfl)) ?_;refine lq (.bool true) ?_;refine lq (.pointer (some ⟨w.heap.size,18,none⟩)) ?_;refine ll 9 (.tmp 62) (⟨w.heap.size,18,none⟩) (.string ⟨pw.toArray⟩) (λW hW=>((HP.o.keeps (lN.o.ah hW)).cell 18).trans (by kernel_rfl)) ?_;refine lq (.int .i64 ((pw.length:Nat):Int)) ?_;refine aK (.bool false) (λ_=>by kernel_rfl) (λW _=>(show _=Result.ok (Next.value (.bool (decide ((pw.length:Int)<=200)))) W by kernel_rfl).trans (by rw[QP])) ?_
      iterate 2
       refine lq (.bool false) ?_
      refine lq (.pointer (some ⟨w.heap.size,16,none⟩)) ?_;refine ll 4 (.tmp 68) (⟨w.heap.size,16,none⟩) (.bool true) (λW hW=>((HP.o.keeps (lN.o.ah hW)).cell 16).trans (by kernel_rfl)) ?_
      iterate 2
       refine lq (.bool false) ?_
      iterate 3
       refine lo ?_
      iterate 2
       refine lq (.bool false) ?_
      refine aq (λW vals hW ag=> ?_);simp only[af,aw]at ag
      try simp only[ai]at ag
      simp only[af,fill,Act.put,bo,bn,bh]
      go_wp2_with fail
      go_meet
      case rel=>exact⟨by rw[E3.o];rfl,lN.o.ah hW⟩
    | false=>
     refine av ax _ 18 rfl (by kernel_rfl) (by kernel_rfl) (λ_=>ae.refl _ _) (λ_ _ _ h k=>h.trans k (by simp)) ?_;simp only[dc,dg,dF,dK];refine lq (.pointer (some ⟨w.heap.size,16,none⟩)) ?_;refine ll 4 (.tmp 59) (⟨w.heap.size,16,none⟩) (.bool false) (λW hW=>((HP.o.keeps (lN.o.ah hW)).cell 16).trans (by kernel_rfl)) ?_;refine lq (.bool false) ?_
     iterate 4
      refine lo ?_
     iterate 2
      refine lq (.bool false) ?_
     refine lq (.pointer (some ⟨w.heap.size,16,none⟩)) ?_;refine ll 4 (.tmp 68) (⟨w.heap.size,16,none⟩) (.bool false) (λW hW=>((HP.o.keeps (lN.o.ah hW)).cell 16).trans (by kernel_rfl)) ?_
     iterate 2
      refine lq (.bool true) ?_
     refine lq (.pointer (some ⟨w.heap.size,18,none⟩)) ?_;refine ll 9 (.tmp 72) (⟨w.heap.size,18,none⟩) (.string ⟨pw.toArray⟩) (λW hW=>((HP.o.keeps (lN.o.ah hW)).cell 18).trans (by kernel_rfl)) ?_;refine aK (.bool pe) (λ_=>by kernel_rfl) (λW _=>(show _=Result.ok (Next.value (.bool (((⟨pw.toArray⟩:ByteArray).toList==(⟨#[]⟩:ByteArray).toList)))) W by kernel_rfl).trans (by rw[hpe])) ?_
     iterate 2
      refine lq (.bool pe) ?_
     refine aq (λW vals hW ag=> ?_);simp only[af,aw]at ag
     try simp only[ai]at ag
     simp only[af,fill,Act.put,bo,bn,bh]
     go_wp2_with fail
     go_meet
     case rel=>exact⟨by rw[E3.o];rfl,lN.o.ah hW⟩
   case rest=>
    obtain⟨rfl,hk1⟩:=hcut;have fK:=zh (jM.o.ah hk1);clear hk1
    go_upto_region 5 with fail
    cases xc with
    | true=>
     cases cl with
     | true=>
      cases xk with
      | true=>
       cases WW with
       | true=>
        cases UU with
        | true=>
         refine av ax _ 26 rfl (by kernel_rfl) (by kernel_rfl) (λ_=>ae.refl _ _) (λ_ _ _ h k=>h.trans k (by simp)) ?_;simp only[dc,dg,dF,dK];refine lq (.pointer (some ⟨w.heap.size,7,none⟩)) ?_;refine ll 9 (.tmp 77) (⟨w.heap.size,7,none⟩) (.string ⟨c.toArray⟩) (λW hW=>((HP.o.keeps (fK.o.ah hW)).cell 7).trans (by kernel_rfl)) ?_;refine aT 127 (#[.string ⟨c.toArray⟩,.int .i64 23]) (.bool true) (λ_=>by kernel_rfl) (λ_ _=>by kernel_rfl) (λW hW=>CC.o W) ?_;refine lq (.bool true) ?_;refine lq (.pointer (some ⟨w.heap.size,8,none⟩)) ?_;refine ll 4 (.tmp 81) (⟨w.heap.size,8,none⟩) (.bool true) (λW hW=>((HP.o.keeps (fK.o.ah hW)).cell 8).trans (by kernel_rfl)) ?_;refine lq (.bool true) ?_
         iterate 3
          refine lo ?_
         iterate 3
          refine lq (.bool true) ?_
         refine lq (.pointer (some ⟨w.heap.size,9,none⟩)) ?_;refine ll 2 (.tmp 90) (⟨w.heap.size,9,none⟩) (.int .i64 keep) (λW hW=>((HP.o.keeps (fK.o.ah hW)).cell 9).trans (by kernel_rfl)) ?_;refine aT 52 (#[.int .i64 keep,.int .i64 0,.int .i64 65535]) (.bool true) (λ_=>by kernel_rfl) (λ_ _=>by kernel_rfl) (λW hW=>CK.o W) ?_
         iterate 8
          refine lq (.bool true) ?_
         iterate 2
          refine lq (.bool PP) ?_
         refine aq (λW vals hW ag=> ?_);simp only[af,aw]at ag
         try simp only[ai]at ag
         simp only[af,fill,Act.put,bo,bn,bh]
         go_wp2_with fail
         go_ret;exact⟨by rw[HX.o];rfl,HK.o.ah (fK.o.ah hW)⟩
        | false=>
         refine av ax _ 26 rfl (by kernel_rfl) (by kernel_rfl) (λ_=>ae.refl _ _) (λ_ _ _ h k=>h.trans k (by simp)) ?_;simp only[dc,dg,dF,dK];refine lq (.pointer (some ⟨w.heap.size,7,none⟩)) ?_;refine ll 9 (.tmp 77) (⟨w.heap.size,7,none⟩) (.string ⟨c.toArray⟩) (λW hW=>((HP.o.keeps (fK.o.ah hW)).cell 7).trans (by kernel_rfl)) ?_;refine aT 127 (#[.string ⟨c.toArray⟩,.int .i64 23]) (.bool true) (λ_=>by kernel_rfl) (λ_ _=>by kernel_rfl) (λW hW=>CC.o W) ?_;refine lq (.bool true) ?_;refine lq (.pointer (some ⟨w.heap.size,8,none⟩)) ?_;refine ll 4 (.tmp 81) (⟨w.heap.size,8,none⟩) (.bool true) (λW hW=>((HP.o.keeps (fK.o.ah hW)).cell 8).trans (by kernel_rfl)) ?_;refine lq (.bool true) ?_
         iterate 3
          refine lo ?_
         iterate 3
          refine lq (.bool true) ?_
         refine lq (.pointer (some ⟨w.heap.size,9,none⟩)) ?_;refine ll 2 (.tmp 90) (⟨w.heap.size,9,none⟩) (.int .i64 keep) (λW hW=>((HP.o.keeps (fK.o.ah hW)).cell 9).trans (by kernel_rfl)) ?_;refine aT 52 (#[.int .i64 keep,.int .i64 0,.int .i64 65535]) (.bool true) (λ_=>by kernel_rfl) (λ_ _=>by kernel_rfl) (λW hW=>CK.o W) ?_
         iterate 5
          refine lq (.bool true) ?_
         iterate 3
          refine lq (.bool false) ?_
         refine lo ?_;refine lq (.bool false) ?_;refine aq (λW vals hW ag=> ?_);simp only[af,aw]at ag
         try simp only[ai]at ag
         simp only[af,fill,Act.put,bo,bn,bh]
         go_wp2_with fail
         go_ret;exact⟨by rw[HX.o];rfl,HK.o.ah (fK.o.ah hW)⟩
       | false=>
        refine av ax _ 26 rfl (by kernel_rfl) (by kernel_rfl) (λ_=>ae.refl _ _) (λ_ _ _ h k=>h.trans k (by simp)) ?_;simp only[dc,dg,dF,dK];refine lq (.pointer (some ⟨w.heap.size,7,none⟩)) ?_;refine ll 9 (.tmp 77) (⟨w.heap.size,7,none⟩) (.string ⟨c.toArray⟩) (λW hW=>((HP.o.keeps (fK.o.ah hW)).cell 7).trans (by kernel_rfl)) ?_;refine aT 127 (#[.string ⟨c.toArray⟩,.int .i64 23]) (.bool true) (λ_=>by kernel_rfl) (λ_ _=>by kernel_rfl) (λW hW=>CC.o W) ?_;refine lq (.bool true) ?_;refine lq (.pointer (some ⟨w.heap.size,8,none⟩)) ?_;refine ll 4 (.tmp 81) (⟨w.heap.size,8,none⟩) (.bool true) (λW hW=>((HP.o.keeps (fK.o.ah hW)).cell 8).trans (by kernel_rfl)) ?_;refine lq (.bool true) ?_
        iterate 3
         refine lo ?_
        iterate 3
         refine lq (.bool true) ?_
        refine lq (.pointer (some ⟨w.heap.size,9,none⟩)) ?_;refine ll 2 (.tmp 90) (⟨w.heap.size,9,none⟩) (.int .i64 keep) (λW hW=>((HP.o.keeps (fK.o.ah hW)).cell 9).trans (by kernel_rfl)) ?_;refine aT 52 (#[.int .i64 keep,.int .i64 0,.int .i64 65535]) (.bool true) (λ_=>by kernel_rfl) (λ_ _=>by kernel_rfl) (λW hW=>CK.o W) ?_
        iterate 2
         refine lq (.bool true) ?_
        iterate 3
         refine lq (.bool false) ?_
        refine lo ?_
        iterate 2
         refine lq (.bool false) ?_
        refine lo ?_;refine lq (.bool false) ?_;refine aq (λW vals hW ag=> ?_);simp only[af,aw]at ag
        try simp only[ai]at ag
        simp only[af,fill,Act.put,bo,bn,bh]
        go_wp2_with fail
        go_ret;exact⟨by rw[HX.o];rfl,HK.o.ah (fK.o.ah hW)⟩
      | false=>
       refine av ax _ 26 rfl (by kernel_rfl) (by kernel_rfl) (λ_=>ae.refl _ _) (λ_ _ _ h k=>h.trans k (by simp)) ?_;simp only[dc,dg,dF,dK];refine lq (.pointer (some ⟨w.heap.size,7,none⟩)) ?_;refine ll 9 (.tmp 77) (⟨w.heap.size,7,none⟩) (.string ⟨c.toArray⟩) (λW hW=>((HP.o.keeps (fK.o.ah hW)).cell 7).trans (by kernel_rfl)) ?_;refine aT 127 (#[.string ⟨c.toArray⟩,.int .i64 23]) (.bool true) (λ_=>by kernel_rfl) (λ_ _=>by kernel_rfl) (λW hW=>CC.o W) ?_;refine lq (.bool true) ?_;refine lq (.pointer (some ⟨w.heap.size,8,none⟩)) ?_;refine ll 4 (.tmp 81) (⟨w.heap.size,8,none⟩) (.bool true) (λW hW=>((HP.o.keeps (fK.o.ah hW)).cell 8).trans (by kernel_rfl)) ?_;refine lq (.bool true) ?_
       iterate 3
        refine lo ?_
       iterate 3
        refine lq (.bool true) ?_
       refine lq (.pointer (some ⟨w.heap.size,9,none⟩)) ?_;refine ll 2 (.tmp 90) (⟨w.heap.size,9,none⟩) (.int .i64 keep) (λW hW=>((HP.o.keeps (fK.o.ah hW)).cell 9).trans (by kernel_rfl)) ?_;refine aT 52 (#[.int .i64 keep,.int .i64 0,.int .i64 65535]) (.bool false) (λ_=>by kernel_rfl) (λ_ _=>by kernel_rfl) (λW hW=>CK.o W) ?_
       iterate 3
        refine lq (.bool false) ?_;refine lq (.bool false) ?_;refine lo ?_
       refine lq (.bool false) ?_;refine aq (λW vals hW ag=> ?_);simp only[af,aw]at ag
       try simp only[ai]at ag
       simp only[af,fill,Act.put,bo,bn,bh]
       go_wp2_with fail
       go_ret;exact⟨by rw[HX.o];rfl,HK.o.ah (fK.o.ah hW)⟩
     | false=>
      cases ce with
      | true=>
       cases xk with
       | true=>
        cases WW with
        | true=>
         cases UU with
         | true=>
          refine av ax _ 26 rfl (by kernel_rfl) (by kernel_rfl) (λ_=>ae.refl _ _) (λ_ _ _ h k=>h.trans k (by simp)) ?_;simp only[dc,dg,dF,dK];refine lq (.pointer (some ⟨w.heap.size,7,none⟩)) ?_;refine ll 9 (.tmp 77) (⟨w.heap.size,7,none⟩) (.string ⟨c.toArray⟩) (λW hW=>((HP.o.keeps (fK.o.ah hW)).cell 7).trans (by kernel_rfl)) ?_;refine aT 127 (#[.string ⟨c.toArray⟩,.int .i64 23]) (.bool true) (λ_=>by kernel_rfl) (λ_ _=>by kernel_rfl) (λW hW=>CC.o W) ?_;refine lq (.bool true) ?_;refine lq (.pointer (some ⟨w.heap.size,8,none⟩)) ?_;refine ll 4 (.tmp 81) (⟨w.heap.size,8,none⟩) (.bool false) (λW hW=>((HP.o.keeps (fK.o.ah hW)).cell 8).trans (by kernel_rfl)) ?_;refine lq (.bool false) ?_;refine lq (.pointer (some ⟨w.heap.size,7,none⟩)) ?_;refine ll 9 (.tmp 84) (⟨w.heap.size,7,none⟩) (.string ⟨c.toArray⟩) (λW hW=>((HP.o.keeps (fK.o.ah hW)).cell 7).trans (by kernel_rfl)) ?_;refine aK (.bool true) (λ_=>by kernel_rfl) (λW _=>(show _=Result.ok (Next.value (.bool ((!((⟨c.toArray⟩:ByteArray).toList==(⟨#[]⟩:ByteArray).toList))))) W by kernel_rfl).trans (by rw[hce])) ?_
          iterate 3
           refine lq (.bool true) ?_
          refine lq (.pointer (some ⟨w.heap.size,9,none⟩)) ?_;refine ll 2 (.tmp 90) (⟨w.heap.size,9,none⟩) (.int .i64 keep) (λW hW=>((HP.o.keeps (fK.o.ah hW)).cell 9).trans (by kernel_rfl)) ?_;refine aT 52 (#[.int .i64 keep,.int .i64 0,.int .i64 65535]) (.bool true) (λ_=>by kernel_rfl) (λ_ _=>by kernel_rfl) (λW hW=>CK.o W) ?_
          iterate 8
           refine lq (.bool true) ?_
          iterate 2
           refine lq (.bool PP) ?_
          refine aq (λW vals hW ag=> ?_);simp only[af,aw]at ag
          try simp only[ai]at ag
          simp only[af,fill,Act.put,bo,bn,bh]
          go_wp2_with fail
          go_ret;exact⟨by rw[HX.o];rfl,HK.o.ah (fK.o.ah hW)⟩
         | false=>
          refine av ax _ 26 rfl (by kernel_rfl) (by kernel_rfl) (λ_=>ae.refl _ _) (λ_ _ _ h k=>h.trans k (by simp)) ?_;simp only[dc,dg,dF,dK];refine lq (.pointer (some ⟨w.heap.size,7,none⟩)) ?_;refine ll 9 (.tmp 77) (⟨w.heap.size,7,none⟩) (.string ⟨c.toArray⟩) (λW hW=>((HP.o.keeps (fK.o.ah hW)).cell 7).trans (by kernel_rfl)) ?_;refine aT 127 (#[.string ⟨c.toArray⟩,.int .i64 23]) (.bool true) (λ_=>by kernel_rfl) (λ_ _=>by kernel_rfl) (λW hW=>CC.o W) ?_;refine lq (.bool true) ?_;refine lq (.pointer (some ⟨w.heap.size,8,none⟩)) ?_;refine ll 4 (.tmp 81) (⟨w.heap.size,8,none⟩) (.bool false) (λW hW=>((HP.o.keeps (fK.o.ah hW)).cell 8).trans (by kernel_rfl)) ?_;refine lq (.bool false) ?_;refine lq (.pointer (some ⟨w.heap.size,7,none⟩)) ?_;refine ll 9 (.tmp 84) (⟨w.heap.size,7,none⟩) (.string ⟨c.toArray⟩) (λW hW=>((HP.o.keeps (fK.o.ah hW)).cell 7).trans (by kernel_rfl)) ?_;refine aK (.bool true) (λ_=>by kernel_rfl) (λW _=>(show _=Result.ok (Next.value (.bool ((!((⟨c.toArray⟩:ByteArray).toList==(⟨#[]⟩:ByteArray).toList))))) W by kernel_rfl).trans (by rw[hce])) ?_
          iterate 3
           refine lq (.bool true) ?_
          refine lq (.pointer (some ⟨w.heap.size,9,none⟩)) ?_;refine ll 2 (.tmp 90) (⟨w.heap.size,9,none⟩) (.int .i64 keep) (λW hW=>((HP.o.keeps (fK.o.ah hW)).cell 9).trans (by kernel_rfl)) ?_;refine aT 52 (#[.int .i64 keep,.int .i64 0,.int .i64 65535]) (.bool true) (λ_=>by kernel_rfl) (λ_ _=>by kernel_rfl) (λW hW=>CK.o W) ?_
          iterate 5
           refine lq (.bool true) ?_
          iterate 3
           refine lq (.bool false) ?_
          refine lo ?_;refine lq (.bool false) ?_;refine aq (λW vals hW ag=> ?_);simp only[af,aw]at ag
          try simp only[ai]at ag
          simp only[af,fill,Act.put,bo,bn,bh]
          go_wp2_with fail
          go_ret;exact⟨by rw[HX.o];rfl,HK.o.ah (fK.o.ah hW)⟩
        | false=>
         refine av ax _ 26 rfl (by kernel_rfl) (by kernel_rfl) (λ_=>ae.refl _ _) (λ_ _ _ h k=>h.trans k (by simp)) ?_;simp only[dc,dg,dF,dK];refine lq (.pointer (some ⟨w.heap.size,7,none⟩)) ?_;refine ll 9 (.tmp 77) (⟨w.heap.size,7,none⟩) (.string ⟨c.toArray⟩) (λW hW=>((HP.o.keeps (fK.o.ah hW)).cell 7).trans (by kernel_rfl)) ?_;refine aT 127 (#[.string ⟨c.toArray⟩,.int .i64 23]) (.bool true) (λ_=>by kernel_rfl) (λ_ _=>by kernel_rfl) (λW hW=>CC.o W) ?_;refine lq (.bool true) ?_;refine lq (.pointer (some ⟨w.heap.size,8,none⟩)) ?_;refine ll 4 (.tmp 81) (⟨w.heap.size,8,none⟩) (.bool false) (λW hW=>((HP.o.keeps (fK.o.ah hW)).cell 8).trans (by kernel_rfl)) ?_;refine lq (.bool false) ?_;refine lq (.pointer (some ⟨w.heap.size,7,none⟩)) ?_;refine ll 9 (.tmp 84) (⟨w.heap.size,7,none⟩) (.string ⟨c.toArray⟩) (λW hW=>((HP.o.keeps (fK.o.ah hW)).cell 7).trans (by kernel_rfl)) ?_;refine aK (.bool true) (λ_=>by kernel_rfl) (λW _=>(show _=Result.ok (Next.value (.bool ((!((⟨c.toArray⟩:ByteArray).toList==(⟨#[]⟩:ByteArray).toList))))) W by kernel_rfl).trans (by rw[hce])) ?_
         iterate 3
          refine lq (.bool true) ?_
         refine lq (.pointer (some ⟨w.heap.size,9,none⟩)) ?_;refine ll 2 (.tmp 90) (⟨w.heap.size,9,none⟩) (.int .i64 keep) (λW hW=>((HP.o.keeps (fK.o.ah hW)).cell 9).trans (by kernel_rfl)) ?_;refine aT 52 (#[.int .i64 keep,.int .i64 0,.int .i64 65535]) (.bool true) (λ_=>by kernel_rfl) (λ_ _=>by kernel_rfl) (λW hW=>CK.o W) ?_
         iterate 2
          refine lq (.bool true) ?_
         iterate 3
          refine lq (.bool false) ?_
         refine lo ?_
         iterate 2
          refine lq (.bool false) ?_
         refine lo ?_;refine lq (.bool false) ?_;refine aq (λW vals hW ag=> ?_);simp only[af,aw]at ag
         try simp only[ai]at ag
         simp only[af,fill,Act.put,bo,bn,bh]
         go_wp2_with fail
         go_ret;exact⟨by rw[HX.o];rfl,HK.o.ah (fK.o.ah hW)⟩
       | false=>
        refine av ax _ 26 rfl (by kernel_rfl) (by kernel_rfl) (λ_=>ae.refl _ _) (λ_ _ _ h k=>h.trans k (by simp)) ?_;simp only[dc,dg,dF,dK];refine lq (.pointer (some ⟨w.heap.size,7,none⟩)) ?_;refine ll 9 (.tmp 77) (⟨w.heap.size,7,none⟩) (.string ⟨c.toArray⟩) (λW hW=>((HP.o.keeps (fK.o.ah hW)).cell 7).trans (by kernel_rfl)) ?_;refine aT 127 (#[.string ⟨c.toArray⟩,.int .i64 23]) (.bool true) (λ_=>by kernel_rfl) (λ_ _=>by kernel_rfl) (λW hW=>CC.o W) ?_;refine lq (.bool true) ?_;refine lq (.pointer (some ⟨w.heap.size,8,none⟩)) ?_;refine ll 4 (.tmp 81) (⟨w.heap.size,8,none⟩) (.bool false) (λW hW=>((HP.o.keeps (fK.o.ah hW)).cell 8).trans (by kernel_rfl)) ?_;refine lq (.bool false) ?_;refine lq (.pointer (some ⟨w.heap.size,7,none⟩)) ?_;refine ll 9 (.tmp 84) (⟨w.heap.size,7,none⟩) (.string ⟨c.toArray⟩) (λW hW=>((HP.o.keeps (fK.o.ah hW)).cell 7).trans (by kernel_rfl)) ?_;refine aK (.bool true) (λ_=>by kernel_rfl) (λW _=>(show _=Result.ok (Next.value (.bool ((!((⟨c.toArray⟩:ByteArray).toList==(⟨#[]⟩:ByteArray).toList))))) W by kernel_rfl).trans (by rw[hce])) ?_
        iterate 3
         refine lq (.bool true) ?_
        refine lq (.pointer (some ⟨w.heap.size,9,none⟩)) ?_;refine ll 2 (.tmp 90) (⟨w.heap.size,9,none⟩) (.int .i64 keep) (λW hW=>((HP.o.keeps (fK.o.ah hW)).cell 9).trans (by kernel_rfl)) ?_;refine aT 52 (#[.int .i64 keep,.int .i64 0,.int .i64 65535]) (.bool false) (λ_=>by kernel_rfl) (λ_ _=>by kernel_rfl) (λW hW=>CK.o W) ?_
        iterate 3
         refine lq (.bool false) ?_;refine lq (.bool false) ?_;refine lo ?_
        refine lq (.bool false) ?_;refine aq (λW vals hW ag=> ?_);simp only[af,aw]at ag
        try simp only[ai]at ag
        simp only[af,fill,Act.put,bo,bn,bh]
        go_wp2_with fail
        go_ret;exact⟨by rw[HX.o];rfl,HK.o.ah (fK.o.ah hW)⟩
      | false=>
       refine av ax _ 26 rfl (by kernel_rfl) (by kernel_rfl) (λ_=>ae.refl _ _) (λ_ _ _ h k=>h.trans k (by simp)) ?_;simp only[dc,dg,dF,dK];refine lq (.pointer (some ⟨w.heap.size,7,none⟩)) ?_;refine ll 9 (.tmp 77) (⟨w.heap.size,7,none⟩) (.string ⟨c.toArray⟩) (λW hW=>((HP.o.keeps (fK.o.ah hW)).cell 7).trans (by kernel_rfl)) ?_;refine aT 127 (#[.string ⟨c.toArray⟩,.int .i64 23]) (.bool true) (λ_=>by kernel_rfl) (λ_ _=>by kernel_rfl) (λW hW=>CC.o W) ?_;refine lq (.bool true) ?_;refine lq (.pointer (some ⟨w.heap.size,8,none⟩)) ?_;refine ll 4 (.tmp 81) (⟨w.heap.size,8,none⟩) (.bool false) (λW hW=>((HP.o.keeps (fK.o.ah hW)).cell 8).trans (by kernel_rfl)) ?_;refine lq (.bool false) ?_;refine lq (.pointer (some ⟨w.heap.size,7,none⟩)) ?_;refine ll 9 (.tmp 84) (⟨w.heap.size,7,none⟩) (.string ⟨c.toArray⟩) (λW hW=>((HP.o.keeps (fK.o.ah hW)).cell 7).trans (by kernel_rfl)) ?_;refine aK (.bool false) (λ_=>by kernel_rfl) (λW _=>(show _=Result.ok (Next.value (.bool ((!((⟨c.toArray⟩:ByteArray).toList==(⟨#[]⟩:ByteArray).toList))))) W by kernel_rfl).trans (by rw[hce])) ?_
       iterate 3
        refine lq (.bool false) ?_
       iterate 3
        refine lo ?_
       iterate 3
        refine lq (.bool false) ?_;refine lq (.bool false) ?_;refine lo ?_
       refine lq (.bool false) ?_;refine aq (λW vals hW ag=> ?_);simp only[af,aw]at ag
       try simp only[ai]at ag
       simp only[af,fill,Act.put,bo,bn,bh]
       go_wp2_with fail
       go_ret;exact⟨by rw[HX.o];rfl,HK.o.ah (fK.o.ah hW)⟩
    | false=>
     refine av ax _ 26 rfl (by kernel_rfl) (by kernel_rfl) (λ_=>ae.refl _ _) (λ_ _ _ h k=>h.trans k (by simp)) ?_;simp only[dc,dg,dF,dK];refine lq (.pointer (some ⟨w.heap.size,7,none⟩)) ?_;refine ll 9 (.tmp 77) (⟨w.heap.size,7,none⟩) (.string ⟨c.toArray⟩) (λW hW=>((HP.o.keeps (fK.o.ah hW)).cell 7).trans (by kernel_rfl)) ?_;refine aT 127 (#[.string ⟨c.toArray⟩,.int .i64 23]) (.bool false) (λ_=>by kernel_rfl) (λ_ _=>by kernel_rfl) (λW hW=>CC.o W) ?_;refine lq (.bool false) ?_
     iterate 7
      refine lo ?_
     iterate 2
      refine lq (.bool false) ?_
     iterate 3
      refine lo ?_
     iterate 3
      refine lq (.bool false) ?_;refine lq (.bool false) ?_;refine lo ?_
     refine lq (.bool false) ?_;refine aq (λW vals hW ag=> ?_);simp only[af,aw]at ag
     try simp only[ai]at ag
     simp only[af,fill,Act.put,bo,bn,bh]
     go_wp2_with fail
     go_ret;exact⟨by rw[HX.o];rfl,HK.o.ah (fK.o.ah hW)⟩
end Go.Proofs.YtahbikfbjenfpaaGreatDoor
