/- Package match: a book that is not there. Law 14: MatchNil. -/
import Derived.Test.YtoadlafdeoklbaaGreatDoorPa46
import Derived.Test.YtoadlafdeoklbaaGreatDoorPa35
import Derived.Test.YtoadlafdeoklbaaGreatDoorPa32
import Derived.Test.YtoadlafdeoklbaaGreatDoorPa16

namespace Go.Proofs.YtoadlafdeoklbaaGreatDoor
open Go.RowKit Go.Maps Go.Shelf

/-- There is no book. -/
def NoBk (w:World)(nv:Value):Prop:=∀W,Keeps w W []→Calls Tryz.prog 33 #[nv] W fun e w' =>e= .returned (.bool true)∧w' =W
theorem NoBk.keeps {w w' :World}{nv:Value}(h:NoBk w nv)(hk:Keeps w w' []):NoBk w' nv:=fun W hW=>h W (hk.then_ hW)
theorem noBk_nil (w:World):NoBk w (.pointer none):=fun W _=>mtNone_nil W
theorem noBk_row {w:World}{d:Nat}{v:Value}(hr:Row w d 64 #[.pointer none,v]):NoBk w (ptr0 d):=fun W hk=>mtNone_at W d none v (hr.keeps hk)
section
variable {w:World} {nv:Value}
set_option maxRecDepth 100000 in
theorem set_none (h:NoBk w nv)(s:Sb):Calls Tryz.prog 12 #[nv,sbV s] w fun e w' =>e= .returned (.tuple #[.bool false,.int .i64 1])∧Keeps w w' []:=by
 have H:=zh h;clear h;obtain⟨F,hF⟩:∃S:ByteArray,(⟨s.f.toArray⟩:ByteArray)=S:=⟨_,rfl⟩;obtain⟨C,hC⟩:∃S:ByteArray,(⟨s.c.toArray⟩:ByteArray)=S:=⟨_,rfl⟩;unfold sbV;rw[hF,hC];clear hF hC
 go_enter Tryz.func12,Tryz.ntmps12
 go_wp2_with fail
 refine(H.out _ (Keeps.alloc _ _)).mono ?_;rintro e w2 ⟨rfl,rfl⟩
 go_wp2_with fail
 go_ret2
 exact⟨rfl,Keeps.alloc _ _⟩
set_option maxRecDepth 100000 in
theorem drop_none (h:NoBk w nv)(F C:ByteArray):Calls Tryz.prog 19 #[nv,.string F,.string C] w fun e w' =>e= .returned (.tuple #[.bool false,.int .i64 1])∧Keeps w w' []:=by
 have H:=zh h;clear h
 go_enter Tryz.func19,Tryz.ntmps19
 go_wp2_with fail
 refine(H.out _ (Keeps.refl _ _)).mono ?_;rintro e w2 ⟨rfl,rfl⟩
 go_wp2_with fail
 go_ret2
 exact⟨rfl,Keeps.refl _ _⟩
set_option maxRecDepth 100000 in
theorem leave_none (h:NoBk w nv)(C:ByteArray):Calls Tryz.prog 27 #[nv,.string C] w fun e w' =>e= .returned (.tuple #[.int .i64 0,.int .i64 1])∧Keeps w w' []:=by
 have H:=zh h;clear h
 go_enter Tryz.func27,Tryz.ntmps27
 go_wp2_with fail
 refine(H.out _ (Keeps.refl _ _)).mono ?_;rintro e w2 ⟨rfl,rfl⟩
 go_wp2_with fail
 go_ret2
 exact⟨rfl,Keeps.refl _ _⟩
set_option maxRecDepth 100000 in
theorem meets_none (h:NoBk w nv)(C:ByteArray):Calls Tryz.prog 13 #[nv,.string C] w fun e w' =>e= .returned (.tuple #[.slice none 0 0,.int .i64 1])∧Keeps w w' []:=by
 have H:=zh h;clear h
 go_enter Tryz.func13,Tryz.ntmps13
 go_wp2_with fail
 refine(H.out _ (Keeps.refl _ _)).mono ?_;rintro e w2 ⟨rfl,rfl⟩
 go_wp2_with fail
 go_ret2
 exact⟨rfl,Keeps.refl _ _⟩
set_option maxRecDepth 100000 in
theorem all_none (h:NoBk w nv):Calls Tryz.prog 52 #[nv] w fun e w' =>e= .returned (.slice none 0 0)∧Keeps w w' []:=by
 have H:=zh h;clear h
 go_enter Tryz.func52,Tryz.ntmps52
 go_wp2_with fail
 refine(H.out _ (Keeps.refl _ _)).mono ?_;rintro e w2 ⟨rfl,rfl⟩
 go_wp2_with fail
 go_ret;exact⟨rfl,Keeps.refl _ _⟩
set_option maxRecDepth 100000 in
theorem len_none (h:NoBk w nv):Calls Tryz.prog 29 #[nv] w fun e w' =>e= .returned (.int .i64 0)∧Keeps w w' []:=by
 have H:=zh h;clear h
 go_enter Tryz.func29,Tryz.ntmps29
 go_wp2_with fail
 refine(H.out _ (Keeps.refl _ _)).mono ?_;rintro e w2 ⟨rfl,rfl⟩
 go_wp2_with fail
 go_ret;exact⟨rfl,Keeps.refl _ _⟩
set_option maxRecDepth 100000 in
theorem nodes_none (h:NoBk w nv):Calls Tryz.prog 18 #[nv] w fun e w' =>e= .returned (.int .i64 0)∧Keeps w w' []:=by
 have H:=zh h;clear h
 go_enter Tryz.func18,Tryz.ntmps18
 go_wp2_with fail
 refine(H.out _ (Keeps.refl _ _)).mono ?_;rintro e w2 ⟨rfl,rfl⟩
 go_wp2_with fail
 go_ret;exact⟨rfl,Keeps.refl _ _⟩
set_option maxRecDepth 100000 in
theorem copy_none (h:NoBk w nv):Calls Tryz.prog 25 #[nv] w fun e w' =>e= .returned (.pointer none)∧Keeps w w' []:=by
 have H:=zh h;clear h
 go_enter Tryz.func25,Tryz.ntmps25
 go_wp2_with fail
 refine(H.out _ (Keeps.refl _ _)).mono ?_;rintro e w2 ⟨rfl,rfl⟩
 go_wp2_with fail
 go_ret;exact⟨rfl,Keeps.refl _ _⟩
set_option maxRecDepth 100000 in
theorem same_none {nv2:Value}(h:NoBk w nv)(h2:NoBk w nv2):Calls Tryz.prog 17 #[nv,nv2] w fun e w' =>e= .returned (.bool true)∧Keeps w w' []:=by
 have H:=zh h;have H2:=zh h2;clear h h2
 go_enter Tryz.func17,Tryz.ntmps17
 go_wp2_with fail
 refine(H.out _ (Keeps.refl _ _)).mono ?_;rintro e w2 ⟨rfl,rfl⟩
 go_wp2_with fail
 refine(H.out _ (Keeps.refl _ _)).mono ?_;rintro e w3 ⟨rfl,rfl⟩
 go_wp2_with fail
 refine(H2.out _ (Keeps.refl _ _)).mono ?_;rintro e w4 ⟨rfl,rfl⟩
 go_wp2_with fail
 go_ret;exact⟨rfl,Keeps.refl _ _⟩
set_option maxRecDepth 100000 in
theorem of_none (h:NoBk w nv)(C:ByteArray):Calls Tryz.prog 23 #[nv,.string C] w fun e w' =>e= .returned (.slice none 0 0)∧Keeps w w' []:=by
 have H:=zh h;clear h;have HD:=zh (show∀(W:World) (bx:Nat),Calls Tryz.prog 59 #[.slice none 0 0,ofFn bx] W fun e w' =>e= .returned (.slice none 0 0)∧Keeps W w' []from fun W bx=>by
  have HI:=zh (mtIdx_any W bx none 0 [] (fun _=>true) (ListAt.nil _ _ _ _ _) (by simp) (fun _ _ x hx=>by cases hx))
  go_enter Tryz.func59,Tryz.ntmps59
  go_wp2_with fail
  refine HI.out.mono ?_;rintro e w1 ⟨rfl,hk⟩;have HK:=zh hk;rw[show fIdx (fun _:Sb=>true) []= -1 from rfl];clear hk HI
  go_wp2_with fail
  go_ret;exact⟨rfl,HK.out⟩)
 go_enter Tryz.func23,Tryz.ntmps23
 go_wp2_with fail
 refine(all_none (H.out.keeps (Keeps.alloc _ _))).mono ?_;rintro e w2 ⟨rfl,hk⟩;have HK:=zh ((Keeps.alloc w _).then_ hk);clear hk
 go_wp2_with fail
 refine(HD.out _ _).mono ?_;rintro e w3 ⟨rfl,hk⟩;have HK3:=zh (HK.out.then_ hk);clear hk
 go_wp2_with fail
 go_ret;exact⟨rfl,HK3.out⟩
theorem list_none (h:NoBk w nv):Calls Tryz.prog 28 #[nv] w fun e w' =>∃v,e= .returned v∧OwnN w' w.heap.size 25 3 sbC v []∧Keeps w w' []:=
 callsIn_wide.1 (mtList_in 3 (by omega) w nv [] (by simp) fun W hk=>mtAllF_any W nv [] ((all_none (h.keeps hk)).mono fun e w' ⟨h1,h2⟩=>⟨_,h1,OwnN.nil _ _ _ _ _,h2⟩))
end

theorem lch {P:Program}{w0:World}{ops:Array Oper}{a0:Act}{Q:List Ent→Prop}{o:Oper}{rest:List Oper}{env:List Ent}(f:FuncId)(args:Array Value)(φ:Value→World→Prop)(hc:∀W,KeepsAll w0 W→Calls P f args W fun e w' =>∃v,e= .returned v∧Keeps W w' []∧φ v w')(hk:wpLoose P KeepsAll w0 ops a0 Q rest (addEnt o.dst none [] (fun _=>φ) env))
  (hw:∀vals:Tmp→Value,Region.wanted o (yielded ops (fill vals env a0).tmps)=true:=by intro _;kernel_rfl) (he:∀(W:World) (vals:Tmp→Value),(execOp (fill vals env a0).eval o).run P W= .ok (.enter f args) W:=by intro _ _;kernel_rfl):wpLoose P KeepsAll w0 ops a0 Q (o::rest) env:=
 loose_has φ (fun W vals hW _ _ hφ=>⟨by rw[if_pos (hw vals),he];exact looseUpon_has hφ (hc W hW)⟩) hk
set_option maxRecDepth 100000 in
set_option maxHeartbeats 4000000 in
theorem matchNil_any (w0:World)(s:Sb)(hm:MaxL w0):Calls Tryz.prog 7 #[sbV s] w0 (TruePost w0 true):=by
 obtain⟨F,hF⟩:∃S:ByteArray,(⟨s.f.toArray⟩:ByteArray)=S:=⟨_,rfl⟩;obtain⟨C,hC⟩:∃S:ByteArray,(⟨s.c.toArray⟩:ByteArray)=S:=⟨_,rfl⟩;obtain⟨q,hq⟩:∃q,s.q=q:=⟨_,rfl⟩;have HFC:=zh (And.intro hF (And.intro hC hq));obtain⟨w,hw⟩:∃w,w0.alloc (.cells #[.string F,.string C,.int .i64 q] 25)=w:=⟨_,rfl⟩;have hk0:Keeps w0 w []:=by rw[←hw];exact Keeps.alloc _ _
 have HR0:=zh (show Row w w0.heap.size 25 #[.string F,.string C,.int .i64 q]by rw[←hw];exact Row.new _ _ _);have HK0:=zh hk0;have HKN:=zh (fun(w' :World) (hk:Keeps w w' [])=>(known14_any w' (hm.keeps (hk0.then_ hk))));unfold sbV;rw[hF,hC,hq];clear hm hF hC hq hk0
 go_enter Tryz.func7,Tryz.ntmps7
 go_upto_region 1 with fail
 obtain⟨bx,hbx⟩:∃b,w0.heap.size=b:=⟨_,rfl⟩
 try rw[hw]
 rw[hbx]at HR0;simp only[hbx];clear hw hbx;have r0:=HR0.out.cell 0;have r1:=HR0.out.cell 1;have r2:=HR0.out.cell 2;simp only[zga,zgz,zgs]at r0 r1 r2;obtain⟨w1,hw1⟩:∃w1,w.alloc (.cells #[.int .i64 1,.string F,.string C,.int .i64 q] 27)=w1:=⟨_,rfl⟩;have HK1:=zh (show Keeps w w1 []by rw[←hw1];exact Keeps.alloc _ _);have HFW:=zh (few14_any w1 (some ⟨w.heap.size,0,none⟩) 1 [(1,s)] 1 (listAt_row encAc (show Row w1 w.heap.size 27 ([((1:Int),s)].flatMap acC).toArray from by
  rw[←hw1,show([((1:Int),s)].flatMap acC).toArray= #[.int .i64 1,.string F,.string C,.int .i64 q]by rw[←HFC.out.1,←HFC.out.2.1,←HFC.out.2.2];rfl];exact Row.new _ _ _)).g (by simp))
 have HR1:=zh (HR0.out.keeps HK1.out)
 cases hfb:fewB [(1,s)] 1 with
 | false=>
  rw[hfb]at HFW;clear hfb
  go_wp2_with fail
  refine HFW.out.mono ?_;rintro e w2 ⟨rfl,rfl⟩;clear HFW hw1
  go_wp2_with fail
  refine(HKN.out _ HK1.out).mono ?_;rintro e w9 ⟨rfl,hk⟩;have HK9:=zh (HK1.out.then_ hk);clear hk
  go_wp2_with fail
  go_ret;exact⟨rfl,HK0.out.then_ HK9.out⟩
 | true=>
  rw[hfb]at HFW;clear hfb
  go_wp2_with fail
  refine HFW.out.mono ?_;rintro e w2 ⟨rfl,rfl⟩;clear HFW hw1 r0 r1 r2
  go_upto_region 5 with fail
  obtain⟨w3,hw3⟩:∃w3,w2.alloc (.cells #[.pointer none,.int .i64 0] 64)=w3:=⟨_,rfl⟩;have HZ:=zh (show Row w3 w2.heap.size 64 #[.pointer none,.int .i64 0]by rw[←hw3];exact Row.new _ _ _);have HK3:=zh (show Keeps w w3 []by rw[←hw3];exact HK1.out.then_ (Keeps.alloc _ _));have HR3:=zh (HR0.out.keeps HK3.out);obtain⟨z,hz⟩:∃b,w2.heap.size=b:=⟨_,rfl⟩
  try rw[hw3]
  rw[hz]at HZ;simp only[hz];clear hw3 hz;have HNZ:=zh (noBk_row HZ.out);have HS:=zh (show Calls Tryz.prog 12 #[.pointer none,.agg #[.string F,.string C,.int .i64 q]] w3 _ from by
   have h:=set_none (noBk_nil w3) s;unfold sbV at h;rw[HFC.out.1,HFC.out.2.1,HFC.out.2.2]at h;exact h)
  have r0:=HR3.out.cell 0;have r1:=HR3.out.cell 1;have r2:=HR3.out.cell 2;simp only[zga,zgz,zgs]at r0 r1 r2
  go_wp2_with fail
  refine HS.out.mono ?_;rintro e w4 ⟨rfl,hk⟩;have HK4:=zh hk;have HR4:=zh (HR3.out.keeps hk);clear hk HS r0 r1 r2;have r0:=HR4.out.cell 0;have r1:=HR4.out.cell 1;have r2:=HR4.out.cell 2;simp only[zga,zgz,zgs]at r0 r1 r2
  go_wp2_with fail
  refine(drop_none (HNZ.out.keeps HK4.out) F C).mono ?_;rintro e w5 ⟨rfl,hk⟩;have HK5:=zh (HK4.out.then_ hk);have HR5:=zh (HR4.out.keeps hk);clear hk r0 r1 r2;have r0:=HR5.out.cell 0;have r1:=HR5.out.cell 1;have r2:=HR5.out.cell 2;simp only[zga,zgz,zgs]at r0 r1 r2
  go_wp2_with fail
  refine(leave_none (noBk_nil w5) C).mono ?_;rintro e w6 ⟨rfl,hk⟩;have HK6:=zh (HK5.out.then_ hk);have HR6:=zh (HR5.out.keeps hk);clear hk r0 r1 r2;have r0:=HR6.out.cell 0;have r1:=HR6.out.cell 1;have r2:=HR6.out.cell 2;simp only[zga,zgz,zgs]at r0 r1 r2
  go_wp2_with fail
  refine(meets_none (HNZ.out.keeps HK6.out) F).mono ?_;rintro e w7 ⟨rfl,hk⟩;have HK7:=zh (HK6.out.then_ hk);have HR7:=zh (HR6.out.keeps hk);have HKW7:=zh (HK3.out.then_ HK7.out);clear hk r0 r1 r2;have M1:=fun(W' :World) (hW:Keeps w7 W' [])=>(HR7.out.keeps hW).cell 1
  simp only[zga,zgz,zgs]at M1
  go_upto_region 9 with fail
  refine wp_region_keeps _ (by kernel_rfl) rfl (by kernel_rfl) ?_
  iterate 2
   refine lq (.int .i64 1) ?_;refine lq (.bool true) ?_;refine lq (.bool true) ?_
  iterate 2
   refine lq (.bool true) ?_;refine lq (.int .i64 1) ?_;refine lq (.bool true) ?_;refine lq (.bool true) ?_
  refine lq (.bool true) ?_;refine lq (.pointer none) ?_;refine lch 28 #[.pointer none] (fun v _=>∃A c,v= .slice A 0 c) (fun W hW=>(list_none (noBk_nil W)).mono fun e w' ⟨v,h1,h2,h3⟩=>by
   obtain⟨A,c,rfl⟩:=OwnN.slice h2;exact⟨_,h1,h3,A,c,rfl⟩) ?_
  simp only[addEnt];refine loose_is (.int .i64 0) (fun W vals hW hkn=> ?_) ?_
  ·simp only[knows]at hkn
   try simp only[and_true]at hkn
   obtain⟨W1,q0,q1,A,c,hv⟩:=hkn (by decide);refine⟨?_⟩;simp only[fill];go_simp
   try rw[hv]
   exact⟨Keeps.refl _ _,rfl⟩
  simp only[addEnt];refine lq (ptr0 z) ?_;refine lq (.pointer (some ⟨bx,1,none⟩)) ?_;refine ll 9 (.tmp 69) (⟨bx,1,none⟩) (.string C) (fun W hW=>M1 W hW) ?_;refine loose_qc 23 (#[ptr0 z,.string C]) (.slice none 0 0) (fun _=>by kernel_rfl) (fun _ _=>by kernel_rfl) (fun W hW=>of_none (HNZ.out.keeps (HK7.out.then_ hW)) C) ?_
  iterate 2
   refine lq (.int .i64 0) ?_
  iterate 3
   refine lq (.bool true) ?_
  refine lq (.pointer none) ?_;refine loose_qc 29 (#[.pointer none]) (.int .i64 0) (fun _=>by kernel_rfl) (fun _ _=>by kernel_rfl) (fun W hW=>len_none (noBk_nil W)) ?_;refine lq (ptr0 z) ?_;refine loose_qc 18 (#[ptr0 z]) (.int .i64 0) (fun _=>by kernel_rfl) (fun _ _=>by kernel_rfl) (fun W hW=>nodes_none (HNZ.out.keeps (HK7.out.then_ hW))) ?_;refine lq (.int .i64 0) ?_
  iterate 3
   refine lq (.bool true) ?_
  refine lq (ptr0 z) ?_;refine loose_qc 25 (#[ptr0 z]) (.pointer none) (fun _=>by kernel_rfl) (fun _ _=>by kernel_rfl) (fun W hW=>copy_none (HNZ.out.keeps (HK7.out.then_ hW))) ?_
  iterate 3
   refine lq (.bool true) ?_
  refine lq (.pointer none) ?_;refine lq (ptr0 z) ?_;refine loose_qc 17 (#[.pointer none,ptr0 z]) (.bool true) (fun _=>by kernel_rfl) (fun _ _=>by kernel_rfl) (fun W hW=>same_none (noBk_nil W) (HNZ.out.keeps (HK7.out.then_ hW))) ?_
  iterate 2
   refine lq (.bool true) ?_
  refine loose_qc 10 (#[]) (.bool true) (fun _=>by kernel_rfl) (fun _ _=>by kernel_rfl) (fun W hW=>HKN.out W (HKW7.out.then_ hW)) ?_
  iterate 2
   refine lq (.bool true) ?_
  refine loose_nil (fun W vals hW hkn=> ?_);simp only[addEnt,knowsAll]at hkn
  try simp only[and_true]at hkn
  simp only[addEnt,fill,Act.put,zsa,zsc,zsz];have HK9:=zh (show Keeps w W []from HKW7.out.then_ hW);clear hkn hW M1
  go_wp2_with fail
  go_ret;exact⟨rfl,HK0.out.then_ HK9.out⟩
end Go.Proofs.YtoadlafdeoklbaaGreatDoor
