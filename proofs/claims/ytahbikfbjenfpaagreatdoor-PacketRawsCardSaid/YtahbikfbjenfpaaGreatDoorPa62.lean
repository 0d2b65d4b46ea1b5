/- The law PacketRaws. -/
import Derived.Test.YtahbikfbjenfpaaGreatDoorPa41
import Derived.Test.YtahbikfbjenfpaaGreatDoorPa60

namespace Go.Proofs.YtahbikfbjenfpaaGreatDoor
open Go.RowKit Go.Shelf

/-- What the statement asks. -/
structure RawsIn (w:World)(p:Pk)(X:Array Value):Prop where
 a:PkA w p X
 m:MaxL w
 kn:∀W,Keeps w W []→Calls Tryz.prog 10 #[] W (TruePost W true)
 ch:∀W,Keeps w W []→PkFewP p→Calls Tryz.prog 13 #[.agg X] W fun e W' =>e= .returned (.int .i64 (chkV p))∧Keeps W W' []
 rt:∀W,Keeps w W []→PkFewP p→Calls Tryz.prog 12 #[.agg X] W (TruePost W (pkOk p))
 rr:∀W,Keeps w W []→pkOk p=true→Calls Tryz.prog 15 #[.agg X] W fun e w' =>∃v,e= .returned v∧Owned w' W.heap.size v (pkRaw p)∧Keeps W w' []
 s1:∀W R sw sc sf,Keeps w W []→PkFewP p→PkCells R p sw sc sf→PkL W p sw sc sf→Calls Tryz.prog 16 #[.agg R,.agg X] W (TruePost W true)
 s2:∀W R sw sc sf,Keeps w W []→PkFewP p→PkCells R p sw sc sf→PkL W p sw sc sf→Calls Tryz.prog 17 #[.agg R,.agg X] W (TruePost W true)
theorem exec_conv {P:Program}{e:Operand→Value}{o:Oper}{W:World}{t u:TypeId}{x:Operand}{v s:Value}(ho:o.op= .convert t u x)(hx:e x=v)(h:(convert t u v).run P W= .ok s W):(execOp e o).run P W= .ok (.value s) W:=by
 unfold execOp;simp only[ho,hx,Sem.run_bind,h,Result.andThen_ok,Sem.run_pure]
section
variable {P:Program} {w0:World} {ops:Array Oper} {a0:Act} {Q:List Ent→Prop} {o:Oper} {rest:List Oper} {env:List Ent}
/-- A call of whose answer something is known, its part of the kernel filled in. -/
theorem lch (f:FuncId)(args:Array Value)(φ:Value→World→Prop)(hc:∀W,KeepsAll w0 W→Calls P f args W fun e w' =>∃v,e= .returned v∧Keeps W w' []∧φ v w')(hk:wpLoose P KeepsAll w0 ops a0 Q rest (addEnt o.dst none [] (fun _=>φ) env))
  (hw:∀vals:Tmp→Value,Region.wanted o (yielded ops (fill vals env a0).tmps)=true:=by intro _;kernel_rfl) (he:∀(W:World) (vals:Tmp→Value),(execOp (fill vals env a0).eval o).run P W= .ok (.enter f args) W:=by intro _ _;kernel_rfl):wpLoose P KeepsAll w0 ops a0 Q (o::rest) env:=
 loose_has φ (fun W vals hW _ _ hφ=>⟨by rw[if_pos (hw vals),he];exact looseUpon_has hφ (hc W hW)⟩) hk
end
/-- What is known of the box. -/
structure OneSt (w W:World)(a:Nat)(X:Array Value):Prop where
 k:Keeps w W []
 r1:Row W a 29 X
theorem OneSt.go {w W W' :World}{a:Nat}{X:Array Value}(h:OneSt w W a X)(hk:Keeps W W' []):OneSt w W' a X:=⟨h.k.then_ hk,h.r1.keeps hk⟩
set_option maxRecDepth 100000 in
set_option maxHeartbeats 8000000 in
theorem raws_walk (p:Pk)(X:Array Value)(w:World)(h:RawsIn w p X):Calls Tryz.prog 3 #[.agg X] w (TruePost w true):=by
 have HI:=zh h;have H1:=zh h.a;have HKN:=zh h.kn;clear h
 go_enter Tryz.func3,Tryz.ntmps3
 go_upto_region 1 with fail
 have HS:=zh (show OneSt w (w.alloc (.cells X 29)) w.heap.size X from⟨Keeps.alloc _ _,Row.new _ _ _⟩)
 generalize w.alloc (.cells X 29)=W0 at HS ⊢
 go_wp2_with (refine wpList_loadX (by kernel_rfl) rfl rfl HS.out.r1 Tryz.underlying29 rfl H1.out.sz ?_)
 refine(H1.out.few _ HS.out.k).mono ?_;rintro e w1 ⟨hk,⟨hf1,rfl⟩ | ⟨hf1,rfl⟩⟩
 case inr=>
  replace HS:=zh (HS.out.go hk);clear hk hf1
  go_wp2_with fail
  refine(HKN.out _ HS.out.k).mono ?_;rintro e w9 ⟨rfl,hk⟩;replace HS:=zh (HS.out.go hk);clear hk
  go_wp2_with fail
  go_ret;exact⟨rfl,HS.out.k⟩
 have HF1:=zh hf1;replace HS:=zh (HS.out.go hk);clear hk hf1
 go_wp2_with (refine wpList_loadX (by kernel_rfl) rfl rfl HS.out.r1 Tryz.underlying29 rfl H1.out.sz ?_)
 refine(H1.out.raw _ HS.out.k HF1.out).mono ?_;intro e w3 hp;unfold RawPost at hp
 cases ho:pkOk p with
 | false=>
  rw[ho,if_neg (by simp)]at hp;obtain⟨rfl,hk⟩:=hp;replace HS:=zh (HS.out.go hk);clear hk;have HRT:=zh (show∀W,Keeps w W []→Calls Tryz.prog 12 #[.agg X] W (TruePost W false)from fun W hW=>ho▸HI.out.rt W hW HF1.out);have HCH:=zh (show∀W,Keeps w W []→Calls Tryz.prog 13 #[.agg X] W fun e W' =>e= .returned (.int .i64 2)∧Keeps W W' []from fun W hW=>by have h:=HI.out.ch W hW HF1.out;rw[chkV_no ho]at h;exact h);clear ho
  go_wp2_with (refine wpList_loadX (by kernel_rfl) rfl rfl HS.out.r1 Tryz.underlying29 rfl H1.out.sz ?_)
  refine(HRT.out _ HS.out.k).mono ?_;rintro e w4 ⟨rfl,hk⟩;replace HS:=zh (HS.out.go hk);clear hk
  go_wp2_with (refine wpList_loadX (by kernel_rfl) rfl rfl HS.out.r1 Tryz.underlying29 rfl H1.out.sz ?_)
  refine(HCH.out _ HS.out.k).mono ?_;rintro e w5 ⟨rfl,hk⟩;replace HS:=zh (HS.out.go hk);clear hk
  go_wp2_with fail
  refine(HKN.out _ HS.out.k).mono ?_;rintro e w9 ⟨rfl,hk⟩;replace HS:=zh (HS.out.go hk);clear hk
  go_wp2_with fail
  go_ret;exact⟨rfl,HS.out.k⟩
 | true=>
  rw[ho,if_pos rfl]at hp;obtain⟨v,rfl,hv,hk⟩:=hp;obtain⟨A1,c1,rfl,_,_⟩:=own_slice hv;replace HS:=zh (HS.out.go hk);have HV:=zh (own_base hv (Nat.zero_le _));clear hk hv;have HRT:=zh (show∀W,Keeps w W []→Calls Tryz.prog 12 #[.agg X] W (TruePost W true)from fun W hW=>ho▸HI.out.rt W hW HF1.out);have HCH:=zh (show∀W,Keeps w W []→Calls Tryz.prog 13 #[.agg X] W fun e W' =>e= .returned (.int .i64 0)∧Keeps W W' []from fun W hW=>by have h:=HI.out.ch W hW HF1.out;rw[chkV_yes ho]at h;exact h);have HRR:=zh (fun W hW=>HI.out.rr W hW ho);have HLE:=zh (pkRaw_le ho);have HPB:=zh (fun(W:World) (hW:Keeps w W []) (hv:Owned W 0 (.slice A1 (pkRaw p).length c1) (pkRaw p))=>parse_back W 0 (.slice A1 (pkRaw p).length c1) p (HI.out.m.keeps hW) ho hv);clear ho;obtain⟨B,hB⟩:∃B,pkRaw p=B:=⟨_,rfl⟩;rw[hB]at HV HRR HPB HLE ⊢
  clear hB
  go_wp2_with (refine wpList_loadX (by kernel_rfl) rfl rfl HS.out.r1 Tryz.underlying29 rfl H1.out.sz ?_)
  refine(HRT.out _ HS.out.k).mono ?_;rintro e w4 ⟨rfl,hk⟩;replace HS:=zh (HS.out.go hk);replace HV:=zh (own_keep HV.out hk (by simp));clear hk
  go_wp2_with (refine wpList_loadX (by kernel_rfl) rfl rfl HS.out.r1 Tryz.underlying29 rfl H1.out.sz ?_)
  refine(HPB.out _ HS.out.k HV.out).mono ?_;rintro e w5 ⟨hk,R,sw,sc,sf,rfl,hR,hT⟩;replace HS:=zh (HS.out.go hk);replace HV:=zh (own_keep HV.out hk (by simp));have HR:=zh hR;have HT:=zh hT;clear hk hR hT
  go_wp2_with (refine wpList_store_new rfl (.tmp 5) (.tmp 37) rfl R zP0 w5 rfl HR.out.sz HR.out.z HR.out.one rfl rfl ?_;intro w6 hw6)
  refine zh ?_;have k6:Keeps w5 w6 []:=by rw[←hw6];exact Keeps.alloc _ _
  have r6:Row w6 w5.heap.size 29 R:=by rw[←hw6];exact Row.new _ _ _
  replace HS:=zh (HS.out.go k6);replace HV:=zh (own_keep HV.out k6 (by simp));have HTA:=zh (HT.out.g.keeps k6);have HRA:=zh r6;obtain⟨g,hg⟩:∃g,w5.heap.size=g:=⟨_,rfl⟩;rw[hg]at HRA ⊢
  clear k6 r6 hw6 HT hg
  go_upto_region 7 with fail
  refine wp_region_keeps _ (by kernel_rfl) rfl (by kernel_rfl) ?_;refine lx (fun W hW=>HS.out.r1.keeps hW) Tryz.underlying29 HI.out.a.sz ?_;refine lc 13 #[.agg X] (.int .i64 0) (fun W hW=>HCH.out W (HS.out.k.then_ hW)) ?_
  iterate 2
   refine lq (.bool true) ?_
  refine lq (.int .i64 0) ?_
  iterate 3
   refine lq (.bool true) ?_
  refine lq (.slice A1 B.length c1) ?_;refine loose_is (.string ⟨B.toArray⟩) (fun W vals hW _=>⟨?_⟩) ?_
  ·rw[if_pos (by kernel_rfl)]
   rw[exec_conv (t:=32) (u:=9) (x:= .tmp 47) (v:= .slice A1 B.length c1) (s:= .string ⟨B.toArray⟩) rfl (by kernel_rfl) (conv_str W _ A1 c1 B (Lies.of_own (own_keep HV.out hW (by simp))))];exact⟨Keeps.refl _ _,rfl⟩
  simp only[addEnt];refine lx (fun W hW=>HS.out.r1.keeps hW) Tryz.underlying29 HI.out.a.sz ?_;refine lch 15 #[.agg X] (fun v W' =>Owned W' 0 v B) (fun W hW=> ?_) ?_
  ·refine(HRR.out W (HS.out.k.then_ hW)).mono ?_
   rintro e w2 ⟨v,rfl,ho,hk⟩;exact⟨v,rfl,hk,own_base ho (Nat.zero_le _)⟩
  simp only[addEnt];refine loose_is (.string ⟨B.toArray⟩) (fun W vals hW hkn=> ?_) ?_
  ·simp only[knows]at hkn
   try simp only[and_true]at hkn
   obtain⟨W1,h0,h1,ho⟩:=hkn (by decide);obtain⟨A,c,hv,_,_⟩:=own_slice ho;rw[hv]at ho;have hcs:=conv_str W _ A c B (Lies.of_own (own_keep ho h1 (by simp)));refine⟨?_⟩;rw[if_pos (by kernel_rfl)];rw[exec_conv (t:=32) (u:=9) (x:= .tmp 50) (v:= .slice A B.length c) (s:= .string ⟨B.toArray⟩) rfl ((show _=vals 50 by kernel_rfl).trans hv) hcs];exact⟨Keeps.refl _ _,rfl⟩
  simp only[addEnt];refine loose_q (.bool true) (fun _=>by kernel_rfl) (fun W vals=>(show _=Result.ok (Next.value (.bool ((⟨B.toArray⟩:ByteArray).toList==(⟨B.toArray⟩:ByteArray).toList))) W by kernel_rfl).trans (by rw[beq_self_eq_true])) ?_;simp only[addEnt]
  iterate 2
   refine lq (.bool true) ?_
  refine lq (.int .i64 0) ?_
  iterate 3
   refine lq (.bool true) ?_
  refine lx (fun W hW=>HRA.out.keeps hW) Tryz.underlying29 HR.out.sz ?_;refine lx (fun W hW=>HS.out.r1.keeps hW) Tryz.underlying29 HI.out.a.sz ?_;refine lc 16 #[.agg R,.agg X] (.bool true) (fun W hW=>HI.out.s1 W R sw sc sf (HS.out.k.then_ hW) HF1.out HR.out (HTA.out.keeps hW)) ?_
  iterate 2
   refine lq (.bool true) ?_
  refine lx (fun W hW=>HRA.out.keeps hW) Tryz.underlying29 HR.out.sz ?_;refine lx (fun W hW=>HS.out.r1.keeps hW) Tryz.underlying29 HI.out.a.sz ?_;refine lc 17 #[.agg R,.agg X] (.bool true) (fun W hW=>HI.out.s2 W R sw sc sf (HS.out.k.then_ hW) HF1.out HR.out (HTA.out.keeps hW)) ?_
  iterate 2
   refine lq (.bool true) ?_
  refine lc 10 #[] (.bool true) (fun W hW=>HI.out.kn W (HS.out.k.then_ hW)) ?_
  iterate 2
   refine lq (.bool true) ?_
  refine loose_nil (fun W vals hW hkn=> ?_);simp only[addEnt,knowsAll]at hkn
  try simp only[and_true]at hkn
  simp only[addEnt,fill,Act.put,zsa,zsc,zsz];clear hkn;replace HS:=zh (HS.out.go hW);clear hW
  go_wp2_with fail
  go_ret;exact⟨rfl,HS.out.k⟩
theorem few_ts {p:Pk}(h:PkFewP p):PkTs p:=⟨by have:=h.sm.t;omega,by have:=h.sm.c;omega,by have:=h.sm.wt;omega,by have:=h.sm.u;omega,fun x hx=>by have:=h.sm.wants.2 x hx;omega,fun x hx=>by have:=h.sm.fs.2 x hx;omega⟩
theorem packetRaws_any (p:Pk)(sw sc sf:Value)(w:World)(hm:MaxL w)(h1:PkL w p sw sc sf)(hk: -9223372036854775808≤p.k∧p.k≤9223372036854775807)(hb:p.t.length+p.c.length+p.u.length≤9223372036854775807):
  Calls Tryz.prog 3 #[pkV p sw sc sf] w (TruePost w true):=
 raws_walk p _ w ⟨PkA.of hm h1 hk.1 hk.2 hb rfl,hm,fun W hW=>known16_any W (hm.keeps hW),fun W hW hf=>pkCheck_any p sw sc sf W (h1.keeps hW) hf.sm (hm.keeps hW) hk.1 hk.2,
  fun W hW hf=>refRight_any p sw sc sf W (h1.keeps hW) (few_ts hf) ⟨by have:=hf.lw;omega,by have:=hf.lc;omega,by have:=hf.lf;omega⟩,
  fun W hW ho=>refRaw_any p _ sw sc sf W (by constructor <;> rfl) (h1.keeps hW) ho (by kernel_rfl),
  fun W R sw' sc' sf' hW hf hR hl=>by have h:=refSame_any p p sw' sc' sf' sw sc sf W hl (h1.keeps hW) ⟨by have:=hf.lw;omega,by have:=hf.lc;omega,by have:=hf.lf;omega⟩;rw[decide_eq_true rfl]at h;rw[hR.v];exact h,
  fun W R sw' sc' sf' hW hf hR hl=>by have h:=pkSame_any p p sw' sc' sf' sw sc sf W hl (h1.keeps hW) ⟨by have:=hf.lw;omega,by have:=hf.lc;omega,by have:=hf.lf;omega⟩;rw[decide_eq_true rfl]at h;rw[hR.v];exact h⟩
end Go.Proofs.YtahbikfbjenfpaaGreatDoor
