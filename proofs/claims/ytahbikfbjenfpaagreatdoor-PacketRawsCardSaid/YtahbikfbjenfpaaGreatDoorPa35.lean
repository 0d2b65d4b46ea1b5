/- Package packet: Raw. Package packet: the closure that Parse lays aside. Package packet: how Parse ends. -/
import Derived.Test.YtahbikfbjenfpaaGreatDoorPa34

namespace Go.Proofs.YtahbikfbjenfpaaGreatDoor
open Go.RowKit Go.Maps

/-- append of a text's bytes, at an operation of a region that draws its order. -/
theorem opOk_append_str {R:World→World→Prop}{ops:Array Oper}{o:Oper}{a:Act}{w:World}{φ' :Value→World→Prop}(hgd:o.guard=none)(sl x:Operand)
  (ho:o.op= .call {callee:= .builtin .append,args:= #[sl,x],argTypes:= #[32,9]})
  (base:Nat) (v:Value) (l s:List UInt8) (hs:a.eval sl=v) (hown:Owned w base v l) (hx:a.eval x=strV s) (hlen:l.length+s.length≤140737488351232) (hbase:base≤w.heap.size)
  (h:∀v' w',Owned w' base v' (l++s)→Keeps w w' v.ownBlock.toList→R w w' ∧φ' v' w'):opOk Tryz.prog R ops a o φ' w:=by
 obtain⟨i0,hi,hz0,hz1,hz2⟩:=info_parts infoByte;refine⟨?_⟩;have hw:Region.wanted o (yielded ops a.tmps)=true:=by simp[Region.wanted,hgd]
 rw[if_pos hw];obtain⟨v',w',hrun,h2,h3,_⟩:=Lib.run_append_own_string (P:=Tryz.prog) w base 32 9 o.type 5 i0 undBytes undString hi hz0 hz1 hz2 v l.length (l.map byteV) hown ⟨s.toArray⟩ (by rw[size_str];simp[maxLen];omega) (by rw[size_str];omega) hbase;unfold execOp;simp only[ho,resolve,invoke,builtin,Sem.run_bind,Sem.run_pure,Result.andThen_ok,List.map_toArray,List.map_cons,List.map_nil,hs,hx,strV,hrun];refine h v' w' ?_ (Keeps.of_grown h3);unfold Owned;rw[size_str,strCells_str]at h2;rw[List.length_append,List.map_append];exact h2
section
variable {P:Program} {Q:Exit→Act→World→Prop} {ops:Array Oper} {o:Oper} {rest:List Oper} {a:Act} {w:World}
theorem wpList_val (v:Value)(hg:o.guard=none)(h:(execOp a.eval o).run P w= .ok (.value v) w)(hk:wpList P ops Q rest (a.put o.dst v) w):wpList P ops Q (o::rest) a w:=
 wpList_plain hg fun K hK=>by unfold Oper.wp;rw[h];exact hK _ _ hk
theorem wpList_loadc (t:TypeId)(x:Operand)(ad:Addr)(v:Value)(hg:o.guard=none)(ho:o.op= .load t x)(hx:a.eval x= .pointer (some ad))(ht:∀W,(isAgg t).run P W= .ok false W)(hc:w.cell? ad=some v)
  (hk:wpList P ops Q rest (a.put o.dst v) w):wpList P ops Q (o::rest) a w:=
 wpList_val v hg (by
  unfold execOp;simp only[ho,hx,Sem.run_bind,run_load_one ht hc,Result.andThen_ok,Sem.run_pure]) hk
end
theorem raw_or:∀kn < 15,∀F < 16,bits .or .u8 ((16*kn:Nat):Int) (F:Nat)=((16*kn+F:Nat):Int):=by decide
theorem keepIf_ok (w0:World):RelOk (fun W W' =>Keeps w0 W []→Keeps w0 W' []):=⟨fun h k=>k.then_ h,fun h k x=>k (h x)⟩
theorem keeps_ok:RelOk (fun W W' =>Keeps W W' []):=⟨fun h=>h,fun h k=>h.then_ k⟩
theorem raw_one (w:World)(x:UInt8):Owned (w.alloc (.cells #[.int .u8 (x.toNat:Nat)] 5)) w.heap.size (.slice (some ⟨w.heap.size,0,none⟩) 1 1) [x]:=
 ⟨rfl,.inr ⟨w.heap.size,1, #[.int .u8 (x.toNat:Nat)],rfl,Nat.le_refl _,Row.new _ _ _,Nat.le_refl _,by simp[maxLen],rfl,by simp[byteV]⟩⟩
def RawPost (w:World)(p:Pk)(e:Ending)(w' :World):Prop:=
 if pkOk p=true then∃v,e= .returned (.tuple #[v,.int .i64 0])∧Owned w' w.heap.size v (pkRaw p)∧Keeps w w' []else e= .returned (.tuple #[.slice none 0 0,.int .i64 2])∧Keeps w w' []
set_option maxRecDepth 100000 in
set_option maxHeartbeats 4000000 in
theorem pkRaw_any (p:Pk)(sw sc sf:Value)(w:World)(hl:PkL w p sw sc sf)(hs:PkSm p)(hm:MaxL w)(hk1: -9223372036854775808≤p.k)(hk2:p.k≤9223372036854775807):
  Calls Tryz.prog 11 #[pkV p sw sc sf] w (RawPost w p):=by
 have HCH:=zh (show∀W,Keeps w W []→Calls Tryz.prog 13 #[pkV p sw sc sf] W fun e w' =>e= .returned (.int .i64 (chkV p))∧Keeps W w' []from fun W hW=>pkCheck_any p sw sc sf W (hl.keeps hW) hs (hm.keeps hW) hk1 hk2)
 by_cases ho:pkOk p=true
 case neg=>
  rw[chkV_no (by simpa using ho)]at HCH;have HPO:=zh (show∀e w',e= .returned (.tuple #[.slice none 0 0,.int .i64 2])→Keeps w w' []→RawPost w p e w' from fun e w' h1 h2=>by unfold RawPost;rw[if_neg ho];exact⟨h1,h2⟩)
  generalize RawPost w p=PO at HPO ⊢
  clear ho hl hs hm hk1 hk2;obtain⟨k,dup,ret,q,t,b,id,c,cl,keep,hw,wt,wb,wq,wr,hu,hp,u,pw,pr,code,wants,codes,fs⟩:=p;obtain⟨W0,hW0⟩:∃W,(w).alloc (.cells (zP k dup ret q t b id c cl keep hw wt wb wq wr hu hp u pw pr code sw sc sf) 29)=W:=⟨_,rfl⟩;have k0:Keeps (w) W0 []:=by rw[←hW0];exact Keeps.alloc _ _
  have r0:Row W0 (w).heap.size 29 (zP k dup ret q t b id c cl keep hw wt wb wq wr hu hp u pw pr code sw sc sf):=by rw[←hW0];exact Row.new _ _ _
  have HP:=zh r0;have HK:=zh k0;clear k0 r0
  go_enter Tryz.func11,Tryz.ntmps11
  go_upto_region 1 with fail
  clear hW0;refine wp_region_line KeepsAll _ 2 rfl (by kernel_rfl) (by kernel_rfl) (fun _=>Keeps.refl _ _) (fun _ _ _ h k=>h.trans k (by simp)) ?_;simp only[zts,ztz,zds,zdz];refine lw 29 (.tmp 1) (w.heap.size) ((zL k dup ret q t b id c cl keep hw wt wb wq wr hu hp u pw pr code sw sc sf)) Tryz.underlying29 (fun W hW=>range_row (HP.out.keeps hW)) ?_;refine loose_qc 13 (#[.agg (zP k dup ret q t b id c cl keep hw wt wb wq wr hu hp u pw pr code sw sc sf)]) (.int .i64 2) (fun _=>by kernel_rfl) (fun _ _=>by kernel_rfl) (fun W hW=>by have hh:=HCH.out W (HK.out.then_ hW);exact hh) ?_;refine loose_nil (fun W vals hW hkn=> ?_);simp only[addEnt,knowsAll]at hkn
  try simp only[and_true]at hkn
  simp only[addEnt,fill,Act.put,zsa,zsc,zsz];clear hkn;have HK2:=zh (HK.out.then_ hW);clear hW
  go_wp2_with fail
  exact HPO.out _ _ rfl HK2.out
 case pos=>
  rw[chkV_yes ho]at HCH;have hin:1≤p.k∧p.k≤14:=pkIn_iff.1 (pkOk_parts ho).1;have HLK:=zh (fun(W:World) (b:Nat) (h:ShAll W b)=>(show∃v,Sh W p.k.toNat v∧(Instr.lookup 57 (.map (some b)) (.int .i64 p.k) false).run Tryz.prog W= .ok v W from by
   rcases h.look p.k hk1 hk2 false with⟨_,_,v,h1,h2⟩ | ⟨h1,_⟩
   ·exact⟨v,h1,h2⟩
   ·exact absurd hin h1))
  have HTN:=zh (show∀w9 v,Sh w9 p.k.toNat v→∃i1 c1 i2 c2 fv wv i5 c5,v= .agg #[.func (.func i1) #[] c1,.func (.func i2) #[] c2,fv,wv,.func (.func i5) #[] c5]∧PkK w9 p.k i1 c1 i2 c2 fv wv i5 c5 from fun _ _ h=>pkK hin h);obtain⟨F,hF⟩:∃F,pkF p=F:=⟨_,rfl⟩;obtain⟨WB,hWB⟩:∃WB,pkWr p=WB:=⟨_,rfl⟩;have HF:=zh (show F < 16 from hF▸pkF_lt ho);have hq:p.k=3→0≤p.q∧p.q≤3:=fun e=>by
   have:=(pk_fit3 e (pkOk_parts ho).2.1);have:=this.2.2.1;omega
  have HFL:=zh (show∀w9 i1 c1 i2 c2 fv wv i5 c5,PkK w9 p.k i1 c1 i2 c2 fv wv i5 c5→(fv= .nilFunc∧F=0)∨(∃i c,fv= .func (.func i) #[] c∧Enters i∧∀W,Keeps w9 W []→Calls Tryz.prog i (#[pkV p sw sc sf]++c) W fun e w' =>e= .returned (.int .i64 (F:Nat))∧Keeps W w' [])from by
   intro w9 i1 c1 i2 c2 fv wv i5 c5 K;rw[←hF]
   rcases K.fl with⟨e,h⟩ | ⟨i,c,e,h1,h2⟩
   ·exact .inl ⟨e,h p rfl⟩
   ·exact .inr ⟨i,c,e,h1,fun W hW=>h2 p sw sc sf W hW rfl hq⟩)
  have HWR:=zh (show∀w9 i1 c1 i2 c2 fv wv i5 c5,PkK w9 p.k i1 c1 i2 c2 fv wv i5 c5→(wv= .nilFunc∧WB= [])∨(∃i c,wv= .func (.func i) #[] c∧Enters i∧∀w0 W r,Keeps w9 W []→Keeps w w0 []→WrAt w0 W r []→Calls Tryz.prog i (#[.pointer (some ⟨r,0,none⟩),pkV p sw sc sf]++c) W (WrPost w0 W r WB))from by
   intro w9 i1 c1 i2 c2 fv wv i5 c5 K;rw[←hWB]
   rcases K.wr with⟨e,h⟩ | ⟨i,c,e,h1,h2⟩
   ·exact .inl ⟨e,h p rfl⟩
   ·exact .inr ⟨i,c,e,h1,fun w0 W r hW h0 hr=>h2 p sw sc sf w0 W r hW rfl ho (hl.keeps h0) hr⟩)
  have HLN:=zh (show(WB++p.b).length≤5000 from by rw[←hWB,←pkWr_body ho];exact pkBody_len ho);obtain⟨kn,hkn0⟩:∃kn,p.k.toNat=kn:=⟨_,rfl⟩;have HKN0:=zh (show p.k=(kn:Int)∧1≤kn∧kn≤14 by omega);have HPO:=zh (show∀e w' v,e= .returned (.tuple #[v,.int .i64 0])→Owned w' w.heap.size v ([lnB (16*kn+F)]++lnRaw (WB++p.b).length++(WB++p.b))→Keeps w w' []→RawPost w p e w' from fun e w' v h1 h2 h3=>by
   unfold RawPost;rw[if_pos ho];refine⟨v,h1, ?_,h3⟩;have:pkRaw p= [lnB (16*kn+F)]++lnRaw (WB++p.b).length++(WB++p.b):=by
    unfold pkRaw;rw[pkWr_body ho,hWB,hF,hkn0];simp
   rw[this];exact h2)
  generalize RawPost w p=PO at HPO ⊢
  rw[hkn0]at HLK HTN;clear ho hl hs hm hk1 hk2 hin hF hWB hq hkn0;obtain⟨k,dup,ret,q,t,b,id,c,cl,keep,hw,wt,wb,wq,wr,hu,hp,u,pw,pr,code,wants,codes,fs⟩:=p;simp only at HTN HFL HWR HLN HKN0 HPO;obtain⟨W0,hW0⟩:∃W,(w).alloc (.cells (zP k dup ret q t b id c cl keep hw wt wb wq wr hu hp u pw pr code sw sc sf) 29)=W:=⟨_,rfl⟩;have k0:Keeps (w) W0 []:=by rw[←hW0];exact Keeps.alloc _ _
  have r0:Row W0 (w).heap.size 29 (zP k dup ret q t b id c cl keep hw wt wb wq wr hu hp u pw pr code sw sc sf):=by rw[←hW0];exact Row.new _ _ _
  have HP:=zh r0;have HK:=zh k0;clear k0 r0
  go_enter Tryz.func11,Tryz.ntmps11
  go_upto_region 1 with fail
  clear hW0;refine wp_region_line KeepsAll _ 2 rfl (by kernel_rfl) (by kernel_rfl) (fun _=>Keeps.refl _ _) (fun _ _ _ h k=>h.trans k (by simp)) ?_;simp only[zts,ztz,zds,zdz];refine lw 29 (.tmp 1) (w.heap.size) ((zL k dup ret q t b id c cl keep hw wt wb wq wr hu hp u pw pr code sw sc sf)) Tryz.underlying29 (fun W hW=>range_row (HP.out.keeps hW)) ?_;refine loose_qc 13 (#[.agg (zP k dup ret q t b id c cl keep hw wt wb wq wr hu hp u pw pr code sw sc sf)]) (.int .i64 0) (fun _=>by kernel_rfl) (fun _ _=>by kernel_rfl) (fun W hW=>by have hh:=HCH.out W (HK.out.then_ hW);exact hh) ?_;refine loose_nil (fun W vals hW hkn=> ?_);simp only[addEnt,knowsAll]at hkn
  try simp only[and_true]at hkn
  simp only[addEnt,fill,Act.put,zsa,zsc,zsz];clear hkn;have HK2:=zh (HK.out.then_ hW);have HP2:=zh (HP.out.keeps hW);clear hW
  go_upto_region 4 with fail
  obtain⟨WR,hWR⟩:∃WR,WR=W:=⟨_,rfl⟩;subst hWR;have LH:LightK [⟨5, [], []⟩] (RelC WR.heap.size) shA:=shLight;refine wp_region_writersL [⟨5, [], []⟩] (RelC WR.heap.size) (shA) _ 6 LH (by kernel_rfl) rfl (by kernel_rfl) ?_;simp only[zts,ztz,zds,zdz];refine loosek_has 0 (fun v W' =>∃b,v= .map (some b)∧ShAll W' b) rfl (fun W vals hW hkn φ' hφ=> ?_) ?_
  ·have hC:=hW.c
   simp only[knowsK]at hkn
   try simp only[and_true]at hkn
   clear hkn;refine⟨?_⟩;simp only[fill];go_simp;exact loosek_calls_has LH hφ ((pkShapes_any W).mono (by rintro e w2 ⟨b,rfl,hb,hk⟩;exact⟨_,rfl,hk,b,rfl,hb⟩))
  simp only[addEnt];apply loosek_is 1 _ rfl
  ·intro W vals hW hkn
   clear hkn;have hC:=hW.c;refine⟨?_⟩;simp only[fill];go_simp
   first | exact⟨LH.stp (Keeps.refl _ _),rfl⟩ | exact⟨LH.stp (Keeps.alloc _ _),rfl⟩
  simp only[addEnt];apply loosek_is 2 _ rfl
  ·intro W vals hW hkn
   have hC:=hW.c;simp only[knowsK]at hkn
   try simp only[and_true]at hkn
   clear hkn;have m0:=(hC.rows _ _ _ (.inl (by decide)) HP2.out).cell 0;simp only[zga,zgz]at m0;refine⟨?_⟩;simp only[fill];go_simp
   first | exact⟨LH.stp (Keeps.refl _ _),rfl⟩ | exact⟨LH.stp (Keeps.alloc _ _),rfl⟩
  simp only[addEnt];refine loosek_has 3 (fun u W' =>Sh W' kn u) rfl (fun W vals hW hkn φ' hφ=> ?_) ?_
  ·have hC:=hW.c
   simp only[knowsK]at hkn
   try simp only[and_true]at hkn
   (obtain⟨W1,q0,q1,bb,hv,hb⟩:=hkn (by decide);obtain⟨v,hsv,hlk⟩:=HLK.out W bb (q1.c.maps _ _ hb);clear hb q0 q1)
   refine⟨?_⟩;simp only[fill];go_simp;exact⟨LH.stp (Keeps.refl _ _),hφ.out _ _ hsv⟩
  simp only[addEnt];refine loosek_has 4 (fun v W' =>∃b,v= .pointer (some ⟨b,0,none⟩)∧WR.heap.size≤b∧Row W' b 56 shZC) rfl (fun W vals hW hkn φ' hφ=> ?_) ?_
  ·have hC:=hW.c
   simp only[knowsK]at hkn
   try simp only[and_true]at hkn
   clear hkn;refine⟨?_⟩;simp only[fill];go_simp;exact⟨LH.stp (Keeps.alloc _ _),hφ.out _ _ ⟨_,rfl,hC.size,Row.new _ _ _⟩⟩
  simp only[addEnt];refine loosek_had 5 [5,19] (fun rd _ W' =>∃B X,rd= [.pointer (some ⟨B,0,none⟩),.agg X]∧WR.heap.size≤B∧Row W' B 56 X∧Sh W' kn (.agg X)) rfl (by kernel_rfl) (fun W vals hW hkn φ' hφ=> ?_) ?_
  ·simp only[knowsK]at hkn
   try simp only[and_true]at hkn
   obtain⟨W1,q0,q1,B,hv,hB,hrow⟩:=hkn.1 (by decide);obtain⟨W2,p0,p1,hsv⟩:=hkn.2.1 (by decide);have hsv:=p1.c.sh hsv;obtain⟨i1,c1,i2,c2,fv,wv,i5,c5,hv11,K⟩:=HTN.out _ _ hsv;have hone:(#[.func (.func i1) #[] c1,.func (.func i2) #[] c2,fv,wv,.func (.func i5) #[] c5]:Array Value).all (·.oneCell')=true:=by
    rcases K.fl with⟨e,_⟩ | ⟨_,_,e,_⟩ <;> rcases K.wr with⟨e',_⟩ | ⟨_,_,e',_⟩ <;> (subst e e';simp[Value.oneCell'])
   refine opOk_shStore (x:= .tmp 5) (y:= .tmp 19) (B:=B) (X:= #[.func (.func i1) #[] c1,.func (.func i2) #[] c2,fv,wv,.func (.func i5) #[] c5]) (by kernel_rfl) rfl ((show _=vals 5 by kernel_rfl).trans hv) ((show _=vals 19 by kernel_rfl).trans hv11) rfl hone hB (q1.a ⟨5, [], []⟩ (by simp) (.inr (.inr (.inl rfl))) _ hrow) (fun w' h=>⟨h,fun x hx hne=>by simp at hx;subst hx;exact absurd rfl hne⟩) (fun w' hrel hrw=>hφ.out _ _ ⟨B,_,by rw[List.map_cons,List.map_cons,List.map_nil,hv,hv11],hB,hrw, ?_⟩);rw[←hv11];exact hrel.sh hsv
  simp only[addEnt];refine loosek_nil (fun W9 vals hW hkn=> ?_);simp only[knowsAllK]at hkn
  try simp only[and_true]at hkn
  simp only[fill,Act.put,zsa,zsc,zsz];obtain⟨⟨_,W1,hc0,p1,B3,X,hrd,hB3,hrow,hsv0⟩,hrest⟩:=hkn;clear hrest hc0;have hsv:=p1.c.sh hsv0;clear hsv0;obtain⟨i1,c1,i2,c2,fv,wv,i5,c5,hX,K⟩:=HTN.out _ _ hsv;injection hX with hX
  subst hX;have HR3:=zh (p1.c.rows _ _ _ (.inr (by intro e;cases e)) hrow);have HKN:=zh K;have HKW:=zh (HK2.out.then_ (RelC.keeps hW));have HPW:=zh (HP2.out.keeps (RelC.keeps hW));injection hrd with e1 e2
  injection e2 with e2 e3
  rw[e1,e2];clear p1 hrow hsv hW LH e1 e2 e3 hB3 K;have p0:=HPW.out.cell 0;simp only[zga,zgz]at p0
  go_upto_region 6 with fail
  rw[show k % 256*16 % 256=((16*kn:Nat):Int)from by have:=HKN0.out;omega];obtain⟨M,hM⟩:∃M,16*kn=M:=⟨_,rfl⟩;have HM:=zh (show M≤224∧M % 16=0 by have:=HKN0.out;omega);have HOR:=zh (show bits .or .u8 (M:Int) (F:Int)=((M+F:Nat):Int)by rw[←hM];exact raw_or kn (by have:=HKN0.out;omega) F HF.out);rw[hM]at HPO ⊢
  clear hM p0;have HRC:=zh HR3.out;have HPC:=zh HPW.out;have HKC:=zh HKW.out;have HKK:=zh (Keeps.refl W9 []);obtain⟨WC,hWC⟩:∃WC,WC=W9:=⟨_,rfl⟩;subst hWC;clear HR3 HPW HKW HP HK HP2 HK2 HCH HLK HTN
  rcases HFL.out _ _ _ _ _ _ _ _ _ HKN.out with⟨rfl,rfl⟩ | ⟨i7,g7,rfl,hr,hcf⟩
  ·skip
   refine wp_region_lit ?_;refine wpList_val (.pointer (some ⟨B3,2,none⟩)) rfl (by kernel_rfl) ?_;refine wpList_loadc 52 (.tmp 24) ⟨B3,2,none⟩ (.nilFunc) rfl rfl (by kernel_rfl) (fun _=>by kernel_rfl) ((HRC.out.cell 2).trans (by kernel_rfl)) ?_;refine wpList_val (.bool false) rfl (by kernel_rfl) ?_;simp only[Act.put,zsa,zsc,zsz];obtain⟨y0,hy0⟩:∃y0,lnB (M+0)=y0:=⟨_,rfl⟩;have hY:((M:Nat):Int)=(y0.toNat:Int):=by rw[←hy0,lnB_val (by have:=HM.out;omega)];simp
   rw[hy0]at HPO;rw[hY];clear hy0 hY
   go_upto_region 8 with fail
   go_wp2_with fail
   refine(newWriter_any _).mono ?_;rintro e W ⟨rfl,hwb,hW⟩;obtain⟨r4,hr4⟩:∃r4,WC.heap.size=r4:=⟨_,rfl⟩;have HWT:=zh (show WrAt WC W r4 []from⟨hW,by rw[hr4];exact Nat.le_refl _,_,by rw[←hr4];exact hwb⟩);rw[hr4];obtain⟨WN,hWN⟩:∃WN,WN=WC:=⟨_,rfl⟩;rw[←hWN]at HWT;have HKN5:=zh (show Keeps w WN []∧WN.heap.size≤r4 from by rw[hWN];exact⟨HKC.out,by rw[hr4];exact Nat.le_refl _⟩);clear hwb hr4 hWN;have hkn:=True.intro;have HRC:=zh (HRC.out.keeps hW);have HPC:=zh (HPC.out.keeps hW);have HKC:=zh (HKC.out.then_ hW);have HKK:=zh (HKK.out.then_ hW);obtain⟨WC,hWC⟩:∃WC,WC=W:=⟨_,rfl⟩;subst hWC;clear hkn hW
   go_upto_region 9 with fail
   rcases HWR.out _ _ _ _ _ _ _ _ _ HKN.out with⟨rfl,rfl⟩ | ⟨i6,g6,rfl,hr,hcw⟩
   ·skip
    refine wp_region_lit ?_;refine wpList_val (.pointer (some ⟨B3,3,none⟩)) rfl (by kernel_rfl) ?_;refine wpList_loadc 53 (.tmp 35) ⟨B3,3,none⟩ (.nilFunc) rfl rfl (by kernel_rfl) (fun _=>by kernel_rfl) ((HRC.out.cell 3).trans (by kernel_rfl)) ?_;refine wpList_val (.bool false) rfl (by kernel_rfl) ?_;simp only[Act.put,zsa,zsc,zsz]
    go_upto_region 11 with fail
    obtain⟨BD,hBD⟩:∃BD,([]:List UInt8)++b=BD:=⟨_,rfl⟩;have HBD:=zh (And.intro hBD (show(([]:List UInt8)).length≤5000∧b.length≤5000 by have:=HLN.out;rw[List.length_append]at this;first | omega | (simp only[List.length_nil]at this ⊢;omega)));have HLB:=zh (show BD.length≤5000 by rw[←hBD];exact HLN.out);rw[hBD]at HPO;clear hBD HLN;have LH:=LightK.one (Ws:= [⟨4, [0,1,2,3], []⟩]) (i:=4) (keepIf_ok w) keeps_ok;refine wp_region_writersL [⟨4, [0,1,2,3], []⟩] (fun W W' =>Keeps w W []→Keeps w W' []) (oneA 4 (fun W W' =>Keeps W W' [])) _ 5 LH (by kernel_rfl) rfl (by kernel_rfl) ?_;simp only[zts,ztz,zds,zdz];apply loosek_is 0 _ rfl
    ·intro W vals hW hkn
     clear hkn;have hC:=hW.c;refine⟨?_⟩;simp only[fill];go_simp
     first | exact⟨LH.stp (Keeps.refl _ _),rfl⟩ | exact⟨LH.stp (Keeps.alloc _ _),rfl⟩
    simp only[addEnt];refine loosek_has 1 (fun v W' =>Owned W' w.heap.size v (([]:List UInt8))) rfl (fun W vals hW hkn φ' hφ=> ?_) ?_
    ·have hC:=hW.c
     simp only[knowsK]at hkn
     try simp only[and_true]at hkn
     (have hkp:=PreK.one hW (.inr (show(1:Nat)∈ [0,1,2,3]by decide));have hwt:=HWT.out.keeps hkp;obtain⟨vw,hvw⟩:=hwt.v;clear hkn)
     refine⟨?_⟩;simp only[fill];go_simp;exact loosek_calls_has LH hφ ((wrBytes_any _ _ _ _ _ hvw (by have:=HBD.out.2.1;omega)).mono (by rintro e w2 ⟨v',rfl,ho,hk⟩;exact⟨v',rfl,hk,own_base ho (by have:=(HKC.out.then_ hkp).size;omega)⟩))
    simp only[addEnt];apply loosek_is 2 _ rfl
    ·intro W vals hW hkn
     clear hkn;have hC:=hW.c;refine⟨?_⟩;simp only[fill];go_simp
     first | exact⟨LH.stp (Keeps.refl _ _),rfl⟩ | exact⟨LH.stp (Keeps.alloc _ _),rfl⟩
    simp only[addEnt];apply loosek_is 3 _ rfl
    ·intro W vals hW hkn
     have hC:=hW.c;simp only[knowsK]at hkn
     try simp only[and_true]at hkn
     have m5:=((HPC.out.keeps (PreK.one hW (.inr (show(3:Nat)∈ [0,1,2,3]by decide)))).cell 5);simp only[zga,zgz,zgs]at m5;clear hkn;refine⟨?_⟩;simp only[fill];go_simp
     first | exact⟨LH.stp (Keeps.refl _ _),rfl⟩ | exact⟨LH.stp (Keeps.alloc _ _),rfl⟩
    simp only[addEnt];refine loosek_has 4 (fun v W' =>∃A c,v= .slice A BD.length c∧Owned W' w.heap.size v BD) rfl (fun W vals hW hkn φ' hφ=> ?_) ?_
    ·simp only[knowsK]at hkn
     try simp only[and_true]at hkn
     obtain⟨W4,a0,a1,how⟩:=hkn (by decide);have how:=own_keep how (BtwK.one a1 (.inr (.inr (.inl rfl)))) (by simp);refine opOk_append_str rfl (.tmp 44) (.tmp 46) rfl w.heap.size (vals 44) (([]:List UInt8)) b (show _=vals 44 by kernel_rfl) how (by kernel_rfl) (by have:=HBD.out.2;omega) (hW.c HKC.out).size (fun v' w' ho hk=> ?_);rw[HBD.out.1]at ho;obtain⟨A,c,rfl,_,_⟩:=own_slice ho;exact⟨.one (fun hh=>hh.trans hk (fun y hy hlt=>by have:=(how.lt y (by simpa using hy)).1;omega)) (fun h=>absurd rfl h),hφ.out _ _ ⟨A,c,rfl,ho⟩⟩
    simp only[addEnt];refine loosek_nil (fun W9 vals hW hkn=> ?_);simp only[knowsAllK]at hkn
    try simp only[and_true]at hkn
    simp only[fill,Act.put,zsa,zsc,zsz];obtain⟨⟨_,a0,a1,A9,c9,hv9,ho9⟩,hrest⟩:=hkn;have ho9:=own_keep ho9 (PostK.one a1 (.inl rfl)) (by simp);rw[hv9]at ho9 ⊢
    have HO9:=zh (And.intro ho9 (hW HKC.out));clear a0 a1 hv9 ho9 hrest hW LH HKC HWT HPC HKN5 HBD
    go_wp2_with fail
    refine(lnRaw_any _ BD.length (by have:=HLB.out;omega)).mono ?_;rintro e W5 ⟨v5,rfl,ho5,hk5⟩;obtain⟨N,hN⟩:∃N,lnRaw BD.length=N:=⟨_,rfl⟩;have HNL:=zh (show N.length≤8 by rw[←hN,lnRaw_length];have:=lnSize_le BD.length;omega);rw[hN]at ho5 HPO;obtain⟨A5,c5,rfl,_,_⟩:=own_slice ho5;obtain⟨Wb,hWb⟩:∃Wb,W5.alloc (.cells #[.int .u8 (y0.toNat:Nat)] 5)=Wb:=⟨_,rfl⟩;have kb:Keeps W5 Wb []:=by rw[←hWb];exact Keeps.alloc _ _
    have rb:Owned Wb W5.heap.size (.slice (some ⟨W5.heap.size,0,none⟩) 1 1) [y0]:=by rw[←hWb];exact raw_one W5 y0
    have HA:=zh (And.intro (own_keep HO9.out.1 hk5 (by simp)) (And.intro rb (And.intro (Owned.bytes (own_keep ho5 kb (by simp)) (by have:=HNL.out;omega)) (And.intro (own_keep (own_keep HO9.out.1 hk5 (by simp)) kb (by simp)) ((HO9.out.2.then_ hk5).then_ kb)))));have hbs:W5.heap.size≤Wb.heap.size:=kb.size;have HS5:=zh (show w.heap.size≤W5.heap.size from(HO9.out.2.then_ hk5).size);clear ho5 hk5 kb rb HO9 hN
    go_wp2_with (at_builtin;refine Hid.out ?_)
    refine zh ?_;refine wpList_append_bytes _ rfl (.tmp 55) (.tmp 56) rfl w.heap.size (.slice (some ⟨W5.heap.size,0,none⟩) 1 1) (.slice A5 N.length c5) [y0] N rfl rfl (own_base HA.out.2.1 HS5.out) HA.out.2.2.1 (by have:=HNL.out;simp;omega) (Nat.le_trans HS5.out hbs) ?_;intro A6 c6 w6 l6 E6 hl6 ho6 hk6 hb6;have HB:=zh (And.intro ho6 (And.intro (Owned.bytes (own_keep HA.out.2.2.2.1 hk6 (fun g hg hm=>by have:=(owned_lt HA.out.1 g hg).2;simp[Value.ownBlock]at hm;omega)) (by have:=HLB.out;omega)) (HA.out.2.2.2.2.trans hk6 (fun y hy hlt=>by have:=HS5.out;simp[Value.ownBlock]at hy;omega))));have hbs6:w.heap.size≤w6.heap.size:=HB.out.2.2.size;clear ho6 hk6 hb6 hbs hWb
    go_wp2_with (at_builtin;refine Hid.out ?_)
    refine zh ?_;refine wpList_append_bytes _ rfl (.tmp 57) (.tmp 58) rfl w.heap.size (.slice A6 l6.length c6) (.slice A9 BD.length c9) l6 BD rfl rfl HB.out.1 HB.out.2.1 (by have:=HNL.out;have:=HLB.out;simp at hl6;omega) hbs6 ?_;intro A7 c7 w7 l7 E7 hl7 ho7 hk7 hb7;have HK7:=zh (HB.out.2.2.trans hk7 (fun y hy hlt=>by have:=(owned_lt HB.out.1 y (by simpa using hy)).1;omega));have HO7:=zh ho7;clear ho7 hk7 hb7 hbs6
    go_wp2_with fail
    refine HPO.out _ _ _ rfl ?_ HK7.out;rw[←E6.out,←E7.out];exact HO7.out
   ·have HCW:=zh hcw
    clear hcw;refine wp_region_lit ?_;refine wpList_val (.pointer (some ⟨B3,3,none⟩)) rfl (by kernel_rfl) ?_;refine wpList_loadc 53 (.tmp 35) ⟨B3,3,none⟩ (.func (.func i6) #[] g6) rfl rfl (by kernel_rfl) (fun _=>by kernel_rfl) ((HRC.out.cell 3).trans (by kernel_rfl)) ?_;refine wpList_val (.bool true) rfl (by kernel_rfl) ?_;simp only[Act.put,zsa,zsc,zsz]
    go_upto_region 10 with fail
    refine wp_region_lit ?_;refine wpList_val (.pointer (some ⟨B3,3,none⟩)) rfl (by kernel_rfl) ?_;refine wpList_loadc 53 (.tmp 38) ⟨B3,3,none⟩ (.func (.func i6) #[] g6) rfl rfl (by kernel_rfl) (fun _=>by kernel_rfl) ((HRC.out.cell 3).trans (by kernel_rfl)) ?_;refine wpList_val (.pointer (some ⟨r4,0,none⟩)) rfl (by kernel_rfl) ?_;refine wpList_load_mid rfl 29 (.tmp 1) rfl w.heap.size 0 (by kernel_rfl) (zL k dup ret q t b id c cl keep hw wt wb wq wr hu hp u pw pr code sw sc sf) _ (range_row HPC.out) Tryz.underlying29 rfl (by kernel_rfl) ?_;refine wpList_callv i6 g6 #[.pointer (some ⟨r4,0,none⟩),.agg (zP k dup ret q t b id c cl keep hw wt wb wq wr hu hp u pw pr code sw sc sf)] rfl rfl hr (by kernel_rfl) ?_;refine(HCW.out WN WC r4 HKK.out HKN5.out.1 HWT.out).mono ?_;rintro e W ⟨rfl,ha,hg⟩;refine .inl ⟨_,rfl, ?_⟩;have HWT:=zh ha;have HPC:=zh (hg _ _ _ HPC.out (by decide) (by decide));have HKC:=zh (HKN5.out.1.then_ ha.k);clear ha hg hr HCW HKK HRC;obtain⟨WC,hWC⟩:∃WC,WC=W:=⟨_,rfl⟩;subst hWC;simp only[Act.put,zsa,zsc,zsz]
    go_upto_region 11 with fail
    obtain⟨BD,hBD⟩:∃BD,WB++b=BD:=⟨_,rfl⟩;have HBD:=zh (And.intro hBD (show(WB).length≤5000∧b.length≤5000 by have:=HLN.out;rw[List.length_append]at this;first | omega | (simp only[List.length_nil]at this ⊢;omega)));have HLB:=zh (show BD.length≤5000 by rw[←hBD];exact HLN.out);rw[hBD]at HPO;clear hBD HLN;have LH:=LightK.one (Ws:= [⟨4, [0,1,2,3], []⟩]) (i:=4) (keepIf_ok w) keeps_ok;refine wp_region_writersL [⟨4, [0,1,2,3], []⟩] (fun W W' =>Keeps w W []→Keeps w W' []) (oneA 4 (fun W W' =>Keeps W W' [])) _ 5 LH (by kernel_rfl) rfl (by kernel_rfl) ?_;simp only[zts,ztz,zds,zdz];apply loosek_is 0 _ rfl
    ·intro W vals hW hkn
     clear hkn;have hC:=hW.c;refine⟨?_⟩;simp only[fill];go_simp
     first | exact⟨LH.stp (Keeps.refl _ _),rfl⟩ | exact⟨LH.stp (Keeps.alloc _ _),rfl⟩
    simp only[addEnt];refine loosek_has 1 (fun v W' =>Owned W' w.heap.size v (WB)) rfl (fun W vals hW hkn φ' hφ=> ?_) ?_
    ·have hC:=hW.c
     simp only[knowsK]at hkn
     try simp only[and_true]at hkn
     (have hkp:=PreK.one hW (.inr (show(1:Nat)∈ [0,1,2,3]by decide));have hwt:=HWT.out.keeps hkp;obtain⟨vw,hvw⟩:=hwt.v;clear hkn)
     refine⟨?_⟩;simp only[fill];go_simp;exact loosek_calls_has LH hφ ((wrBytes_any _ _ _ _ _ hvw (by have:=HBD.out.2.1;omega)).mono (by rintro e w2 ⟨v',rfl,ho,hk⟩;exact⟨v',rfl,hk,own_base ho (by have:=(HKC.out.then_ hkp).size;omega)⟩))
    simp only[addEnt];apply loosek_is 2 _ rfl
    ·intro W vals hW hkn
     clear hkn;have hC:=hW.c;refine⟨?_⟩;simp only[fill];go_simp
     first | exact⟨LH.stp (Keeps.refl _ _),rfl⟩ | exact⟨LH.stp (Keeps.alloc _ _),rfl⟩
    simp only[addEnt];apply loosek_is 3 _ rfl
    ·intro W vals hW hkn
     have hC:=hW.c;simp only[knowsK]at hkn
     try simp only[and_true]at hkn
     have m5:=((HPC.out.keeps (PreK.one hW (.inr (show(3:Nat)∈ [0,1,2,3]by decide)))).cell 5);simp only[zga,zgz,zgs]at m5;clear hkn;refine⟨?_⟩;simp only[fill];go_simp
     first | exact⟨LH.stp (Keeps.refl _ _),rfl⟩ | exact⟨LH.stp (Keeps.alloc _ _),rfl⟩
    simp only[addEnt];refine loosek_has 4 (fun v W' =>∃A c,v= .slice A BD.length c∧Owned W' w.heap.size v BD) rfl (fun W vals hW hkn φ' hφ=> ?_) ?_
    ·simp only[knowsK]at hkn
     try simp only[and_true]at hkn
     obtain⟨W4,a0,a1,how⟩:=hkn (by decide);have how:=own_keep how (BtwK.one a1 (.inr (.inr (.inl rfl)))) (by simp);refine opOk_append_str rfl (.tmp 44) (.tmp 46) rfl w.heap.size (vals 44) (WB) b (show _=vals 44 by kernel_rfl) how (by kernel_rfl) (by have:=HBD.out.2;omega) (hW.c HKC.out).size (fun v' w' ho hk=> ?_);rw[HBD.out.1]at ho;obtain⟨A,c,rfl,_,_⟩:=own_slice ho;exact⟨.one (fun hh=>hh.trans hk (fun y hy hlt=>by have:=(how.lt y (by simpa using hy)).1;omega)) (fun h=>absurd rfl h),hφ.out _ _ ⟨A,c,rfl,ho⟩⟩
    simp only[addEnt];refine loosek_nil (fun W9 vals hW hkn=> ?_);simp only[knowsAllK]at hkn
    try simp only[and_true]at hkn
    simp only[fill,Act.put,zsa,zsc,zsz];obtain⟨⟨_,a0,a1,A9,c9,hv9,ho9⟩,hrest⟩:=hkn;have ho9:=own_keep ho9 (PostK.one a1 (.inl rfl)) (by simp);rw[hv9]at ho9 ⊢
    have HO9:=zh (And.intro ho9 (hW HKC.out));clear a0 a1 hv9 ho9 hrest hW LH HKC HWT HPC HKN5 HBD
    go_wp2_with fail
    refine(lnRaw_any _ BD.length (by have:=HLB.out;omega)).mono ?_;rintro e W5 ⟨v5,rfl,ho5,hk5⟩;obtain⟨N,hN⟩:∃N,lnRaw BD.length=N:=⟨_,rfl⟩;have HNL:=zh (show N.length≤8 by rw[←hN,lnRaw_length];have:=lnSize_le BD.length;omega);rw[hN]at ho5 HPO;obtain⟨A5,c5,rfl,_,_⟩:=own_slice ho5;obtain⟨Wb,hWb⟩:∃Wb,W5.alloc (.cells #[.int .u8 (y0.toNat:Nat)] 5)=Wb:=⟨_,rfl⟩;have kb:Keeps W5 Wb []:=by rw[←hWb];exact Keeps.alloc _ _
    have rb:Owned Wb W5.heap.size (.slice (some ⟨W5.heap.size,0,none⟩) 1 1) [y0]:=by rw[←hWb];exact raw_one W5 y0
    have HA:=zh (And.intro (own_keep HO9.out.1 hk5 (by simp)) (And.intro rb (And.intro (Owned.bytes (own_keep ho5 kb (by simp)) (by have:=HNL.out;omega)) (And.intro (own_keep (own_keep HO9.out.1 hk5 (by simp)) kb (by simp)) ((HO9.out.2.then_ hk5).then_ kb)))));have hbs:W5.heap.size≤Wb.heap.size:=kb.size;have HS5:=zh (show w.heap.size≤W5.heap.size from(HO9.out.2.then_ hk5).size);clear ho5 hk5 kb rb HO9 hN
    go_wp2_with (at_builtin;refine Hid.out ?_)
    refine zh ?_;refine wpList_append_bytes _ rfl (.tmp 55) (.tmp 56) rfl w.heap.size (.slice (some ⟨W5.heap.size,0,none⟩) 1 1) (.slice A5 N.length c5) [y0] N rfl rfl (own_base HA.out.2.1 HS5.out) HA.out.2.2.1 (by have:=HNL.out;simp;omega) (Nat.le_trans HS5.out hbs) ?_;intro A6 c6 w6 l6 E6 hl6 ho6 hk6 hb6;have HB:=zh (And.intro ho6 (And.intro (Owned.bytes (own_keep HA.out.2.2.2.1 hk6 (fun g hg hm=>by have:=(owned_lt HA.out.1 g hg).2;simp[Value.ownBlock]at hm;omega)) (by have:=HLB.out;omega)) (HA.out.2.2.2.2.trans hk6 (fun y hy hlt=>by have:=HS5.out;simp[Value.ownBlock]at hy;omega))));have hbs6:w.heap.size≤w6.heap.size:=HB.out.2.2.size;clear ho6 hk6 hb6 hbs hWb
    go_wp2_with (at_builtin;refine Hid.out ?_)
    refine zh ?_;refine wpList_append_bytes _ rfl (.tmp 57) (.tmp 58) rfl w.heap.size (.slice A6 l6.length c6) (.slice A9 BD.length c9) l6 BD rfl rfl HB.out.1 HB.out.2.1 (by have:=HNL.out;have:=HLB.out;simp at hl6;omega) hbs6 ?_;intro A7 c7 w7 l7 E7 hl7 ho7 hk7 hb7;have HK7:=zh (HB.out.2.2.trans hk7 (fun y hy hlt=>by have:=(owned_lt HB.out.1 y (by simpa using hy)).1;omega));have HO7:=zh ho7;clear ho7 hk7 hb7 hbs6
    go_wp2_with fail
    refine HPO.out _ _ _ rfl ?_ HK7.out;rw[←E6.out,←E7.out];exact HO7.out
  ·have HCF:=zh hcf
   clear hcf;refine wp_region_lit ?_;refine wpList_val (.pointer (some ⟨B3,2,none⟩)) rfl (by kernel_rfl) ?_;refine wpList_loadc 52 (.tmp 24) ⟨B3,2,none⟩ (.func (.func i7) #[] g7) rfl rfl (by kernel_rfl) (fun _=>by kernel_rfl) ((HRC.out.cell 2).trans (by kernel_rfl)) ?_;refine wpList_val (.bool true) rfl (by kernel_rfl) ?_;simp only[Act.put,zsa,zsc,zsz]
   go_upto_region 7 with fail
   obtain⟨y0,hy0⟩:∃y0,lnB (M+F)=y0:=⟨_,rfl⟩;have hbt:bits .or .u8 (M:Int) (F:Int)=(y0.toNat:Int):=by rw[HOR.out,←hy0,lnB_val (by have:=HM.out;have:=HF.out;omega)]
   have hwf:IntKind.u8.wrap (F:Int)=(F:Int):=IntWalk.u8_in _ ⟨by omega,by have:=HF.out;omega⟩;rw[hy0]at HPO;clear hy0;refine wp_region_line KeepsAll _ 7 rfl (by kernel_rfl) (by kernel_rfl) (fun _=>Keeps.refl _ _) (fun _ _ _ h k=>h.trans k (by simp)) ?_;simp only[zts,ztz,zds,zdz];refine lq (.int .u8 (M:Nat)) ?_;refine lq (.pointer (some ⟨B3,2,none⟩)) ?_;refine ll 52 (.tmp 28) (⟨B3,2,none⟩) (.func (.func i7) #[] g7) (fun W hW=>((HRC.out.keeps hW).cell 2).trans (by kernel_rfl)) ?_;refine lw 29 (.tmp 1) (w.heap.size) ((zL k dup ret q t b id c cl keep hw wt wb wq wr hu hp u pw pr code sw sc sf)) Tryz.underlying29 (fun W hW=>range_row (HPC.out.keeps hW)) ?_;refine loose_qv i7 (g7) (#[.agg (zP k dup ret q t b id c cl keep hw wt wb wq wr hu hp u pw pr code sw sc sf)]) (#[.agg (zP k dup ret q t b id c cl keep hw wt wb wq wr hu hp u pw pr code sw sc sf)]++g7) (.int .i64 (F:Nat)) (by first | rfl | simp) rfl hr (fun _=>by kernel_rfl) (fun _ _=>by kernel_rfl) (fun W hW=>by have hh:=HCF.out W (HKK.out.then_ hW);exact hh) ?_;refine loose_q (.int .u8 (F:Nat)) (fun _=>by kernel_rfl) (fun W _=>(show _=Result.ok (Next.value (.int .u8 (IntKind.u8.wrap (F:Int)))) W by kernel_rfl).trans (by rw[hwf])) ?_;refine loose_q (.int .u8 (y0.toNat:Int)) (fun _=>by kernel_rfl) (fun W _=>(show _=Result.ok (Next.value (.int .u8 (bits .or .u8 (M:Int) (F:Int)))) W by kernel_rfl).trans (by rw[hbt])) ?_;refine loose_nil (fun W vals hW hkn=> ?_);simp only[addEnt,knowsAll]at hkn
   try simp only[and_true]at hkn
   simp only[addEnt,fill,Act.put,zsa,zsc,zsz];clear hr HCF hwf hbt;have HRC:=zh (HRC.out.keeps hW);have HPC:=zh (HPC.out.keeps hW);have HKC:=zh (HKC.out.then_ hW);have HKK:=zh (HKK.out.then_ hW);obtain⟨WC,hWC⟩:∃WC,WC=W:=⟨_,rfl⟩;subst hWC;clear hkn hW
   go_upto_region 8 with fail
   go_wp2_with fail
   refine(newWriter_any _).mono ?_;rintro e W ⟨rfl,hwb,hW⟩;obtain⟨r4,hr4⟩:∃r4,WC.heap.size=r4:=⟨_,rfl⟩;have HWT:=zh (show WrAt WC W r4 []from⟨hW,by rw[hr4];exact Nat.le_refl _,_,by rw[←hr4];exact hwb⟩);rw[hr4];obtain⟨WN,hWN⟩:∃WN,WN=WC:=⟨_,rfl⟩;rw[←hWN]at HWT;have HKN5:=zh (show Keeps w WN []∧WN.heap.size≤r4 from by rw[hWN];exact⟨HKC.out,by rw[hr4];exact Nat.le_refl _⟩);clear hwb hr4 hWN;have hkn:=True.intro;have HRC:=zh (HRC.out.keeps hW);have HPC:=zh (HPC.out.keeps hW);have HKC:=zh (HKC.out.then_ hW);have HKK:=zh (HKK.out.then_ hW);obtain⟨WC,hWC⟩:∃WC,WC=W:=⟨_,rfl⟩;subst hWC;clear hkn hW
   go_upto_region 9 with fail
   rcases HWR.out _ _ _ _ _ _ _ _ _ HKN.out with⟨rfl,rfl⟩ | ⟨i6,g6,rfl,hr,hcw⟩
   ·skip
    refine wp_region_lit ?_;refine wpList_val (.pointer (some ⟨B3,3,none⟩)) rfl (by kernel_rfl) ?_;refine wpList_loadc 53 (.tmp 35) ⟨B3,3,none⟩ (.nilFunc) rfl rfl (by kernel_rfl) (fun _=>by kernel_rfl) ((HRC.out.cell 3).trans (by kernel_rfl)) ?_;refine wpList_val (.bool false) rfl (by kernel_rfl) ?_;simp only[Act.put,zsa,zsc,zsz]
    go_upto_region 11 with fail
    obtain⟨BD,hBD⟩:∃BD,([]:List UInt8)++b=BD:=⟨_,rfl⟩;have HBD:=zh (And.intro hBD (show(([]:List UInt8)).length≤5000∧b.length≤5000 by have:=HLN.out;rw[List.length_append]at this;first | omega | (simp only[List.length_nil]at this ⊢;omega)));have HLB:=zh (show BD.length≤5000 by rw[←hBD];exact HLN.out);rw[hBD]at HPO;clear hBD HLN;have LH:=LightK.one (Ws:= [⟨4, [0,1,2,3], []⟩]) (i:=4) (keepIf_ok w) keeps_ok;refine wp_region_writersL [⟨4, [0,1,2,3], []⟩] (fun W W' =>Keeps w W []→Keeps w W' []) (oneA 4 (fun W W' =>Keeps W W' [])) _ 5 LH (by kernel_rfl) rfl (by kernel_rfl) ?_;simp only[zts,ztz,zds,zdz];apply loosek_is 0 _ rfl
    ·intro W vals hW hkn
     clear hkn;have hC:=hW.c;refine⟨?_⟩;simp only[fill];go_simp
     first | exact⟨LH.stp (Keeps.refl _ _),rfl⟩ | exact⟨LH.stp (Keeps.alloc _ _),rfl⟩
    simp only[addEnt];refine loosek_has 1 (fun v W' =>Owned W' w.heap.size v (([]:List UInt8))) rfl (fun W vals hW hkn φ' hφ=> ?_) ?_
    ·have hC:=hW.c
     simp only[knowsK]at hkn
     try simp only[and_true]at hkn
     (have hkp:=PreK.one hW (.inr (show(1:Nat)∈ [0,1,2,3]by decide));have hwt:=HWT.out.keeps hkp;obtain⟨vw,hvw⟩:=hwt.v;clear hkn)
     refine⟨?_⟩;simp only[fill];go_simp;exact loosek_calls_has LH hφ ((wrBytes_any _ _ _ _ _ hvw (by have:=HBD.out.2.1;omega)).mono (by rintro e w2 ⟨v',rfl,ho,hk⟩;exact⟨v',rfl,hk,own_base ho (by have:=(HKC.out.then_ hkp).size;omega)⟩))
    simp only[addEnt];apply loosek_is 2 _ rfl
    ·intro W vals hW hkn
     clear hkn;have hC:=hW.c;refine⟨?_⟩;simp only[fill];go_simp
     first | exact⟨LH.stp (Keeps.refl _ _),rfl⟩ | exact⟨LH.stp (Keeps.alloc _ _),rfl⟩
    simp only[addEnt];apply loosek_is 3 _ rfl
    ·intro W vals hW hkn
     have hC:=hW.c;simp only[knowsK]at hkn
     try simp only[and_true]at hkn
     have m5:=((HPC.out.keeps (PreK.one hW (.inr (show(3:Nat)∈ [0,1,2,3]by decide)))).cell 5);simp only[zga,zgz,zgs]at m5;clear hkn;refine⟨?_⟩;simp only[fill];go_simp
     first | exact⟨LH.stp (Keeps.refl _ _),rfl⟩ | exact⟨LH.stp (Keeps.alloc _ _),rfl⟩
    simp only[addEnt];refine loosek_has 4 (fun v W' =>∃A c,v= .slice A BD.length c∧Owned W' w.heap.size v BD) rfl (fun W vals hW hkn φ' hφ=> ?_) ?_
    ·simp only[knowsK]at hkn
     try simp only[and_true]at hkn
     obtain⟨W4,a0,a1,how⟩:=hkn (by decide);have how:=own_keep how (BtwK.one a1 (.inr (.inr (.inl rfl)))) (by simp);refine opOk_append_str rfl (.tmp 44) (.tmp 46) rfl w.heap.size (vals 44) (([]:List UInt8)) b (show _=vals 44 by kernel_rfl) how (by kernel_rfl) (by have:=HBD.out.2;omega) (hW.c HKC.out).size (fun v' w' ho hk=> ?_);rw[HBD.out.1]at ho;obtain⟨A,c,rfl,_,_⟩:=own_slice ho;exact⟨.one (fun hh=>hh.trans hk (fun y hy hlt=>by have:=(how.lt y (by simpa using hy)).1;omega)) (fun h=>absurd rfl h),hφ.out _ _ ⟨A,c,rfl,ho⟩⟩
    simp only[addEnt];refine loosek_nil (fun W9 vals hW hkn=> ?_);simp only[knowsAllK]at hkn
    try simp only[and_true]at hkn
    simp only[fill,Act.put,zsa,zsc,zsz];obtain⟨⟨_,a0,a1,A9,c9,hv9,ho9⟩,hrest⟩:=hkn;have ho9:=own_keep ho9 (PostK.one a1 (.inl rfl)) (by simp);rw[hv9]at ho9 ⊢
    have HO9:=zh (And.intro ho9 (hW HKC.out));clear a0 a1 hv9 ho9 hrest hW LH HKC HWT HPC HKN5 HBD
    go_wp2_with fail
    refine(lnRaw_any _ BD.length (by have:=HLB.out;omega)).mono ?_;rintro e W5 ⟨v5,rfl,ho5,hk5⟩;obtain⟨N,hN⟩:∃N,lnRaw BD.length=N:=⟨_,rfl⟩;have HNL:=zh (show N.length≤8 by rw[←hN,lnRaw_length];have:=lnSize_le BD.length;omega);rw[hN]at ho5 HPO;obtain⟨A5,c5,rfl,_,_⟩:=own_slice ho5;obtain⟨Wb,hWb⟩:∃Wb,W5.alloc (.cells #[.int .u8 (y0.toNat:Nat)] 5)=Wb:=⟨_,rfl⟩;have kb:Keeps W5 Wb []:=by rw[←hWb];exact Keeps.alloc _ _
    have rb:Owned Wb W5.heap.size (.slice (some ⟨W5.heap.size,0,none⟩) 1 1) [y0]:=by rw[←hWb];exact raw_one W5 y0
    have HA:=zh (And.intro (own_keep HO9.out.1 hk5 (by simp)) (And.intro rb (And.intro (Owned.bytes (own_keep ho5 kb (by simp)) (by have:=HNL.out;omega)) (And.intro (own_keep (own_keep HO9.out.1 hk5 (by simp)) kb (by simp)) ((HO9.out.2.then_ hk5).then_ kb)))));have hbs:W5.heap.size≤Wb.heap.size:=kb.size;have HS5:=zh (show w.heap.size≤W5.heap.size from(HO9.out.2.then_ hk5).size);clear ho5 hk5 kb rb HO9 hN
    go_wp2_with (at_builtin;refine Hid.out ?_)
    refine zh ?_;refine wpList_append_bytes _ rfl (.tmp 55) (.tmp 56) rfl w.heap.size (.slice (some ⟨W5.heap.size,0,none⟩) 1 1) (.slice A5 N.length c5) [y0] N rfl rfl (own_base HA.out.2.1 HS5.out) HA.out.2.2.1 (by have:=HNL.out;simp;omega) (Nat.le_trans HS5.out hbs) ?_;intro A6 c6 w6 l6 E6 hl6 ho6 hk6 hb6;have HB:=zh (And.intro ho6 (And.intro (Owned.bytes (own_keep HA.out.2.2.2.1 hk6 (fun g hg hm=>by have:=(owned_lt HA.out.1 g hg).2;simp[Value.ownBlock]at hm;omega)) (by have:=HLB.out;omega)) (HA.out.2.2.2.2.trans hk6 (fun y hy hlt=>by have:=HS5.out;simp[Value.ownBlock]at hy;omega))));have hbs6:w.heap.size≤w6.heap.size:=HB.out.2.2.size;clear ho6 hk6 hb6 hbs hWb
    go_wp2_with (at_builtin;refine Hid.out ?_)
    refine zh ?_;refine wpList_append_bytes _ rfl (.tmp 57) (.tmp 58) rfl w.heap.size (.slice A6 l6.length c6) (.slice A9 BD.length c9) l6 BD rfl rfl HB.out.1 HB.out.2.1 (by have:=HNL.out;have:=HLB.out;simp at hl6;omega) hbs6 ?_;intro A7 c7 w7 l7 E7 hl7 ho7 hk7 hb7;have HK7:=zh (HB.out.2.2.trans hk7 (fun y hy hlt=>by have:=(owned_lt HB.out.1 y (by simpa using hy)).1;omega));have HO7:=zh ho7;clear ho7 hk7 hb7 hbs6
    go_wp2_with fail
    refine HPO.out _ _ _ rfl ?_ HK7.out;rw[←E6.out,←E7.out];exact HO7.out
   ·have HCW:=zh hcw
    clear hcw;refine wp_region_lit ?_;refine wpList_val (.pointer (some ⟨B3,3,none⟩)) rfl (by kernel_rfl) ?_;refine wpList_loadc 53 (.tmp 35) ⟨B3,3,none⟩ (.func (.func i6) #[] g6) rfl rfl (by kernel_rfl) (fun _=>by kernel_rfl) ((HRC.out.cell 3).trans (by kernel_rfl)) ?_;refine wpList_val (.bool true) rfl (by kernel_rfl) ?_;simp only[Act.put,zsa,zsc,zsz]
    go_upto_region 10 with fail
    refine wp_region_lit ?_;refine wpList_val (.pointer (some ⟨B3,3,none⟩)) rfl (by kernel_rfl) ?_;refine wpList_loadc 53 (.tmp 38) ⟨B3,3,none⟩ (.func (.func i6) #[] g6) rfl rfl (by kernel_rfl) (fun _=>by kernel_rfl) ((HRC.out.cell 3).trans (by kernel_rfl)) ?_;refine wpList_val (.pointer (some ⟨r4,0,none⟩)) rfl (by kernel_rfl) ?_;refine wpList_load_mid rfl 29 (.tmp 1) rfl w.heap.size 0 (by kernel_rfl) (zL k dup ret q t b id c cl keep hw wt wb wq wr hu hp u pw pr code sw sc sf) _ (range_row HPC.out) Tryz.underlying29 rfl (by kernel_rfl) ?_;refine wpList_callv i6 g6 #[.pointer (some ⟨r4,0,none⟩),.agg (zP k dup ret q t b id c cl keep hw wt wb wq wr hu hp u pw pr code sw sc sf)] rfl rfl hr (by kernel_rfl) ?_;refine(HCW.out WN WC r4 HKK.out HKN5.out.1 HWT.out).mono ?_;rintro e W ⟨rfl,ha,hg⟩;refine .inl ⟨_,rfl, ?_⟩;have HWT:=zh ha;have HPC:=zh (hg _ _ _ HPC.out (by decide) (by decide));have HKC:=zh (HKN5.out.1.then_ ha.k);clear ha hg hr HCW HKK HRC;obtain⟨WC,hWC⟩:∃WC,WC=W:=⟨_,rfl⟩;subst hWC;simp only[Act.put,zsa,zsc,zsz]
    go_upto_region 11 with fail
    obtain⟨BD,hBD⟩:∃BD,WB++b=BD:=⟨_,rfl⟩;have HBD:=zh (And.intro hBD (show(WB).length≤5000∧b.length≤5000 by have:=HLN.out;rw[List.length_append]at this;first | omega | (simp only[List.length_nil]at this ⊢;omega)));have HLB:=zh (show BD.length≤5000 by rw[←hBD];exact HLN.out);rw[hBD]at HPO;clear hBD HLN;have LH:=LightK.one (Ws:= [⟨4, [0,1,2,3], []⟩]) (i:=4) (keepIf_ok w) keeps_ok;refine wp_region_writersL [⟨4, [0,1,2,3], []⟩] (fun W W' =>Keeps w W []→Keeps w W' []) (oneA 4 (fun W W' =>Keeps W W' [])) _ 5 LH (by kernel_rfl) rfl (by kernel_rfl) ?_;simp only[zts,ztz,zds,zdz];apply loosek_is 0 _ rfl
    ·intro W vals hW hkn
     clear hkn;have hC:=hW.c;refine⟨?_⟩;simp only[fill];go_simp
     first | exact⟨LH.stp (Keeps.refl _ _),rfl⟩ | exact⟨LH.stp (Keeps.alloc _ _),rfl⟩
    simp only[addEnt];refine loosek_has 1 (fun v W' =>Owned W' w.heap.size v (WB)) rfl (fun W vals hW hkn φ' hφ=> ?_) ?_
    ·have hC:=hW.c
     simp only[knowsK]at hkn
     try simp only[and_true]at hkn
     (have hkp:=PreK.one hW (.inr (show(1:Nat)∈ [0,1,2,3]by decide));have hwt:=HWT.out.keeps hkp;obtain⟨vw,hvw⟩:=hwt.v;clear hkn)
     refine⟨?_⟩;simp only[fill];go_simp;exact loosek_calls_has LH hφ ((wrBytes_any _ _ _ _ _ hvw (by have:=HBD.out.2.1;omega)).mono (by rintro e w2 ⟨v',rfl,ho,hk⟩;exact⟨v',rfl,hk,own_base ho (by have:=(HKC.out.then_ hkp).size;omega)⟩))
    simp only[addEnt];apply loosek_is 2 _ rfl
    ·intro W vals hW hkn
     clear hkn;have hC:=hW.c;refine⟨?_⟩;simp only[fill];go_simp
     first | exact⟨LH.stp (Keeps.refl _ _),rfl⟩ | exact⟨LH.stp (Keeps.alloc _ _),rfl⟩
    simp only[addEnt];apply loosek_is 3 _ rfl
    ·intro W vals hW hkn
     have hC:=hW.c;simp only[knowsK]at hkn
     try simp only[and_true]at hkn
     have m5:=((HPC.out.keeps (PreK.one hW (.inr (show(3:Nat)∈ [0,1,2,3]by decide)))).cell 5);simp only[zga,zgz,zgs]at m5;clear hkn;refine⟨?_⟩;simp only[fill];go_simp
     first | exact⟨LH.stp (Keeps.refl _ _),rfl⟩ | exact⟨LH.stp (Keeps.alloc _ _),rfl⟩
    simp only[addEnt];refine loosek_has 4 (fun v W' =>∃A c,v= .slice A BD.length c∧Owned W' w.heap.size v BD) rfl (fun W vals hW hkn φ' hφ=> ?_) ?_
    ·simp only[knowsK]at hkn
     try simp only[and_true]at hkn
     obtain⟨W4,a0,a1,how⟩:=hkn (by decide);have how:=own_keep how (BtwK.one a1 (.inr (.inr (.inl rfl)))) (by simp);refine opOk_append_str rfl (.tmp 44) (.tmp 46) rfl w.heap.size (vals 44) (WB) b (show _=vals 44 by kernel_rfl) how (by kernel_rfl) (by have:=HBD.out.2;omega) (hW.c HKC.out).size (fun v' w' ho hk=> ?_);rw[HBD.out.1]at ho;obtain⟨A,c,rfl,_,_⟩:=own_slice ho;exact⟨.one (fun hh=>hh.trans hk (fun y hy hlt=>by have:=(how.lt y (by simpa using hy)).1;omega)) (fun h=>absurd rfl h),hφ.out _ _ ⟨A,c,rfl,ho⟩⟩
    simp only[addEnt];refine loosek_nil (fun W9 vals hW hkn=> ?_);simp only[knowsAllK]at hkn
    try simp only[and_true]at hkn
    simp only[fill,Act.put,zsa,zsc,zsz];obtain⟨⟨_,a0,a1,A9,c9,hv9,ho9⟩,hrest⟩:=hkn;have ho9:=own_keep ho9 (PostK.one a1 (.inl rfl)) (by simp);rw[hv9]at ho9 ⊢
    have HO9:=zh (And.intro ho9 (hW HKC.out));clear a0 a1 hv9 ho9 hrest hW LH HKC HWT HPC HKN5 HBD
    go_wp2_with fail
    refine(lnRaw_any _ BD.length (by have:=HLB.out;omega)).mono ?_;rintro e W5 ⟨v5,rfl,ho5,hk5⟩;obtain⟨N,hN⟩:∃N,lnRaw BD.length=N:=⟨_,rfl⟩;have HNL:=zh (show N.length≤8 by rw[←hN,lnRaw_length];have:=lnSize_le BD.length;omega);rw[hN]at ho5 HPO;obtain⟨A5,c5,rfl,_,_⟩:=own_slice ho5;obtain⟨Wb,hWb⟩:∃Wb,W5.alloc (.cells #[.int .u8 (y0.toNat:Nat)] 5)=Wb:=⟨_,rfl⟩;have kb:Keeps W5 Wb []:=by rw[←hWb];exact Keeps.alloc _ _
    have rb:Owned Wb W5.heap.size (.slice (some ⟨W5.heap.size,0,none⟩) 1 1) [y0]:=by rw[←hWb];exact raw_one W5 y0
    have HA:=zh (And.intro (own_keep HO9.out.1 hk5 (by simp)) (And.intro rb (And.intro (Owned.bytes (own_keep ho5 kb (by simp)) (by have:=HNL.out;omega)) (And.intro (own_keep (own_keep HO9.out.1 hk5 (by simp)) kb (by simp)) ((HO9.out.2.then_ hk5).then_ kb)))));have hbs:W5.heap.size≤Wb.heap.size:=kb.size;have HS5:=zh (show w.heap.size≤W5.heap.size from(HO9.out.2.then_ hk5).size);clear ho5 hk5 kb rb HO9 hN
    go_wp2_with (at_builtin;refine Hid.out ?_)
    refine zh ?_;refine wpList_append_bytes _ rfl (.tmp 55) (.tmp 56) rfl w.heap.size (.slice (some ⟨W5.heap.size,0,none⟩) 1 1) (.slice A5 N.length c5) [y0] N rfl rfl (own_base HA.out.2.1 HS5.out) HA.out.2.2.1 (by have:=HNL.out;simp;omega) (Nat.le_trans HS5.out hbs) ?_;intro A6 c6 w6 l6 E6 hl6 ho6 hk6 hb6;have HB:=zh (And.intro ho6 (And.intro (Owned.bytes (own_keep HA.out.2.2.2.1 hk6 (fun g hg hm=>by have:=(owned_lt HA.out.1 g hg).2;simp[Value.ownBlock]at hm;omega)) (by have:=HLB.out;omega)) (HA.out.2.2.2.2.trans hk6 (fun y hy hlt=>by have:=HS5.out;simp[Value.ownBlock]at hy;omega))));have hbs6:w.heap.size≤w6.heap.size:=HB.out.2.2.size;clear ho6 hk6 hb6 hbs hWb
    go_wp2_with (at_builtin;refine Hid.out ?_)
    refine zh ?_;refine wpList_append_bytes _ rfl (.tmp 57) (.tmp 58) rfl w.heap.size (.slice A6 l6.length c6) (.slice A9 BD.length c9) l6 BD rfl rfl HB.out.1 HB.out.2.1 (by have:=HNL.out;have:=HLB.out;simp at hl6;omega) hbs6 ?_;intro A7 c7 w7 l7 E7 hl7 ho7 hk7 hb7;have HK7:=zh (HB.out.2.2.trans hk7 (fun y hy hlt=>by have:=(owned_lt HB.out.1 y (by simpa using hy)).1;omega));have HO7:=zh ho7;clear ho7 hk7 hb7 hbs6
    go_wp2_with fail
    refine HPO.out _ _ _ rfl ?_ HK7.out;rw[←E6.out,←E7.out];exact HO7.out
end Go.Proofs.YtahbikfbjenfpaaGreatDoor

namespace Go.Proofs.YtahbikfbjenfpaaGreatDoor
open Go.RowKit Go.Shelf

abbrev pkZC:Array Value:=zP0
set_option maxRecDepth 100000 in
set_option maxHeartbeats 1000000 in
theorem pkCatch_idle (p q:Addr)(w:World):
  CallsD Tryz.prog 29 #[.pointer (some p),.pointer (some q)] .returning w fun e u' w' =>e= .returned (.tuple #[])∧u' = .returning∧w' =w:=by
 refine callsD_of_wpS Tryz.func29 rfl fun c₀ cs hu=> ?_
 apply wpS_seq;apply wpS_region;simp[wpOpsS,go_sem,recoverD,hu,Tryz.ntmps29,Exit.thenS];refine wpS_of_wp ?_
 go_wp2
 cases c₀
 simp_all [bodyPostS,results,Tryz.results29]

set_option maxRecDepth 100000 in
set_option maxHeartbeats 2000000 in
theorem pkCatch_stop (b1 b2:Nat)(w:World)(Y:Array Value)(v2:Value)(hY:Y.size=24)(h1:Row w b1 29 Y)(h2:Row w b2 33 #[v2]):
  CallsD Tryz.prog 29 #[.pointer (some ⟨b1,0,none⟩),.pointer (some ⟨b2,0,none⟩)] (.panicking [{v:= .iface 67 (.agg #[]),recovered:=false}]) w fun e u' w' =>
   e= .returned (.tuple #[])∧u' = .panicking [{v:= .iface 67 (.agg #[]),recovered:=true}]∧Row w' b1 29 pkZC∧Row w' b2 33 #[.int .i64 260]∧Keeps w w' [b1,b2]:=by
 refine callsD_of_wpS Tryz.func29 rfl fun c₀ cs hu=> ?_
 apply wpS_seq;apply wpS_region;simp[wpOpsS,go_sem,recoverD,hu,Tryz.ntmps29,Exit.thenS];refine wpS_of_wp ?_;have hta:∀W:World,(Instr.typeAssert (.iface 67 (.agg #[])) 20 67 true).run Tryz.prog W= .ok (.tuple #[.agg #[],.bool true]) W:=fun W=>by kernel_rfl
 have n12:b1≠b2:=h1.ne_type h2 (by decide);have a1:=h1.alloc (.cells #[] 67);have a2:=h2.alloc (.cells #[] 67);obtain⟨Wa,hWa⟩:∃Wa,w.alloc (.cells #[] 67)=Wa:=⟨_,rfl⟩;have ka:Keeps w Wa []:=by rw[←hWa];exact Keeps.alloc _ _
 rw[hWa]at a1 a2;have HH:=zh (And.intro a1 (And.intro a2 (And.intro ka n12)));clear a1 a2 ka n12 h1 h2;rw[show(#[Value.pointer (some ⟨b1,0,none⟩),Value.pointer (some ⟨b2,0,none⟩)]++((Array.replicate 10 undef).setIfInBounds 3 (Value.iface 67 (Value.agg #[]))):Array Value)= #[Value.pointer (some ⟨b1,0,none⟩),Value.pointer (some ⟨b2,0,none⟩),undef,undef,undef,Value.iface 67 (Value.agg #[]),undef,undef,undef,undef,undef,undef]from rfl]
 go_upto_region 7 with fail
 try rw[hWa]
 clear hWa;refine wp_region_lit ?_;refine wpList_val (.agg pkZC) rfl (by kernel_rfl) ?_;refine wpList_store_row rfl (.tmp 0) (.tmp 11) 29 rfl b1 pkZC Y HH.out.1 (by kernel_rfl) (by rw[hY];rfl) (by simp[Value.oneCell']) rfl rfl ?_;intro w7 r7 k7;simp only[Act.put,zsa,zsc,zsz];have q2:=HH.out.2.1.keep k7 (by have:=HH.out.2.2.2;simp;omega);have c2:=q2.cell 0;have f2:=q2.frozen 0;simp only[zga,zgz]at c2;have H7:=zh (And.intro r7 (And.intro q2 ((HH.out.2.2.1.weaken (T:= [b1]) (by simp)).trans k7 (fun _ h _=>h))));clear r7 k7 q2
 go_wp2_with fail
 have z1:=H7.out.1.far (p:=⟨b2,0,none⟩) HH.out.2.2.2 (.int .i64 260);have z2:=H7.out.2.1.store 0 (.int .i64 260);have hk:Keeps w (w7.setCell ⟨b2,0,none⟩ (.int .i64 260)) [b1,b2]:=
  (H7.out.2.2.weaken (T:= [b1,b2]) (by simp)).trans (Keeps.setCell _ _ _) (by simp)
 simp[bodyPostS,results,Tryz.results29];exact⟨by simpa using z1,by simpa using z2,hk⟩
/-- The two results' cells, and that nothing else that lay was changed. -/
structure PsSt (w W:World)(B:Nat)(cs:Array Value)(e:Value):Prop where
 k:Keeps w W []
 r1:Row W B 29 cs
 r2:Row W (B+1) 33 #[e]
 hB:w.heap.size≤B
 sz:cs.size=24
section
variable {w W W' :World} {B:Nat} {cs:Array Value} {e:Value}
theorem PsSt.go (h:PsSt w W B cs e)(hk:Keeps W W' []):PsSt w W' B cs e:=⟨h.k.then_ hk,h.r1.keeps hk,h.r2.keeps hk,h.hB,h.sz⟩
theorem PsSt.goR {r:Nat}(h:PsSt w W B cs e)(hk:Keeps W W' [r])(hr:B+1 < r):PsSt w W' B cs e:=
 ⟨h.k.trans hk (fun x hx hlt=>by have:=h.hB;simp at hx;omega),h.r1.keep hk (by simp;omega),h.r2.keep hk (by simp;omega),h.hB,h.sz⟩
theorem PsSt.err (h:PsSt w W B cs e)(v:Value):PsSt w (W.setCell ⟨B+1,0,none⟩ v) B cs v∧Keeps W (W.setCell ⟨B+1,0,none⟩ v) [B+1]:=by
 have hk:Keeps W (W.setCell ⟨B+1,0,none⟩ v) [B+1]:=Keeps.setCell _ _ _;exact⟨⟨h.k.trans hk (fun x hx hlt=>by have:=h.hB;simp at hx;omega),h.r1.keep hk (by simp),by simpa using h.r2.store 0 v,h.hB,h.sz⟩,hk⟩
theorem PsSt.put (h:PsSt w W B cs e){X:Array Value}(hk:Keeps W W' [B])(hr:Row W' B 29 X)(hX:X.size=24):PsSt w W' B X e:=
 ⟨h.k.trans hk (fun x hx hlt=>by have:=h.hB;simp at hx;omega),hr,h.r2.keep hk (by simp),h.hB,hX⟩
end
abbrev psDefer (B:Nat):Deferred:={target:=Target.fn (Fn.func 29) #[.pointer (some ⟨B,0,none⟩),.pointer (some ⟨B+1,0,none⟩)],args:= #[]}
/-- What Parse answers. -/
def PsPost (w:World)(b:List UInt8)(e:Ending)(w' :World):Prop:=Keeps w w' []∧
 ((∃p sw sc sf,PkIs b p∧e= .returned (.tuple #[pkV p sw sc sf,.int .i64 0])∧PkT w' p sw sc sf)∨((∀p,¬PkIs b p)∧e= .returned (.tuple #[.agg pkZC,.int .i64 260])))

set_option maxRecDepth 100000 in
theorem ps_results (W:World)(t:Array Value)(B:Nat){cs:Array Value}{e:Value}(hs:cs.size=24)(q1:Row W B 29 cs)(q2:Row W (B+1) 33 #[e])(h6:t.getD 2 undef= .pointer (some ⟨B,0,none⟩))(h7:t.getD 3 undef= .pointer (some ⟨B+1,0,none⟩)):
  (results Tryz.f14 t).run Tryz.prog W= .ok (.tuple #[.agg cs,e]) W:=by
 have hl1:(loadVar 29 ⟨B,0,none⟩).run Tryz.prog W= .ok (.agg cs) W:=by
  have:=run_loadVar_mid (P:=Tryz.prog) W B 0 29 cs.toList _ (range_row q1) Tryz.underlying29 rfl (by rw[Array.length_toList,hs];kernel_rfl)
  simpa using this
 have c2:=q2.cell 0;simp only[zga,zgz]at c2;have hl2:(loadVar 33 ⟨B+1,0,none⟩).run Tryz.prog W= .ok e W:=by
  have ht:∀W,(isAgg 33).run Tryz.prog W= .ok false W:=fun _=>by kernel_rfl
  simp[loadVar,ht,go_sem,c2]
 have hr:Tryz.f14.results= #[ResultVar.cell 2 29,ResultVar.cell 3 33]:=Tryz.results14;rw[Array.getD_eq_getD_getElem?]at h6 h7;unfold results;rw[hr];simp[h6,h7,asAddr,hl1,hl2]
set_option maxRecDepth 100000 in
set_option maxHeartbeats 2000000 in
theorem ps_dies {b:List UInt8}{w:World}(W:World)(t:Array Value)(B:Nat){cs:Array Value}{e:Value}(st:PsSt w W B cs e)(hno:∀p,¬PkIs b p)(h6:t.getD 2 undef= .pointer (some ⟨B,0,none⟩))(h7:t.getD 3 undef= .pointer (some ⟨B+1,0,none⟩)):
  bodyPostD Tryz.prog Tryz.f14 (PsPost w b) (Exit.panic [{v:= .iface 67 (.agg #[]),recovered:=false}]) {tmps:=t,defers:= [psDefer B]} W:=by
 refine leaves_cons (f:=29) (args:= #[.pointer (some ⟨B,0,none⟩),.pointer (some ⟨B+1,0,none⟩)]) (by simp) (by simp[go_sem]) ?_;refine(pkCatch_stop B (B+1) W cs e st.sz st.r1 st.r2).mono ?_;rintro e u' w'' ⟨rfl,rfl,q1,q2,hk⟩;have hres:=ps_results w'' t B rfl q1 q2 h6 h7;simp[Leaves,settle,hres];exact⟨st.k.trans hk (fun x hx hlt=>by have:=st.hB;simp at hx;omega),.inr ⟨hno,rfl⟩⟩
set_option maxRecDepth 100000 in
set_option maxHeartbeats 2000000 in
theorem ps_ends {b:List UInt8}{w:World}(W:World)(t:Array Value)(B:Nat){p:Pk}{sw sc sf:Value}{cs:Array Value}(hcs:Value.agg cs=pkV p sw sc sf)(st:PsSt w W B cs (.int .i64 0))(hl:PkT W p sw sc sf)(his:PkIs b p)(h6:t.getD 2 undef= .pointer (some ⟨B,0,none⟩))(h7:t.getD 3 undef= .pointer (some ⟨B+1,0,none⟩)):
  bodyPostD Tryz.prog Tryz.f14 (PsPost w b) Exit.ret {tmps:=t,defers:= [psDefer B]} W:=by
 have hres:=ps_results W t B st.sz st.r1 st.r2 h6 h7;refine leaves_cons (f:=29) (args:= #[.pointer (some ⟨B,0,none⟩),.pointer (some ⟨B+1,0,none⟩)]) (by simp) (by simp[go_sem]) ?_;refine(pkCatch_idle _ _ W).mono ?_;rintro e u' w'' ⟨rfl,rfl,rfl⟩;simp[Leaves,settle,hres];exact⟨st.k,.inl ⟨p,sw,sc,sf,his,by rw[hcs],hl⟩⟩
end Go.Proofs.YtahbikfbjenfpaaGreatDoor
