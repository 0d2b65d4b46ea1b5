/- Law 14: does. Law 14: same. Law 14: MatchPlay. -/
import Derived.Test.YtoadlafdeoklbaaGreatDoorPa50
import Derived.Test.YtoadlafdeoklbaaGreatDoorPa35
import Derived.Test.YtoadlafdeoklbaaGreatDoorPa52
import Derived.Test.YtoadlafdeoklbaaGreatDoorPa32
import Derived.Test.YtoadlafdeoklbaaGreatDoorPa43
import Derived.Test.YtoadlafdeoklbaaGreatDoorPa17
import Derived.Test.YtoadlafdeoklbaaGreatDoorPa47

namespace Go.Proofs.YtoadlafdeoklbaaGreatDoor
open Go.RowKit Go.Maps Go.Shelf

/-- The entries behind a call. -/
def mtDo (L:List Sb)(x:Int×Sb):List Sb:=if x.1=1 then(mtSetA L x.2).1 else if x.1=2 then(mtDropA L x.2.f x.2.c).1 else if x.1=3 then(mtLeaveA L x.2.c).1 else L
/-- A book, and what stands beside it. -/
structure BkOps (w:World)(d:Nat)(B:World→List Sb→Prop):Prop where
 bk:∀{W L},B W L→BkIn w W d L
 keeps:∀{W W' L},B W L→Keeps W W' []→B W' L
 set:∀{W L},B W L→∀s:Sb,s.f.length≤50000→s.c.length≤50000→Calls Tryz.prog 12 #[ptr0 d,sbV s] W fun e w' =>e= .returned (.tuple #[.bool (mtSetA L s).2.1,.int .i64 (mtSetA L s).2.2])∧B w' (mtSetA L s).1∧Else W w'
 drop:∀{W L},B W L→∀f c:List UInt8,f.length≤50000→c.length≤50000→Calls Tryz.prog 19 #[ptr0 d,.string ⟨f.toArray⟩,.string ⟨c.toArray⟩] W fun e w' =>e= .returned (.tuple #[.bool (mtDropA L f c).2.1,.int .i64 (mtDropA L f c).2.2])∧B w' (mtDropA L f c).1∧Else W w'
 leave:∀{W L},B W L→∀c:List UInt8,c.length≤50000→Calls Tryz.prog 27 #[ptr0 d,.string ⟨c.toArray⟩] W fun e w' =>e= .returned (.tuple #[.int .i64 ((mtLeaveA L c).2.1:Nat),.int .i64 (mtLeaveA L c).2.2])∧B w' (mtLeaveA L c).1∧Else W w'
theorem bkOps_one {w:World}(hm:MaxL w)(d:Nat):BkOps w d fun W L=>BkIn w W d L:=
 ⟨fun h=>h,fun h hk=>h.keeps hk,fun h s hs hc=>h.set hm s hs hc,fun h f c hf hc=>h.drop hm f c hf hc,fun h c hc=>h.leave hm c hc⟩
def DoPost (B:World→List Sb→Prop)(W:World)(L:List Sb)(x:Int×Sb)(e:Ending)(w' :World):Prop:=∃v,e= .returned (.tuple #[v,.bool true])∧B w' (mtDo L x)∧LsAt w' v (mtDo L x)∧Else W w'
theorem wpList_goes {P:Program}{ops:Array Oper}{rest:List Oper}{o:Oper}{a:Act}{Q:Exit→Act→World→Prop}{w:World}(v:Value)(w' :World)(hg:o.guard=none)(h:(execOp a.eval o).run P w= .ok (.value v) w')(hk:wpList P ops Q rest (a.put o.dst v) w'):wpList P ops Q (o::rest) a w:=
 wpList_plain hg fun K hK=>by unfold Oper.wp;rw[h];exact hK _ _ hk
set_option maxRecDepth 100000 in
set_option maxHeartbeats 4000000 in
theorem does1_any (w W0:World)(d:Nat)(v:Value)(L:List Sb)(s:Sb){B:World→List Sb→Prop}(BO:BkOps w d B)(hb:B W0 L)(hv:LsAt W0 v L)(hf:s.f.length≤300)(hc:s.c.length≤300):
  Calls Tryz.prog 20 #[ptr0 d,v,.agg #[.int .i64 1,.string ⟨s.f.toArray⟩,.string ⟨s.c.toArray⟩,.int .i64 s.q]] W0 (DoPost B W0 L (1,s)):=by
 have HB0:=zh hb;have HBO:=zh BO;have HV0:=zh hv;have HSF:=zh (fun(W:World) (hb:B W L)=>BO.set hb s (by omega) (by omega));have HRF:=zh (fun(W:World) (hv:LsAt W v L)=>rfSet_any W v L s hv (BO.bk hb).ok.up (by have:=(BO.bk hb).ok.le;omega) (by omega) (by omega));obtain⟨⟨L',y,z⟩,hA⟩:∃x,mtSetA L s=x:=⟨_,rfl⟩;have HDO:=zh (show mtDo L (1,s)=L' by unfold mtDo;rw[if_pos rfl,hA]);rw[hA]at HSF HRF;clear hA;obtain⟨A,cap,rfl,hla,hcap⟩:=hv;obtain⟨F,hF⟩:∃S:ByteArray,(⟨s.f.toArray⟩:ByteArray)=S:=⟨_,rfl⟩;obtain⟨C,hC⟩:∃S:ByteArray,(⟨s.c.toArray⟩:ByteArray)=S:=⟨_,rfl⟩;obtain⟨q,hq⟩:∃q,s.q=q:=⟨_,rfl⟩
 try unfold sbV at HSF HRF
 try simp only[hF,hC,hq]at HSF HRF
 try simp only[hF]at HNA
 rw[hF,hC,hq];obtain⟨W1,hW1⟩:∃W1,W0.alloc (.cells #[.int .i64 1,.string F,.string C,.int .i64 q] 27)=W1:=⟨_,rfl⟩;have HR1:=zh (show Row W1 W0.heap.size 27 #[.int .i64 1,.string F,.string C,.int .i64 q]by rw[←hW1];exact Row.new _ _ _);obtain⟨W2,hW2⟩:∃W2,W1.alloc (.cells #[.string ⟨#[]⟩,.string ⟨#[]⟩,.int .i64 0] 25)=W2:=⟨_,rfl⟩;have HR2:=zh (show Row W2 W1.heap.size 25 #[.string ⟨#[]⟩,.string ⟨#[]⟩,.int .i64 0]by rw[←hW2];exact Row.new _ _ _);have HK2:=zh (show Keeps W0 W1 []∧Keeps W1 W2 []from⟨by rw[←hW1];exact Keeps.alloc _ _,by rw[←hW2];exact Keeps.alloc _ _⟩)
 try clear hm
 clear hb BO hla hcap hF hC hq
 try clear hf
 try clear hc
 go_enter Tryz.func20,Tryz.ntmps20
 go_upto_region 1 with fail
 obtain⟨bx,hbx⟩:∃b,W0.heap.size=b:=⟨_,rfl⟩
 try rw[hW1]
 rw[hbx]at HR1;simp only[hbx];refine wp_region_lit ?_;refine wpList_val (.pointer (some ⟨bx,1,none⟩)) rfl (by kernel_rfl) ?_;refine wpList_loadg (by kernel_rfl) 25 (.tmp 26) rfl bx 1 (by kernel_rfl) [.string F,.string C,.int .i64 q] _ (fun i v hv=>by
  have h:=HR1.out.cell (1+i);rw[h,Nat.add_comm,zga,zgs];exact hv) Tryz.underlying25 rfl (by kernel_rfl) ?_
 refine wpList_goes (.pointer (some ⟨W1.heap.size,0,none⟩)) W2 rfl (by rw[←hW2];kernel_rfl) ?_;refine wpList_store_row rfl (.tmp 8) (.tmp 27) 25 rfl W1.heap.size #[.string F,.string C,.int .i64 q] _ HR2.out (by kernel_rfl) rfl (by kernel_rfl) (by kernel_rfl) (by kernel_rfl) ?_;intro W3 hr3 hk3;simp only[Act.put,zsa,zsc,zsz];have HK3:=zh (show Keeps W0 W3 []from(HK2.out.1.then_ HK2.out.2).trans hk3 (fun y hy hlt=>by
  rw[List.mem_singleton.1 hy]at hlt;have:=HK2.out.1.size;omega))
 have HR13:=zh (show Row W3 bx 27 #[.int .i64 1,.string F,.string C,.int .i64 q]from(HR1.out.keeps HK2.out.2).keep hk3 (fun e=>by
  have h1:=HR1.out.lt;rw[List.mem_singleton.1 e]at h1;omega))
 have HR3:=zh hr3;obtain⟨bs,hbs⟩:∃b,W1.heap.size=b:=⟨_,rfl⟩;rw[hbs]at HR3;simp only[hbs];have r0:=HR13.out.cell 0;have s0:=HR3.out.cell 0;have s1:=HR3.out.cell 1;have s2:=HR3.out.cell 2;simp only[zga,zgz,zgs]at r0 s0 s1 s2;clear hr3 hk3 HR13 HR1 HR2 HK2 hW1 hW2 hbx hbs
 go_wp2_with fail
 refine(HSF.out W3 (HBO.out.keeps HB0.out HK3.out)).mono ?_;rintro e w4 ⟨rfl,hb4,he4⟩;have HB4:=zh hb4;have HE4:=zh he4;have HV4:=zh (show LsAt w4 (.slice A L.length cap) L from by
  obtain⟨A',c',e,h1,h2⟩:=HV0.out.keeps HK3.out;exact⟨A',c',e,HE4.out.list h1 (by decide) (by decide),h2⟩)
 have HR4:=zh (HE4.out _ _ _ HR3.out (by decide) (by decide));clear r0 s0 s1 s2 HSF hb4 he4;have s0:=HR4.out.cell 0;have s1:=HR4.out.cell 1;have s2:=HR4.out.cell 2;simp only[zga,zgz,zgs]at s0 s1 s2
 go_wp2_with fail
 refine(HRF.out w4 HV4.out).mono ?_;rintro e w5 ⟨hk5,v5,rfl,hv5⟩;have HK5:=zh hk5;have HV5:=zh hv5;clear hk5 hv5 s0 s1 s2 HRF HV4 HR4
 try unfold ansV
 try simp only
 go_wp2_with fail
 go_ret2
 exact⟨v5,rfl,by rw[HDO.out];exact HBO.out.keeps HB4.out HK5.out,by rw[HDO.out];exact HV5.out,fun g t cs hr h1 h2=>(HE4.out _ _ _ (hr.keeps HK3.out) h1 h2).keeps HK5.out⟩
set_option maxRecDepth 100000 in
set_option maxHeartbeats 4000000 in
theorem does2_any (w W0:World)(d:Nat)(v:Value)(L:List Sb)(s:Sb){B:World→List Sb→Prop}(BO:BkOps w d B)(hb:B W0 L)(hv:LsAt W0 v L)(hf:s.f.length≤300)(hc:s.c.length≤300):
  Calls Tryz.prog 20 #[ptr0 d,v,.agg #[.int .i64 2,.string ⟨s.f.toArray⟩,.string ⟨s.c.toArray⟩,.int .i64 s.q]] W0 (DoPost B W0 L (2,s)):=by
 have HB0:=zh hb;have HBO:=zh BO;have HV0:=zh hv;have HSF:=zh (fun(W:World) (hb:B W L)=>BO.drop hb s.f s.c (by omega) (by omega));have HRF:=zh (fun(W:World) (hv:LsAt W v L)=>rfDrop_any W v L s.f s.c hv (BO.bk hb).ok.up (by have:=(BO.bk hb).ok.le;omega) (by omega) (by omega));obtain⟨⟨L',y,z⟩,hA⟩:∃x,mtDropA L s.f s.c=x:=⟨_,rfl⟩;have HDO:=zh (show mtDo L (2,s)=L' by unfold mtDo;rw[if_neg (show¬((2:Int)=1)by decide),if_pos rfl,hA]);rw[hA]at HSF HRF;clear hA;obtain⟨A,cap,rfl,hla,hcap⟩:=hv;obtain⟨F,hF⟩:∃S:ByteArray,(⟨s.f.toArray⟩:ByteArray)=S:=⟨_,rfl⟩;obtain⟨C,hC⟩:∃S:ByteArray,(⟨s.c.toArray⟩:ByteArray)=S:=⟨_,rfl⟩;obtain⟨q,hq⟩:∃q,s.q=q:=⟨_,rfl⟩
 try unfold sbV at HSF HRF
 try simp only[hF,hC]at HSF HRF
 try simp only[hF]at HNA
 rw[hF,hC,hq];obtain⟨W1,hW1⟩:∃W1,W0.alloc (.cells #[.int .i64 2,.string F,.string C,.int .i64 q] 27)=W1:=⟨_,rfl⟩;have HR1:=zh (show Row W1 W0.heap.size 27 #[.int .i64 2,.string F,.string C,.int .i64 q]by rw[←hW1];exact Row.new _ _ _);obtain⟨W2,hW2⟩:∃W2,W1.alloc (.cells #[.string ⟨#[]⟩,.string ⟨#[]⟩,.int .i64 0] 25)=W2:=⟨_,rfl⟩;have HR2:=zh (show Row W2 W1.heap.size 25 #[.string ⟨#[]⟩,.string ⟨#[]⟩,.int .i64 0]by rw[←hW2];exact Row.new _ _ _);have HK2:=zh (show Keeps W0 W1 []∧Keeps W1 W2 []from⟨by rw[←hW1];exact Keeps.alloc _ _,by rw[←hW2];exact Keeps.alloc _ _⟩)
 try clear hm
 clear hb BO hla hcap hF hC hq
 try clear hf
 try clear hc
 go_enter Tryz.func20,Tryz.ntmps20
 go_upto_region 1 with fail
 obtain⟨bx,hbx⟩:∃b,W0.heap.size=b:=⟨_,rfl⟩
 try rw[hW1]
 rw[hbx]at HR1;simp only[hbx];refine wp_region_lit ?_;refine wpList_val (.pointer (some ⟨bx,1,none⟩)) rfl (by kernel_rfl) ?_;refine wpList_loadg (by kernel_rfl) 25 (.tmp 26) rfl bx 1 (by kernel_rfl) [.string F,.string C,.int .i64 q] _ (fun i v hv=>by
  have h:=HR1.out.cell (1+i);rw[h,Nat.add_comm,zga,zgs];exact hv) Tryz.underlying25 rfl (by kernel_rfl) ?_
 refine wpList_goes (.pointer (some ⟨W1.heap.size,0,none⟩)) W2 rfl (by rw[←hW2];kernel_rfl) ?_;refine wpList_store_row rfl (.tmp 8) (.tmp 27) 25 rfl W1.heap.size #[.string F,.string C,.int .i64 q] _ HR2.out (by kernel_rfl) rfl (by kernel_rfl) (by kernel_rfl) (by kernel_rfl) ?_;intro W3 hr3 hk3;simp only[Act.put,zsa,zsc,zsz];have HK3:=zh (show Keeps W0 W3 []from(HK2.out.1.then_ HK2.out.2).trans hk3 (fun y hy hlt=>by
  rw[List.mem_singleton.1 hy]at hlt;have:=HK2.out.1.size;omega))
 have HR13:=zh (show Row W3 bx 27 #[.int .i64 2,.string F,.string C,.int .i64 q]from(HR1.out.keeps HK2.out.2).keep hk3 (fun e=>by
  have h1:=HR1.out.lt;rw[List.mem_singleton.1 e]at h1;omega))
 have HR3:=zh hr3;obtain⟨bs,hbs⟩:∃b,W1.heap.size=b:=⟨_,rfl⟩;rw[hbs]at HR3;simp only[hbs];have r0:=HR13.out.cell 0;have s0:=HR3.out.cell 0;have s1:=HR3.out.cell 1;have s2:=HR3.out.cell 2;simp only[zga,zgz,zgs]at r0 s0 s1 s2;clear hr3 hk3 HR13 HR1 HR2 HK2 hW1 hW2 hbx hbs
 go_wp2_with fail
 refine(HSF.out W3 (HBO.out.keeps HB0.out HK3.out)).mono ?_;rintro e w4 ⟨rfl,hb4,he4⟩;have HB4:=zh hb4;have HE4:=zh he4;have HV4:=zh (show LsAt w4 (.slice A L.length cap) L from by
  obtain⟨A',c',e,h1,h2⟩:=HV0.out.keeps HK3.out;exact⟨A',c',e,HE4.out.list h1 (by decide) (by decide),h2⟩)
 have HR4:=zh (HE4.out _ _ _ HR3.out (by decide) (by decide));clear r0 s0 s1 s2 HSF hb4 he4;have s0:=HR4.out.cell 0;have s1:=HR4.out.cell 1;have s2:=HR4.out.cell 2;simp only[zga,zgz,zgs]at s0 s1 s2
 go_wp2_with fail
 refine(HRF.out w4 HV4.out).mono ?_;rintro e w5 ⟨hk5,v5,rfl,hv5⟩;have HK5:=zh hk5;have HV5:=zh hv5;clear hk5 hv5 s0 s1 s2 HRF HV4 HR4
 try unfold ansV
 try simp only
 go_wp2_with fail
 go_ret2
 exact⟨v5,rfl,by rw[HDO.out];exact HBO.out.keeps HB4.out HK5.out,by rw[HDO.out];exact HV5.out,fun g t cs hr h1 h2=>(HE4.out _ _ _ (hr.keeps HK3.out) h1 h2).keeps HK5.out⟩
set_option maxRecDepth 100000 in
set_option maxHeartbeats 4000000 in
theorem does3_any (w W0:World)(d:Nat)(v:Value)(L:List Sb)(s:Sb){B:World→List Sb→Prop}(BO:BkOps w d B)(hb:B W0 L)(hv:LsAt W0 v L)(hc:s.c.length≤300):
  Calls Tryz.prog 20 #[ptr0 d,v,.agg #[.int .i64 3,.string ⟨s.f.toArray⟩,.string ⟨s.c.toArray⟩,.int .i64 s.q]] W0 (DoPost B W0 L (3,s)):=by
 have HB0:=zh hb;have HBO:=zh BO;have HV0:=zh hv;have HSF:=zh (fun(W:World) (hb:B W L)=>BO.leave hb s.c (by omega));have HRF:=zh (fun(W:World) (hv:LsAt W v L)=>rfLeaveE_any W v L s.c hv (by have:=(BO.bk hb).ok.le;omega) (by omega));unfold RlPost at HRF;obtain⟨⟨L',y,z⟩,hA⟩:∃x,mtLeaveA L s.c=x:=⟨_,rfl⟩;have HDO:=zh (show mtDo L (3,s)=L' by unfold mtDo;rw[if_neg (show¬((3:Int)=1)by decide),if_neg (show¬((3:Int)=2)by decide),if_pos rfl,hA]);rw[hA]at HSF HRF;clear hA;obtain⟨A,cap,rfl,hla,hcap⟩:=hv;obtain⟨F,hF⟩:∃S:ByteArray,(⟨s.f.toArray⟩:ByteArray)=S:=⟨_,rfl⟩;obtain⟨C,hC⟩:∃S:ByteArray,(⟨s.c.toArray⟩:ByteArray)=S:=⟨_,rfl⟩;obtain⟨q,hq⟩:∃q,s.q=q:=⟨_,rfl⟩
 try unfold sbV at HSF HRF
 try simp only[hC]at HSF HRF
 try simp only[hF]at HNA
 rw[hF,hC,hq];obtain⟨W1,hW1⟩:∃W1,W0.alloc (.cells #[.int .i64 3,.string F,.string C,.int .i64 q] 27)=W1:=⟨_,rfl⟩;have HR1:=zh (show Row W1 W0.heap.size 27 #[.int .i64 3,.string F,.string C,.int .i64 q]by rw[←hW1];exact Row.new _ _ _);obtain⟨W2,hW2⟩:∃W2,W1.alloc (.cells #[.string ⟨#[]⟩,.string ⟨#[]⟩,.int .i64 0] 25)=W2:=⟨_,rfl⟩;have HR2:=zh (show Row W2 W1.heap.size 25 #[.string ⟨#[]⟩,.string ⟨#[]⟩,.int .i64 0]by rw[←hW2];exact Row.new _ _ _);have HK2:=zh (show Keeps W0 W1 []∧Keeps W1 W2 []from⟨by rw[←hW1];exact Keeps.alloc _ _,by rw[←hW2];exact Keeps.alloc _ _⟩)
 try clear hm
 clear hb BO hla hcap hF hC hq
 try clear hf
 try clear hc
 go_enter Tryz.func20,Tryz.ntmps20
 go_upto_region 1 with fail
 obtain⟨bx,hbx⟩:∃b,W0.heap.size=b:=⟨_,rfl⟩
 try rw[hW1]
 rw[hbx]at HR1;simp only[hbx];refine wp_region_lit ?_;refine wpList_val (.pointer (some ⟨bx,1,none⟩)) rfl (by kernel_rfl) ?_;refine wpList_loadg (by kernel_rfl) 25 (.tmp 26) rfl bx 1 (by kernel_rfl) [.string F,.string C,.int .i64 q] _ (fun i v hv=>by
  have h:=HR1.out.cell (1+i);rw[h,Nat.add_comm,zga,zgs];exact hv) Tryz.underlying25 rfl (by kernel_rfl) ?_
 refine wpList_goes (.pointer (some ⟨W1.heap.size,0,none⟩)) W2 rfl (by rw[←hW2];kernel_rfl) ?_;refine wpList_store_row rfl (.tmp 8) (.tmp 27) 25 rfl W1.heap.size #[.string F,.string C,.int .i64 q] _ HR2.out (by kernel_rfl) rfl (by kernel_rfl) (by kernel_rfl) (by kernel_rfl) ?_;intro W3 hr3 hk3;simp only[Act.put,zsa,zsc,zsz];have HK3:=zh (show Keeps W0 W3 []from(HK2.out.1.then_ HK2.out.2).trans hk3 (fun y hy hlt=>by
  rw[List.mem_singleton.1 hy]at hlt;have:=HK2.out.1.size;omega))
 have HR13:=zh (show Row W3 bx 27 #[.int .i64 3,.string F,.string C,.int .i64 q]from(HR1.out.keeps HK2.out.2).keep hk3 (fun e=>by
  have h1:=HR1.out.lt;rw[List.mem_singleton.1 e]at h1;omega))
 have HR3:=zh hr3;obtain⟨bs,hbs⟩:∃b,W1.heap.size=b:=⟨_,rfl⟩;rw[hbs]at HR3;simp only[hbs];have r0:=HR13.out.cell 0;have s0:=HR3.out.cell 0;have s1:=HR3.out.cell 1;have s2:=HR3.out.cell 2;simp only[zga,zgz,zgs]at r0 s0 s1 s2;clear hr3 hk3 HR13 HR1 HR2 HK2 hW1 hW2 hbx hbs
 go_wp2_with fail
 refine(HSF.out W3 (HBO.out.keeps HB0.out HK3.out)).mono ?_;rintro e w4 ⟨rfl,hb4,he4⟩;have HB4:=zh hb4;have HE4:=zh he4;have HV4:=zh (show LsAt w4 (.slice A L.length cap) L from by
  obtain⟨A',c',e,h1,h2⟩:=HV0.out.keeps HK3.out;exact⟨A',c',e,HE4.out.list h1 (by decide) (by decide),h2⟩)
 have HR4:=zh (HE4.out _ _ _ HR3.out (by decide) (by decide));clear r0 s0 s1 s2 HSF hb4 he4;have s0:=HR4.out.cell 0;have s1:=HR4.out.cell 1;have s2:=HR4.out.cell 2;simp only[zga,zgz,zgs]at s0 s1 s2
 go_wp2_with fail
 refine(HRF.out w4 HV4.out).mono ?_;rintro e w5 ⟨hk5,v5,rfl,hv5⟩;have HK5:=zh hk5;have HV5:=zh hv5;clear hk5 hv5 s0 s1 s2 HRF HV4 HR4
 try unfold ansV
 try simp only
 go_wp2_with fail
 go_ret2
 exact⟨v5,rfl,by rw[HDO.out];exact HBO.out.keeps HB4.out HK5.out,by rw[HDO.out];exact HV5.out,fun g t cs hr h1 h2=>(HE4.out _ _ _ (hr.keeps HK3.out) h1 h2).keeps HK5.out⟩
set_option maxRecDepth 100000 in
set_option maxHeartbeats 4000000 in
theorem does4_any (w W0:World)(d:Nat)(v:Value)(L:List Sb)(s:Sb)(hm:MaxL w){B:World→List Sb→Prop}(BO:BkOps w d B)(hb:B W0 L)(hv:LsAt W0 v L)(hf:s.f.length≤300):
  Calls Tryz.prog 20 #[ptr0 d,v,.agg #[.int .i64 4,.string ⟨s.f.toArray⟩,.string ⟨s.c.toArray⟩,.int .i64 s.q]] W0 (DoPost B W0 L (4,s)):=by
 have HB0:=zh hb;have HBO:=zh BO;have HV0:=zh hv;have HOK:=zh (BO.bk hb).ok;have HSF:=zh (fun(W:World) (hb:B W L)=>(BO.bk hb).meets hm s.f (by omega));have HNA:=zh (fun(W:World)=>rName_any W s.f (by omega));have HRF:=zh (fun(W:World) (A:Option Addr) (cap:Nat) (hl:ListAt W 25 3 sbC A L) (hn:tName s.f=true)=>rfMeets_any W A cap L s.f hl (fun x hx=>by have h:=tFilter_levels ((BO.bk hb).ok.ok x hx).1;exact⟨h.1,by omega⟩) (by have:=(BO.bk hb).ok.le;omega) (by omega) (tName_levels hn).1);have HDO:=zh (show mtDo L (4,s)=L by unfold mtDo;rw[if_neg (show¬((4:Int)=1)by decide),if_neg (show¬((4:Int)=2)by decide),if_neg (show¬((4:Int)=3)by decide)]);have HTL:=zh (show(mtTold L s.f).length≤100000 from by
  have h:=told_le (L:=L) (n:=s.f) L.length (Nat.le_refl _);rw[List.take_length]at h;have:=(BO.bk hb).ok.le;omega)
 unfold MeetsPost at HSF;obtain⟨tn,htn⟩:∃t,tName s.f=t:=⟨_,rfl⟩;obtain⟨T,hT⟩:∃t,mtTold L s.f=t:=⟨_,rfl⟩;rw[htn]at HSF HNA HRF;rw[hT]at HSF HRF HTL;clear htn hT;obtain⟨A,cap,rfl,hla,hcap⟩:=hv;obtain⟨F,hF⟩:∃S:ByteArray,(⟨s.f.toArray⟩:ByteArray)=S:=⟨_,rfl⟩;obtain⟨C,hC⟩:∃S:ByteArray,(⟨s.c.toArray⟩:ByteArray)=S:=⟨_,rfl⟩;obtain⟨q,hq⟩:∃q,s.q=q:=⟨_,rfl⟩
 try unfold sbV at HSF HRF
 try simp only[hF]at HSF HRF
 try simp only[hF]at HNA
 rw[hF,hC,hq];obtain⟨W1,hW1⟩:∃W1,W0.alloc (.cells #[.int .i64 4,.string F,.string C,.int .i64 q] 27)=W1:=⟨_,rfl⟩;have HR1:=zh (show Row W1 W0.heap.size 27 #[.int .i64 4,.string F,.string C,.int .i64 q]by rw[←hW1];exact Row.new _ _ _);obtain⟨W2,hW2⟩:∃W2,W1.alloc (.cells #[.string ⟨#[]⟩,.string ⟨#[]⟩,.int .i64 0] 25)=W2:=⟨_,rfl⟩;have HR2:=zh (show Row W2 W1.heap.size 25 #[.string ⟨#[]⟩,.string ⟨#[]⟩,.int .i64 0]by rw[←hW2];exact Row.new _ _ _);have HK2:=zh (show Keeps W0 W1 []∧Keeps W1 W2 []from⟨by rw[←hW1];exact Keeps.alloc _ _,by rw[←hW2];exact Keeps.alloc _ _⟩)
 try clear hm
 clear hb BO hla hcap hF hC hq
 try clear hf
 try clear hc
 go_enter Tryz.func20,Tryz.ntmps20
 go_upto_region 1 with fail
 obtain⟨bx,hbx⟩:∃b,W0.heap.size=b:=⟨_,rfl⟩
 try rw[hW1]
 rw[hbx]at HR1;simp only[hbx];refine wp_region_lit ?_;refine wpList_val (.pointer (some ⟨bx,1,none⟩)) rfl (by kernel_rfl) ?_;refine wpList_loadg (by kernel_rfl) 25 (.tmp 26) rfl bx 1 (by kernel_rfl) [.string F,.string C,.int .i64 q] _ (fun i v hv=>by
  have h:=HR1.out.cell (1+i);rw[h,Nat.add_comm,zga,zgs];exact hv) Tryz.underlying25 rfl (by kernel_rfl) ?_
 refine wpList_goes (.pointer (some ⟨W1.heap.size,0,none⟩)) W2 rfl (by rw[←hW2];kernel_rfl) ?_;refine wpList_store_row rfl (.tmp 8) (.tmp 27) 25 rfl W1.heap.size #[.string F,.string C,.int .i64 q] _ HR2.out (by kernel_rfl) rfl (by kernel_rfl) (by kernel_rfl) (by kernel_rfl) ?_;intro W3 hr3 hk3;simp only[Act.put,zsa,zsc,zsz];have HK3:=zh (show Keeps W0 W3 []from(HK2.out.1.then_ HK2.out.2).trans hk3 (fun y hy hlt=>by
  rw[List.mem_singleton.1 hy]at hlt;have:=HK2.out.1.size;omega))
 have HR13:=zh (show Row W3 bx 27 #[.int .i64 4,.string F,.string C,.int .i64 q]from(HR1.out.keeps HK2.out.2).keep hk3 (fun e=>by
  have h1:=HR1.out.lt;rw[List.mem_singleton.1 e]at h1;omega))
 have HR3:=zh hr3;obtain⟨bs,hbs⟩:∃b,W1.heap.size=b:=⟨_,rfl⟩;rw[hbs]at HR3;simp only[hbs];have r0:=HR13.out.cell 0;have s0:=HR3.out.cell 0;have s1:=HR3.out.cell 1;have s2:=HR3.out.cell 2;simp only[zga,zgz,zgs]at r0 s0 s1 s2;clear hr3 hk3 HR13 HR1 HR2 HK2 hW1 hW2 hbx hbs
 go_wp2_with fail
 refine(HSF.out W3 (HBO.out.keeps HB0.out HK3.out)).mono ?_;rintro e w4 ⟨hk4,v4,rfl,ho4⟩;have HK4:=zh (HK3.out.then_ hk4);have HO4:=zh ho4;have HR4:=zh (HR3.out.keeps hk4);clear r0 s0 s1 s2 HSF hk4 ho4;have s0:=HR4.out.cell 0;simp only[zga,zgz]at s0
 cases tn with
 | false=>
  rw[if_neg (by decide)]at HO4;obtain⟨A4,c4,rfl⟩:=OwnN.slice HO4.out;simp only[List.length_nil]
  go_wp2_with fail
  refine(HNA.out w4).mono ?_;rintro e w5 ⟨rfl,hk5⟩;have HK5:=zh (HK4.out.then_ hk5);clear hk5 s0
  go_wp2_with fail
  go_ret2
  exact⟨_,rfl,by rw[HDO.out];exact HBO.out.keeps HB0.out HK5.out,by rw[HDO.out];exact HV0.out.keeps HK5.out,fun g t cs hr h1 h2=>hr.keeps HK5.out⟩
 | true=>
  rw[if_pos rfl]at HO4;obtain⟨A4,c4,rfl⟩:=OwnN.slice HO4.out
  go_wp2_with fail
  refine(HNA.out w4).mono ?_;rintro e w5 ⟨rfl,hk5⟩;have HK5:=zh (HK4.out.then_ hk5);have HO5:=zh (HO4.out.keeps hk5);have HR5:=zh (HR4.out.keeps hk5);clear hk5 s0;have s0:=HR5.out.cell 0;simp only[zga,zgz]at s0;have HLV:=zh (show ListAt w5 25 3 sbC A L from by
   obtain⟨A',c',e,h1,_⟩:=HV0.out.keeps HK5.out;injection e with e1
   rw[e1];exact h1)
  go_wp2_with fail
  refine(HRF.out w5 A cap HLV.out (by first | rfl | trivial)).mono ?_;rintro e w6 ⟨v6,rfl,ho6,hk6⟩;have HK6:=zh (HK5.out.then_ hk6);have HO6:=zh (HO5.out.keeps hk6);have HP6:=zh ho6;obtain⟨A6,c6,rfl⟩:=OwnN.slice HP6.out;clear hk6 ho6 s0
  go_wp2_with fail
  refine(mtSameTold_any _ A4 A6 c4 c6 T T (HO6.out.at_ encTd) (HP6.out.at_ encTd) (by have:=HTL.out;omega)).mono ?_;rintro e w7 ⟨rfl,hk7⟩;have HK7:=zh (HK6.out.then_ hk7);clear hk7;rw[decide_eq_true rfl]
  go_wp2_with fail
  go_ret2
  exact⟨_,rfl,by rw[HDO.out];exact HBO.out.keeps HB0.out HK7.out,by rw[HDO.out];exact HV0.out.keeps HK7.out,fun g t cs hr h1 h2=>hr.keeps HK7.out⟩
set_option maxRecDepth 100000 in
set_option maxHeartbeats 4000000 in
theorem does0_any (w W0:World)(d:Nat)(v:Value)(L:List Sb)(k:Int)(s:Sb){B:World→List Sb→Prop}(BO:BkOps w d B)(hb:B W0 L)(hv:LsAt W0 v L)(h1:k≠1)(h2:k≠2)(h3:k≠3)(h4:k≠4):
  Calls Tryz.prog 20 #[ptr0 d,v,.agg #[.int .i64 k,.string ⟨s.f.toArray⟩,.string ⟨s.c.toArray⟩,.int .i64 s.q]] W0 (DoPost B W0 L (k,s)):=by
 have HB0:=zh hb;have HBO:=zh BO;have HV0:=zh hv;have HDO:=zh (show mtDo L (k,s)=L by unfold mtDo;rw[if_neg h1,if_neg h2,if_neg h3]);have e1:(k==1)=false:=by simpa using h1
 have e2:(k==2)=false:=by simpa using h2
 have e3:(k==3)=false:=by simpa using h3
 have e4:(k==4)=false:=by simpa using h4
 clear h1 h2 h3 h4;obtain⟨A,cap,rfl,hla,hcap⟩:=hv;obtain⟨F,hF⟩:∃S:ByteArray,(⟨s.f.toArray⟩:ByteArray)=S:=⟨_,rfl⟩;obtain⟨C,hC⟩:∃S:ByteArray,(⟨s.c.toArray⟩:ByteArray)=S:=⟨_,rfl⟩;obtain⟨q,hq⟩:∃q,s.q=q:=⟨_,rfl⟩
 try unfold sbV at HSF HRF
 try simp only[hF]at HSF HRF
 try simp only[hF]at HNA
 rw[hF,hC,hq];obtain⟨W1,hW1⟩:∃W1,W0.alloc (.cells #[.int .i64 k,.string F,.string C,.int .i64 q] 27)=W1:=⟨_,rfl⟩;have HR1:=zh (show Row W1 W0.heap.size 27 #[.int .i64 k,.string F,.string C,.int .i64 q]by rw[←hW1];exact Row.new _ _ _);obtain⟨W2,hW2⟩:∃W2,W1.alloc (.cells #[.string ⟨#[]⟩,.string ⟨#[]⟩,.int .i64 0] 25)=W2:=⟨_,rfl⟩;have HR2:=zh (show Row W2 W1.heap.size 25 #[.string ⟨#[]⟩,.string ⟨#[]⟩,.int .i64 0]by rw[←hW2];exact Row.new _ _ _);have HK2:=zh (show Keeps W0 W1 []∧Keeps W1 W2 []from⟨by rw[←hW1];exact Keeps.alloc _ _,by rw[←hW2];exact Keeps.alloc _ _⟩)
 try clear hm
 clear hb BO hla hcap hF hC hq
 try clear hf
 try clear hc
 go_enter Tryz.func20,Tryz.ntmps20
 go_upto_region 1 with fail
 obtain⟨bx,hbx⟩:∃b,W0.heap.size=b:=⟨_,rfl⟩
 try rw[hW1]
 rw[hbx]at HR1;simp only[hbx];refine wp_region_lit ?_;refine wpList_val (.pointer (some ⟨bx,1,none⟩)) rfl (by kernel_rfl) ?_;refine wpList_loadg (by kernel_rfl) 25 (.tmp 26) rfl bx 1 (by kernel_rfl) [.string F,.string C,.int .i64 q] _ (fun i v hv=>by
  have h:=HR1.out.cell (1+i);rw[h,Nat.add_comm,zga,zgs];exact hv) Tryz.underlying25 rfl (by kernel_rfl) ?_
 refine wpList_goes (.pointer (some ⟨W1.heap.size,0,none⟩)) W2 rfl (by rw[←hW2];kernel_rfl) ?_;refine wpList_store_row rfl (.tmp 8) (.tmp 27) 25 rfl W1.heap.size #[.string F,.string C,.int .i64 q] _ HR2.out (by kernel_rfl) rfl (by kernel_rfl) (by kernel_rfl) (by kernel_rfl) ?_;intro W3 hr3 hk3;simp only[Act.put,zsa,zsc,zsz];have HK3:=zh (show Keeps W0 W3 []from(HK2.out.1.then_ HK2.out.2).trans hk3 (fun y hy hlt=>by
  rw[List.mem_singleton.1 hy]at hlt;have:=HK2.out.1.size;omega))
 have HR13:=zh (show Row W3 bx 27 #[.int .i64 k,.string F,.string C,.int .i64 q]from(HR1.out.keeps HK2.out.2).keep hk3 (fun e=>by
  have h1:=HR1.out.lt;rw[List.mem_singleton.1 e]at h1;omega))
 have HR3:=zh hr3;obtain⟨bs,hbs⟩:∃b,W1.heap.size=b:=⟨_,rfl⟩;rw[hbs]at HR3;simp only[hbs];have r0:=HR13.out.cell 0;have s0:=HR3.out.cell 0;have s1:=HR3.out.cell 1;have s2:=HR3.out.cell 2;simp only[zga,zgz,zgs]at r0 s0 s1 s2;clear hr3 hk3 HR13 HR1 HR2 HK2 hW1 hW2 hbx hbs
 go_wp2_with fail
 go_ret2
 exact⟨_,rfl,by rw[HDO.out];exact HBO.out.keeps HB0.out HK3.out,by rw[HDO.out];exact HV0.out.keeps HK3.out,fun g t cs hr h1 h2=>hr.keeps HK3.out⟩
/-- What a call does, of any kind. -/
theorem doesB_any (w W0:World)(d:Nat)(v:Value)(L:List Sb)(x:Int×Sb)(hm:MaxL w){B:World→List Sb→Prop}(BO:BkOps w d B)(hb:B W0 L)(hv:LsAt W0 v L)(hf:x.2.f.length≤300)(hc:x.2.c.length≤300):
  Calls Tryz.prog 20 #[ptr0 d,v,.agg #[.int .i64 x.1,.string ⟨x.2.f.toArray⟩,.string ⟨x.2.c.toArray⟩,.int .i64 x.2.q]] W0 (DoPost B W0 L x):=by
 obtain⟨k,s⟩:=x
 by_cases h1:k=1
 ·subst h1
  exact does1_any w W0 d v L s BO hb hv hf hc
 by_cases h2:k=2
 ·subst h2
  exact does2_any w W0 d v L s BO hb hv hf hc
 by_cases h3:k=3
 ·subst h3
  exact does3_any w W0 d v L s BO hb hv hc
 by_cases h4:k=4
 ·subst h4
  exact does4_any w W0 d v L s hm BO hb hv hf
 exact does0_any w W0 d v L k s BO hb hv h1 h2 h3 h4

set_option maxRecDepth 100000 in
set_option maxHeartbeats 4000000 in
theorem playSame_any (w W:World)(d:Nat)(v:Value)(L:List Sb)(hb:BkIn w W d L)(hv:LsAt W v L):
  Calls Tryz.prog 21 #[ptr0 d,v] W (TruePost W true):=by
 have HB:=zh hb;have HV:=zh hv;have HLE:=zh hb.ok.le;have HRN:=zh (fun(W:World) (A:Option Addr) (cap:Nat) (hl:ListAt W 25 3 sbC A L)=>rfNodes_any W A cap L hl (fun x hx=>by have h:=tFilter_levels (hb.ok.ok x hx).1;exact⟨(hb.ok.ok x hx).1,by omega⟩) hb.ok.le);obtain⟨A,cap,rfl,hla,hcap⟩:=hv;have HLA:=zh hla;obtain⟨nn,hnn⟩:∃n,mtNodes L=n:=⟨_,rfl⟩;have HND:=zh (fun(W:World) (hb:BkIn w W d L)=>hb.nodes);rw[hnn]at HRN HND;clear hb hla hcap hnn
 go_enter Tryz.func21,Tryz.ntmps21
 go_wp2_with fail
 refine HB.out.len.mono ?_;rintro e w1 ⟨rfl,rfl⟩
 go_wp2_with fail
 refine HB.out.list.mono ?_;rintro e w2 ⟨v2,rfl,ho2,hk2⟩;have HK2:=zh hk2;have HO2:=zh ho2;obtain⟨A2,c2,rfl⟩:=OwnN.slice HO2.out;clear hk2 ho2
 go_wp2_with fail
 refine(mtSameSub_any _ A2 A c2 cap L L (HO2.out.at_ encSb) (HLA.out.keeps HK2.out) (by have:=HLE.out;omega)).mono ?_;rintro e w3 ⟨rfl,hk3⟩;rw[decide_eq_true rfl];have HK3:=zh (HK2.out.then_ hk3);clear hk3
 go_wp2_with fail
 refine(HND.out _ (HB.out.keeps HK3.out)).mono ?_;rintro e w4 ⟨rfl,hk4⟩;have HK4:=zh (HK3.out.then_ hk4);clear hk4
 go_wp2_with fail
 refine(HRN.out _ A cap (HLA.out.keeps HK4.out)).mono ?_;rintro e w5 ⟨rfl,hk5⟩;have HK5:=zh (HK4.out.then_ hk5);clear hk5
 go_wp2_with fail
 go_ret;exact⟨rfl,HK5.out⟩

/-- The entries behind calls. -/
def mtDos (l:List (Int×Sb)):List Sb:=l.foldl mtDo []
theorem few_len {l:List (Int×Sb)}{m:Int}(h:fewB l m=true):(l.length:Int)≤m∧∀x∈l,x.2.f.length≤300∧x.2.c.length≤300:=by
 unfold fewB at h;rw[Bool.and_eq_true,decide_eq_true_eq]at h;refine⟨h.1,fun x hx=> ?_⟩;have h2:=List.all_eq_true.1 h.2 x hx;unfold fewS at h2
 simpa using h2
/-- Where the law stands. -/
structure PlAt (w wr:World)(d:Nat)(L:List Sb)(v:Value):Prop where
 bk:BkIn w wr d L
 ls:LsAt wr v L
end Go.Proofs.YtoadlafdeoklbaaGreatDoor
