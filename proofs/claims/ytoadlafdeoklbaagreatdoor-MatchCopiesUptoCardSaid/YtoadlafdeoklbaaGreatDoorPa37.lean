/- Reference 14: Set. -/
import Derived.Test.YtoadlafdeoklbaaGreatDoorPa35
import Derived.Test.YtoadlafdeoklbaaGreatDoorPa36

namespace Go.Proofs.YtoadlafdeoklbaaGreatDoor
open Go.RowKit Go.Maps Go.Shelf

theorem find_at {L:List Sb}{f c:List UInt8}{j:Nat}(h:FindIs L f c j):mtAt L f c=j:=by
 obtain⟨h1,h2,h3⟩:=h;unfold mtAt
 conv=>lhs;rw[←List.take_append_drop j L]
 rw[List.filter_append,List.length_append,List.filter_eq_self.2 h2,List.filter_eq_nil_iff.2 (fun x hx=>by rw[h3 x hx];simp),List.length_take];simp;omega
theorem set_parts {L:List Sb}{s:Sb}{j:Nat}(hL:SbUp L)(h:FindIs L s.f s.c j):mtSet L s=(L.take j++ [s])++L.drop (j+if mtHas L s.f s.c=true then 1 else 0):=by
 rw[hL.set_at s,find_at h];simp
theorem sbC_row (x:Sb):([x].flatMap sbC).toArray= #[.string ⟨x.f.toArray⟩,.string ⟨x.c.toArray⟩,.int .i64 x.q]:=by simp[sbC]
section
variable {P:Program} {Ws:List Iv} {C:World→World→Prop} {A:Nat→World→World→Prop} {w0:World} {ops:Array Oper} {a0:Act} {Q:List Ent→Prop} {o:Oper} {rest:List Oper} {env:List Ent}
theorem loosev_q (hL:LightV Ws C A)(k:Nat)(v:Value)(he:env.length=k)(hw:∀vals:Tmp→Value,Region.wanted o (yielded ops (fill vals env a0).tmps)=true)(h:∀(W:World) (vals:Tmp→Value),(execOp (fill vals env a0).eval o).run P W= .ok (.value v) W)
  (hk:wpLooseV P Ws C A w0 ops a0 Q rest (addEnt o.dst (some v) [] (fun _ _ _=>True) env)):wpLooseV P Ws C A w0 ops a0 Q (o::rest) env:=
 loosev_is k v he (fun W vals _ _=>⟨by rw[if_pos (hw vals),h];exact⟨hL.stp (Keeps.refl _ _),rfl⟩⟩) hk
end
set_option maxRecDepth 100000 in
set_option maxHeartbeats 8000000 in
theorem rfSet_any (w:World)(v:Value)(L:List Sb)(s:Sb)(hl:LsAt w v L)(hL:SbUp L)(hle:L.length≤400000)(hf:s.f.length≤50000)(hc:s.c.length≤50000):
  Calls Tryz.prog 15 #[v,sbV s] w (RfPost w (mtSetA L s)):=by
 cases hft:tFilter s.f with
 | false=>
  have HE:=zh (show mtSetA L s=(L,false,230)by unfold mtSetA;rw[if_pos hft]);obtain⟨F,hF⟩:∃S:ByteArray,(⟨s.f.toArray⟩:ByteArray)=S:=⟨_,rfl⟩;obtain⟨C,hC⟩:∃S:ByteArray,(⟨s.c.toArray⟩:ByteArray)=S:=⟨_,rfl⟩;obtain⟨q,hq⟩:∃q,s.q=q:=⟨_,rfl⟩;obtain⟨W1,hW1⟩:∃W1,w.alloc (.cells #[.string F,.string C,.int .i64 q] 25)=W1:=⟨_,rfl⟩;have HK1:=zh (show Keeps w W1 []by rw[←hW1];exact Keeps.alloc _ _);have HR1:=zh (show Row W1 w.heap.size 25 #[.string F,.string C,.int .i64 q]by rw[←hW1];exact Row.new _ _ _);have HFC:=zh (And.intro hF (And.intro hC hq));have HLS:=zh hl;obtain⟨A,cap,rfl,hla,hcap⟩:=hl;have HFI:=zh (fun(w:World)=>rFilter_any w s.f (by omega));have HCL:=zh (fun(w:World)=>rfClient_any w s.c (by omega));have HFD:=zh (fun(W:World) (hk:Keeps w W [])=>rfFind_any W A cap L s.f s.c (hla.keeps hk) hL (by omega));have HLA:=zh hla;have HB:=zh (And.intro hcap (And.intro hle hL));rw[hF]at HFI;rw[hC]at HCL;simp only[hF,hC]at HFD;unfold sbV;rw[hF,hC,hq];clear hF hC hq hla hcap hle hL hf hc;rw[hft]at HFI;clear hft
  go_enter Tryz.func15,Tryz.ntmps15
  go_upto_region 1 with fail
  try rw[hW1]
  clear hW1;have c0:=HR1.out.cell 0;have c1:=HR1.out.cell 1;have c2:=HR1.out.cell 2;simp only[zga,zgz,zgs]at c0 c1 c2
  go_wp2_with fail
  refine(HFI.out _).mono ?_;rintro e w3 ⟨rfl,hk⟩;have HK3:=zh (HK1.out.then_ hk);have HR3:=zh (HR1.out.keeps hk);clear hk c0 c1 c2 HFI;have c0:=HR3.out.cell 0;have c1:=HR3.out.cell 1;have c2:=HR3.out.cell 2;simp only[zga,zgz,zgs]at c0 c1 c2
  go_wp2_with fail
  go_ret3
  exact⟨HK3.out,_,by rw[HE.out];rfl,by rw[HE.out];exact HLS.out.keeps HK3.out⟩
 | true=>
  cases hsb:mtSubOk s with
  | false=>
   have HE:=zh (show mtSetA L s=(L,false,2)by unfold mtSetA;rw[if_neg (by rw[hft];simp),if_pos hsb]);have hbad:=sub_bad hsb;obtain⟨F,hF⟩:∃S:ByteArray,(⟨s.f.toArray⟩:ByteArray)=S:=⟨_,rfl⟩;obtain⟨C,hC⟩:∃S:ByteArray,(⟨s.c.toArray⟩:ByteArray)=S:=⟨_,rfl⟩;obtain⟨q,hq⟩:∃q,s.q=q:=⟨_,rfl⟩;obtain⟨W1,hW1⟩:∃W1,w.alloc (.cells #[.string F,.string C,.int .i64 q] 25)=W1:=⟨_,rfl⟩;have HK1:=zh (show Keeps w W1 []by rw[←hW1];exact Keeps.alloc _ _);have HR1:=zh (show Row W1 w.heap.size 25 #[.string F,.string C,.int .i64 q]by rw[←hW1];exact Row.new _ _ _);have HFC:=zh (And.intro hF (And.intro hC hq));have HLS:=zh hl;obtain⟨A,cap,rfl,hla,hcap⟩:=hl;have HFI:=zh (fun(w:World)=>rFilter_any w s.f (by omega));have HCL:=zh (fun(w:World)=>rfClient_any w s.c (by omega));have HFD:=zh (fun(W:World) (hk:Keeps w W [])=>rfFind_any W A cap L s.f s.c (hla.keeps hk) hL (by omega));have HLA:=zh hla;have HB:=zh (And.intro hcap (And.intro hle hL));rw[hF]at HFI;rw[hC]at HCL;simp only[hF,hC]at HFD;unfold sbV;rw[hF,hC,hq];clear hF hC hq hla hcap hle hL hf hc;rw[hft]at HFI;have hbad2:mtCl s.c=false∨(mtCl s.c=true∧q < 0)∨(mtCl s.c=true∧0≤q∧2 < q):=by rw[←HFC.out.2.2];exact hbad
   clear hft hsb hbad
   go_enter Tryz.func15,Tryz.ntmps15
   go_upto_region 1 with fail
   try rw[hW1]
   clear hW1;have c0:=HR1.out.cell 0;have c1:=HR1.out.cell 1;have c2:=HR1.out.cell 2;simp only[zga,zgz,zgs]at c0 c1 c2
   go_wp2_with fail
   refine(HFI.out _).mono ?_;rintro e w3 ⟨rfl,hk⟩;have HK3:=zh (HK1.out.then_ hk);have HR3:=zh (HR1.out.keeps hk);clear hk c0 c1 c2 HFI;have c0:=HR3.out.cell 0;have c1:=HR3.out.cell 1;have c2:=HR3.out.cell 2;simp only[zga,zgz,zgs]at c0 c1 c2
   rcases hbad2 with hb | ⟨hb,h0⟩ | ⟨hb,h0,h2⟩
   ·rw[hb]at HCL
    clear hb
    go_wp2_with fail
    refine(HCL.out _).mono ?_;rintro e w4 ⟨rfl,rfl⟩
    go_wp2_with fail
    go_ret3
    exact⟨HK3.out,_,by rw[HE.out];rfl,by rw[HE.out];exact HLS.out.keeps HK3.out⟩
   ·rw[hb]at HCL
    have d1:decide (q < 0)=true:=decide_eq_true h0;clear hb
    go_wp2_with fail
    refine(HCL.out _).mono ?_;rintro e w4 ⟨rfl,rfl⟩
    go_wp2_with fail
    go_ret3
    exact⟨HK3.out,_,by rw[HE.out];rfl,by rw[HE.out];exact HLS.out.keeps HK3.out⟩
   ·rw[hb]at HCL
    have d1:decide (q < 0)=false:=decide_eq_false (by omega);have d2:decide (q > 2)=true:=decide_eq_true h2;clear hb h0 h2
    go_wp2_with fail
    refine(HCL.out _).mono ?_;rintro e w4 ⟨rfl,rfl⟩
    go_wp2_with fail
    go_ret3
    exact⟨HK3.out,_,by rw[HE.out];rfl,by rw[HE.out];exact HLS.out.keeps HK3.out⟩
  | true=>
   have hgood:=sub_good hsb;have HSB:=zh hsb;have HFT:=zh hft;obtain⟨F,hF⟩:∃S:ByteArray,(⟨s.f.toArray⟩:ByteArray)=S:=⟨_,rfl⟩;obtain⟨C,hC⟩:∃S:ByteArray,(⟨s.c.toArray⟩:ByteArray)=S:=⟨_,rfl⟩;obtain⟨q,hq⟩:∃q,s.q=q:=⟨_,rfl⟩;obtain⟨W1,hW1⟩:∃W1,w.alloc (.cells #[.string F,.string C,.int .i64 q] 25)=W1:=⟨_,rfl⟩;have HK1:=zh (show Keeps w W1 []by rw[←hW1];exact Keeps.alloc _ _);have HR1:=zh (show Row W1 w.heap.size 25 #[.string F,.string C,.int .i64 q]by rw[←hW1];exact Row.new _ _ _);have HFC:=zh (And.intro hF (And.intro hC hq));have HLS:=zh hl;obtain⟨A,cap,rfl,hla,hcap⟩:=hl;have HFI:=zh (fun(w:World)=>rFilter_any w s.f (by omega));have HCL:=zh (fun(w:World)=>rfClient_any w s.c (by omega));have HFD:=zh (fun(W:World) (hk:Keeps w W [])=>rfFind_any W A cap L s.f s.c (hla.keeps hk) hL (by omega));have HLA:=zh hla;have HB:=zh (And.intro hcap (And.intro hle hL));rw[hF]at HFI;rw[hC]at HCL;simp only[hF,hC]at HFD;unfold sbV;rw[hF,hC,hq];clear hF hC hq hla hcap hle hL hf hc;rw[hft]at HFI;obtain⟨hb,h0,h2⟩:mtCl s.c=true∧0≤q∧q≤2:=by rw[←HFC.out.2.2];exact hgood
   rw[hb]at HCL;have d1:decide (q < 0)=false:=decide_eq_false (by omega);have d2:decide (q > 2)=false:=decide_eq_false (by omega);clear hft hsb hgood h0 h2 hb
   go_enter Tryz.func15,Tryz.ntmps15
   go_upto_region 1 with fail
   try rw[hW1]
   clear hW1;have c0:=HR1.out.cell 0;have c1:=HR1.out.cell 1;have c2:=HR1.out.cell 2;simp only[zga,zgz,zgs]at c0 c1 c2
   go_wp2_with fail
   refine(HFI.out _).mono ?_;rintro e w3 ⟨rfl,hk⟩;have HK3:=zh (HK1.out.then_ hk);have HR3:=zh (HR1.out.keeps hk);clear hk c0 c1 c2 HFI;have c0:=HR3.out.cell 0;have c1:=HR3.out.cell 1;have c2:=HR3.out.cell 2;simp only[zga,zgz,zgs]at c0 c1 c2
   go_wp2_with fail
   refine(HCL.out _).mono ?_;rintro e w4 ⟨rfl,rfl⟩
   go_wp2_with fail
   refine(HFD.out _ HK3.out).mono ?_;rintro e w5 ⟨hk,j,hj,rfl⟩;have HK5:=zh (HK3.out.then_ hk);have HR5:=zh (HR3.out.keeps hk);have HJ:=zh hj;have HP:=zh (set_parts HB.out.2.2 hj);clear hk hj HCL HFD HK3 HR3 d1 d2 c0 c1 c2;obtain⟨m,hm⟩:∃m,j+(if mtHas L s.f s.c=true then 1 else 0)=m:=⟨_,rfl⟩;rw[hm]at HP;obtain⟨z,hz⟩:∃z,mtHas L s.f s.c=z:=⟨_,rfl⟩;rw[hz];have HZ:=zh hz;have HJL:=zh HJ.out.1
   cases z with
   | false=>
    by_cases h4:4096≤L.length
    ·have HE:=zh (show mtSetA L s=(L,false,3)by unfold mtSetA;rw[if_neg (by rw[HFT.out];simp),if_neg (by rw[HSB.out];simp),if_pos ⟨hz,h4⟩])
     clear hz
     go_wp2_with fail
     go_ret3
     exact⟨HK5.out,_,by rw[HE.out];rfl,by rw[HE.out];exact HLS.out.keeps HK5.out⟩
    ·have HE:=zh (show mtSetA L s=(mtSet L s,true,0)by unfold mtSetA;rw[if_neg (by rw[HFT.out];simp),if_neg (by rw[HSB.out];simp),if_neg (fun h=>h4 h.2),hz];rfl)
     have h5:L.length < 4096:=by omega
     have HMJ:=zh (show m=j by rw[←hm,hz];rfl);have HM:=zh (show m≤L.length by rw[HMJ.out];exact HJL.out);clear hz h4 hm
     go_upto_region 11 with fail
     have HSZ:=zh (show(L.take j).length=j∧(L.drop m).length=L.length - m from⟨by rw[List.length_take];have:=HJL.out;omega,by rw[List.length_drop]⟩);have LH:LightV [⟨0, [], [6,10], [3,5], [6]⟩,⟨1, [6], [10], [6], [10]⟩,⟨2, [6,10], [], [10,13], [13]⟩] (fun W W' =>Keeps w5 W []→Keeps w5 W' []) (fun _=>KeepsAll):= .all (keepIfM_ok w5) keepsAll_ok;obtain⟨A',hA'⟩:∃A',(if cap=m then A else A.map (·.add (m*3)))=A' :=⟨_,rfl⟩;have HA' :=zh hA';have HL1:=zh (show∀W,Keeps w5 W []→ListAt W 25 3 sbC A (L.take j)from fun W hk=>(HLA.out.keeps (HK5.out.then_ hk)).take j);have HL2:=zh (show∀W,Keeps w5 W []→ListAt W 25 3 sbC A' (L.drop m)from fun W hk=>by
      rw[←HA'.out];exact listAt_drop (HLA.out.keeps (HK5.out.then_ hk)) HB.out.1)
     clear hA';refine wp_region_ivs [⟨0, [], [6,10], [3,5], [6]⟩,⟨1, [6], [10], [6], [10]⟩,⟨2, [6,10], [], [10,13], [13]⟩] (fun W W' =>Keeps w5 W []→Keeps w5 W' []) (fun _=>KeepsAll) _ 14 LH (by kernel_rfl) rfl (by kernel_rfl) ?_;simp only[zts,ztz,zds,zdz];refine loosev_q LH 0 (.slice A L.length cap) rfl (fun _=>by kernel_rfl) (fun W vals=>by kernel_rfl) ?_;refine loosev_q LH 1 (.int .i64 (j:Nat)) rfl (fun _=>by kernel_rfl) (fun W vals=>by kernel_rfl) ?_;refine loosev_q LH 2 (.slice A (L.take j).length cap) rfl (fun _=>by kernel_rfl) (fun W vals=>by rw[sbSliceH (x:= .tmp 47) (hi:= .tmp 48) (a:=A) (len:=L.length) (cap:=cap) (l:=j) (kl:= .i64) rfl (by kernel_rfl) (by kernel_rfl) (by have:=HJL.out;have:=HB.out.1;omega),HSZ.out.1]) ?_;simp only[addEnt];refine loosev_has 3 (fun v W' =>∃A c,v= .slice A (L.take j).length c∧OwnN W' w5.heap.size 25 3 sbC (.slice A (L.take j).length c) (L.take j)) rfl (fun W vals hW hkn φ' hφ=> ?_) ?_
     ·clear hkn
      exact opOk_append_N elemSub encSb rfl (Operand.const (.slice none 0 0)) (.tmp 49) rfl w5.heap.size (.slice none 0 0) A (L.take j).length cap [] (L.take j) rfl (by kernel_rfl) (by kernel_rfl) (OwnN.nil _ _ _ _ _) ((HL1.out _ (hW.c (Keeps.refl _ _))).lies encSb) (by have:=HB.out.2.1;have:=HJL.out;rw[HSZ.out.1];simp;omega) (hW.c (Keeps.refl _ _)).size (fun A' c' w' ho hk _=>⟨LH.stp hk,hφ.out _ _ ⟨A',c',rfl,ho⟩⟩)
     simp only[addEnt];apply loosev_is 4 _ rfl
     ·intro W vals hW hkn
      have hC:=hW.c;simp only[knowsV]at hkn
      try simp only[and_true]at hkn
      clear hkn;have hr:=HR5.out.keeps (hC (Keeps.refl _ _));have m0:=hr.cell 0;have m1:=hr.cell 1;have m2:=hr.cell 2;simp only[zga,zgz,zgs]at m0 m1 m2;refine⟨?_⟩;simp only[fill];go_simp
      first | exact⟨LH.stp (Keeps.refl _ _),rfl⟩ | exact⟨LH.stp (Keeps.alloc _ _),rfl⟩
     simp only[addEnt];refine loosev_has 5 (fun v W' =>∃g,v= .slice (some ⟨g,0,none⟩) 1 1∧Row W' g 25 #[.string F,.string C,.int .i64 q]) rfl (fun W vals hW hkn φ' hφ=> ?_) ?_
     ·have hC:=hW.c
      simp only[knowsV]at hkn
      try simp only[and_true]at hkn
      clear hkn;refine⟨?_⟩;simp only[fill];go_simp;exact⟨LH.stp (Keeps.alloc _ _),hφ.out _ _ ⟨_,rfl,Row.new _ _ _⟩⟩
     simp only[addEnt];refine loosev_has 6 (fun v W' =>∃A c,v= .slice A (L.take j++ [s]).length c∧OwnN W' w5.heap.size 25 3 sbC (.slice A (L.take j++ [s]).length c) (L.take j++ [s])) rfl (fun W vals hW hkn φ' hφ=> ?_) ?_
     ·simp only[knowsV]at hkn
      try simp only[and_true]at hkn
      obtain⟨k5,k3⟩:=hkn;obtain⟨W5,_,b1,g,hv5,hr5⟩:=k5 (by decide);obtain⟨W4,_,a1,A1,c1,hv,how⟩:=k3 (by decide);have how:=how.keeps (a1.at_ ⟨0, [], [6,10], [3,5], [6]⟩);have hr5:=hr5.keeps (b1.at_ ⟨0, [], [6,10], [3,5], [6]⟩);have hls:Lies W W.heap.size (some ⟨g,0,none⟩) ([s].flatMap sbC):=by
       refine(listAt_row encSb (by rw[sbC_row,HFC.out.1,HFC.out.2.1,HFC.out.2.2];exact hr5)).lies encSb
      exact opOk_append_N elemSub encSb rfl (.tmp 50) (.tmp 52) rfl w5.heap.size (.slice A1 (L.take j).length c1) (some ⟨g,0,none⟩) 1 1 (L.take j) [s] rfl ((show _=vals 50 by kernel_rfl).trans hv) ((show _=vals 52 by kernel_rfl).trans hv5) how hls (by have:=HB.out.2.1;rw[HSZ.out.1];have:=HJL.out;simp;omega) (hW.c (Keeps.refl _ _)).size (fun A'' c'' w' ho hk _=>⟨.off (fun hh=>hh.trans hk (fun y hy hlt=>by have:=(how.rows y hy).1;omega)),hφ.out _ _ ⟨A'',c'',rfl,ho⟩⟩)
     simp only[addEnt];refine loosev_q LH 7 (.slice A L.length cap) rfl (fun _=>by kernel_rfl) (fun W vals=>by kernel_rfl) ?_;refine loosev_q LH 8 (.int .i64 (m:Nat)) rfl (fun _=>by kernel_rfl) (fun W vals=>by rw[HMJ.out];kernel_rfl) ?_;refine loosev_q LH 9 (.slice A' (L.drop m).length (cap - m)) rfl (fun _=>by kernel_rfl) (fun W vals=>by rw[sbSliceL (x:= .tmp 54) (lo:= .tmp 55) (a:=A) (len:=L.length) (cap:=cap) (l:=m) (kl:= .i64) rfl (by kernel_rfl) (by kernel_rfl) HM.out,HA'.out,HSZ.out.2]) ?_;simp only[addEnt];refine loosev_has 10 (fun v W' =>∃A c,v= .slice A ((L.take j++ [s])++L.drop m).length c∧OwnN W' w5.heap.size 25 3 sbC (.slice A ((L.take j++ [s])++L.drop m).length c) ((L.take j++ [s])++L.drop m)) rfl (fun W vals hW hkn φ' hφ=> ?_) ?_
     ·simp only[knowsV]at hkn
      try simp only[and_true]at hkn
      obtain⟨W4,_,a1,A1,c1,hv,how⟩:=hkn.1 (by decide);have how:=how.keeps (a1.at_ ⟨1, [6], [10], [6], [10]⟩);exact opOk_append_N elemSub encSb rfl (.tmp 53) (.tmp 56) rfl w5.heap.size (.slice A1 (L.take j++ [s]).length c1) A' (L.drop m).length (cap - m) (L.take j++ [s]) (L.drop m) rfl ((show _=vals 53 by kernel_rfl).trans hv) (by kernel_rfl) how ((HL2.out _ (hW.c (Keeps.refl _ _))).lies encSb) (by have:=HB.out.2.1;rw[List.length_append,HSZ.out.1,HSZ.out.2];have:=HJL.out;simp;omega) (hW.c (Keeps.refl _ _)).size (fun A'' c'' w' ho hk _=>⟨.off (fun hh=>hh.trans hk (fun y hy hlt=>by have:=(how.rows y hy).1;omega)),hφ.out _ _ ⟨A'',c'',rfl,ho⟩⟩)
     simp only[addEnt];refine loosev_q LH 11 (.bool (mtHas L s.f s.c)) rfl (fun _=>by kernel_rfl) (fun W vals=>by rw[HZ.out];kernel_rfl) ?_;refine loosev_q LH 12 (.bool (!mtHas L s.f s.c)) rfl (fun _=>by kernel_rfl) (fun W vals=>by rw[HZ.out];kernel_rfl) ?_;simp only[addEnt];refine loosev_has 13 (fun v W' =>∃A c,v= .slice A ((L.take j++ [s])++L.drop m).length c∧OwnN W' w5.heap.size 25 3 sbC (.slice A ((L.take j++ [s])++L.drop m).length c) ((L.take j++ [s])++L.drop m)) rfl (fun W vals hW hkn φ' hφ=> ?_) ?_
     ·simp only[knowsV]at hkn
      try simp only[and_true]at hkn
      obtain⟨W4,_,a1,A1,c1,hv,how⟩:=hkn.1 (by decide);have how:=how.keeps (a1.at_ ⟨2, [6,10], [], [10,13], [13]⟩);refine⟨?_⟩;rw[if_pos (by kernel_rfl)];refine(show(execOp _ _).run _ _= .ok (.value (vals 57)) W by kernel_rfl)▸ ?_;exact⟨LH.stp (Keeps.refl _ _),hφ.out _ _ ⟨A1,c1,hv,how⟩⟩
     simp only[addEnt];refine loosev_nil (fun W9 vals hW hkn=> ?_);simp only[knowsAllV]at hkn
     try simp only[and_true]at hkn
     simp only[fill,Act.put,zsa,zsc,zsz];obtain⟨⟨_,_,a1,AL,cL,hv9,ho9⟩,hrest⟩:=hkn;have HO9:=zh (LsAt.own (ho9.keeps (a1.at_ ⟨2, [6,10], [], [10,13], [13]⟩)));have HK9:=zh (HK5.out.then_ (hW (Keeps.refl _ _)));rw[hv9];clear a1 hv9 hrest hW LH ho9;rw[HZ.out]
     go_wp2_with fail
     go_ret3
     exact⟨HK9.out,_,by rw[HE.out];rfl,by rw[HE.out,HP.out];exact HO9.out⟩
   | true=>
    have HE:=zh (show mtSetA L s=(mtSet L s,false,0)by unfold mtSetA;rw[if_neg (by rw[HFT.out];simp),if_neg (by rw[HSB.out];simp),if_neg (by rw[hz];simp),hz];rfl);have HMJ:=zh (show m=j+1 by rw[←hm,hz];rfl);have HM:=zh (show m≤L.length by rw[HMJ.out];exact(find_parts HB.out.2.2 HJ.out hz).2);have h6:(j:Int)≤400000:=by have:=HJL.out;have:=HB.out.2.1;omega
    have h7:(0:Int)≤j:=by omega
    clear hz hm
    go_upto_region 11 with fail
    clear h6 h7;have HSZ:=zh (show(L.take j).length=j∧(L.drop m).length=L.length - m from⟨by rw[List.length_take];have:=HJL.out;omega,by rw[List.length_drop]⟩);have LH:LightV [⟨0, [], [6,10], [3,5], [6]⟩,⟨1, [6], [10], [6], [10]⟩,⟨2, [6,10], [], [10,13], [13]⟩] (fun W W' =>Keeps w5 W []→Keeps w5 W' []) (fun _=>KeepsAll):= .all (keepIfM_ok w5) keepsAll_ok;obtain⟨A',hA'⟩:∃A',(if cap=m then A else A.map (·.add (m*3)))=A' :=⟨_,rfl⟩;have HA' :=zh hA';have HL1:=zh (show∀W,Keeps w5 W []→ListAt W 25 3 sbC A (L.take j)from fun W hk=>(HLA.out.keeps (HK5.out.then_ hk)).take j);have HL2:=zh (show∀W,Keeps w5 W []→ListAt W 25 3 sbC A' (L.drop m)from fun W hk=>by
     rw[←HA'.out];exact listAt_drop (HLA.out.keeps (HK5.out.then_ hk)) HB.out.1)
    clear hA';refine wp_region_ivs [⟨0, [], [6,10], [3,5], [6]⟩,⟨1, [6], [10], [6], [10]⟩,⟨2, [6,10], [], [10,13], [13]⟩] (fun W W' =>Keeps w5 W []→Keeps w5 W' []) (fun _=>KeepsAll) _ 14 LH (by kernel_rfl) rfl (by kernel_rfl) ?_;simp only[zts,ztz,zds,zdz];refine loosev_q LH 0 (.slice A L.length cap) rfl (fun _=>by kernel_rfl) (fun W vals=>by kernel_rfl) ?_;refine loosev_q LH 1 (.int .i64 (j:Nat)) rfl (fun _=>by kernel_rfl) (fun W vals=>by kernel_rfl) ?_;refine loosev_q LH 2 (.slice A (L.take j).length cap) rfl (fun _=>by kernel_rfl) (fun W vals=>by rw[sbSliceH (x:= .tmp 47) (hi:= .tmp 48) (a:=A) (len:=L.length) (cap:=cap) (l:=j) (kl:= .i64) rfl (by kernel_rfl) (by kernel_rfl) (by have:=HJL.out;have:=HB.out.1;omega),HSZ.out.1]) ?_;simp only[addEnt];refine loosev_has 3 (fun v W' =>∃A c,v= .slice A (L.take j).length c∧OwnN W' w5.heap.size 25 3 sbC (.slice A (L.take j).length c) (L.take j)) rfl (fun W vals hW hkn φ' hφ=> ?_) ?_
    ·clear hkn
     exact opOk_append_N elemSub encSb rfl (Operand.const (.slice none 0 0)) (.tmp 49) rfl w5.heap.size (.slice none 0 0) A (L.take j).length cap [] (L.take j) rfl (by kernel_rfl) (by kernel_rfl) (OwnN.nil _ _ _ _ _) ((HL1.out _ (hW.c (Keeps.refl _ _))).lies encSb) (by have:=HB.out.2.1;have:=HJL.out;rw[HSZ.out.1];simp;omega) (hW.c (Keeps.refl _ _)).size (fun A' c' w' ho hk _=>⟨LH.stp hk,hφ.out _ _ ⟨A',c',rfl,ho⟩⟩)
    simp only[addEnt];apply loosev_is 4 _ rfl
    ·intro W vals hW hkn
     have hC:=hW.c;simp only[knowsV]at hkn
     try simp only[and_true]at hkn
     clear hkn;have hr:=HR5.out.keeps (hC (Keeps.refl _ _));have m0:=hr.cell 0;have m1:=hr.cell 1;have m2:=hr.cell 2;simp only[zga,zgz,zgs]at m0 m1 m2;refine⟨?_⟩;simp only[fill];go_simp
     first | exact⟨LH.stp (Keeps.refl _ _),rfl⟩ | exact⟨LH.stp (Keeps.alloc _ _),rfl⟩
    simp only[addEnt];refine loosev_has 5 (fun v W' =>∃g,v= .slice (some ⟨g,0,none⟩) 1 1∧Row W' g 25 #[.string F,.string C,.int .i64 q]) rfl (fun W vals hW hkn φ' hφ=> ?_) ?_
    ·have hC:=hW.c
     simp only[knowsV]at hkn
     try simp only[and_true]at hkn
     clear hkn;refine⟨?_⟩;simp only[fill];go_simp;exact⟨LH.stp (Keeps.alloc _ _),hφ.out _ _ ⟨_,rfl,Row.new _ _ _⟩⟩
    simp only[addEnt];refine loosev_has 6 (fun v W' =>∃A c,v= .slice A (L.take j++ [s]).length c∧OwnN W' w5.heap.size 25 3 sbC (.slice A (L.take j++ [s]).length c) (L.take j++ [s])) rfl (fun W vals hW hkn φ' hφ=> ?_) ?_
    ·simp only[knowsV]at hkn
     try simp only[and_true]at hkn
     obtain⟨k5,k3⟩:=hkn;obtain⟨W5,_,b1,g,hv5,hr5⟩:=k5 (by decide);obtain⟨W4,_,a1,A1,c1,hv,how⟩:=k3 (by decide);have how:=how.keeps (a1.at_ ⟨0, [], [6,10], [3,5], [6]⟩);have hr5:=hr5.keeps (b1.at_ ⟨0, [], [6,10], [3,5], [6]⟩);have hls:Lies W W.heap.size (some ⟨g,0,none⟩) ([s].flatMap sbC):=by
      refine(listAt_row encSb (by rw[sbC_row,HFC.out.1,HFC.out.2.1,HFC.out.2.2];exact hr5)).lies encSb
     exact opOk_append_N elemSub encSb rfl (.tmp 50) (.tmp 52) rfl w5.heap.size (.slice A1 (L.take j).length c1) (some ⟨g,0,none⟩) 1 1 (L.take j) [s] rfl ((show _=vals 50 by kernel_rfl).trans hv) ((show _=vals 52 by kernel_rfl).trans hv5) how hls (by have:=HB.out.2.1;rw[HSZ.out.1];have:=HJL.out;simp;omega) (hW.c (Keeps.refl _ _)).size (fun A'' c'' w' ho hk _=>⟨.off (fun hh=>hh.trans hk (fun y hy hlt=>by have:=(how.rows y hy).1;omega)),hφ.out _ _ ⟨A'',c'',rfl,ho⟩⟩)
    simp only[addEnt];refine loosev_q LH 7 (.slice A L.length cap) rfl (fun _=>by kernel_rfl) (fun W vals=>by kernel_rfl) ?_;refine loosev_q LH 8 (.int .i64 (m:Nat)) rfl (fun _=>by kernel_rfl) (fun W vals=>by rw[HMJ.out];kernel_rfl) ?_;refine loosev_q LH 9 (.slice A' (L.drop m).length (cap - m)) rfl (fun _=>by kernel_rfl) (fun W vals=>by rw[sbSliceL (x:= .tmp 54) (lo:= .tmp 55) (a:=A) (len:=L.length) (cap:=cap) (l:=m) (kl:= .i64) rfl (by kernel_rfl) (by kernel_rfl) HM.out,HA'.out,HSZ.out.2]) ?_;simp only[addEnt];refine loosev_has 10 (fun v W' =>∃A c,v= .slice A ((L.take j++ [s])++L.drop m).length c∧OwnN W' w5.heap.size 25 3 sbC (.slice A ((L.take j++ [s])++L.drop m).length c) ((L.take j++ [s])++L.drop m)) rfl (fun W vals hW hkn φ' hφ=> ?_) ?_
    ·simp only[knowsV]at hkn
     try simp only[and_true]at hkn
     obtain⟨W4,_,a1,A1,c1,hv,how⟩:=hkn.1 (by decide);have how:=how.keeps (a1.at_ ⟨1, [6], [10], [6], [10]⟩);exact opOk_append_N elemSub encSb rfl (.tmp 53) (.tmp 56) rfl w5.heap.size (.slice A1 (L.take j++ [s]).length c1) A' (L.drop m).length (cap - m) (L.take j++ [s]) (L.drop m) rfl ((show _=vals 53 by kernel_rfl).trans hv) (by kernel_rfl) how ((HL2.out _ (hW.c (Keeps.refl _ _))).lies encSb) (by have:=HB.out.2.1;rw[List.length_append,HSZ.out.1,HSZ.out.2];have:=HJL.out;simp;omega) (hW.c (Keeps.refl _ _)).size (fun A'' c'' w' ho hk _=>⟨.off (fun hh=>hh.trans hk (fun y hy hlt=>by have:=(how.rows y hy).1;omega)),hφ.out _ _ ⟨A'',c'',rfl,ho⟩⟩)
    simp only[addEnt];refine loosev_q LH 11 (.bool (mtHas L s.f s.c)) rfl (fun _=>by kernel_rfl) (fun W vals=>by rw[HZ.out];kernel_rfl) ?_;refine loosev_q LH 12 (.bool (!mtHas L s.f s.c)) rfl (fun _=>by kernel_rfl) (fun W vals=>by rw[HZ.out];kernel_rfl) ?_;simp only[addEnt];refine loosev_has 13 (fun v W' =>∃A c,v= .slice A ((L.take j++ [s])++L.drop m).length c∧OwnN W' w5.heap.size 25 3 sbC (.slice A ((L.take j++ [s])++L.drop m).length c) ((L.take j++ [s])++L.drop m)) rfl (fun W vals hW hkn φ' hφ=> ?_) ?_
    ·simp only[knowsV]at hkn
     try simp only[and_true]at hkn
     obtain⟨W4,_,a1,A1,c1,hv,how⟩:=hkn.1 (by decide);have how:=how.keeps (a1.at_ ⟨2, [6,10], [], [10,13], [13]⟩);refine⟨?_⟩;rw[if_pos (by kernel_rfl)];refine(show(execOp _ _).run _ _= .ok (.value (vals 57)) W by kernel_rfl)▸ ?_;exact⟨LH.stp (Keeps.refl _ _),hφ.out _ _ ⟨A1,c1,hv,how⟩⟩
    simp only[addEnt];refine loosev_nil (fun W9 vals hW hkn=> ?_);simp only[knowsAllV]at hkn
    try simp only[and_true]at hkn
    simp only[fill,Act.put,zsa,zsc,zsz];obtain⟨⟨_,_,a1,AL,cL,hv9,ho9⟩,hrest⟩:=hkn;have HO9:=zh (LsAt.own (ho9.keeps (a1.at_ ⟨2, [6,10], [], [10,13], [13]⟩)));have HK9:=zh (HK5.out.then_ (hW (Keeps.refl _ _)));rw[hv9];clear a1 hv9 hrest hW LH ho9;rw[HZ.out]
    go_wp2_with fail
    go_ret3
    exact⟨HK9.out,_,by rw[HE.out];rfl,by rw[HE.out,HP.out];exact HO9.out⟩
end Go.Proofs.YtoadlafdeoklbaaGreatDoor
