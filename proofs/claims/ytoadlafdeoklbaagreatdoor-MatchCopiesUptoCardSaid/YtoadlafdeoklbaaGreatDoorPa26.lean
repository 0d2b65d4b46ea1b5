/- Package match: an entry is set. -/
import Derived.Test.YtoadlafdeoklbaaGreatDoorPa25

namespace Go.Proofs.YtoadlafdeoklbaaGreatDoor
open Go.RowKit Go.Maps Go.Shelf

theorem mtFilter_any (w:World)(s:List UInt8)(hs:s.length≤50000)(hm:MaxL w):Calls Tryz.prog 34 #[.string ⟨s.toArray⟩] w (TruePost w (tFilter s)):=
 callsIn_wide.1 (tFilter_in 4 (by omega) w s hs hm)
/-- An entry's block, new and filled. -/
def sO1:Obj:= .cells #[.string ⟨#[]⟩,.string ⟨#[]⟩,.int .i64 0] 25 (0,0)
def sO2 (f1 f2 f3:Value):Obj:= .cells #[f1,f2,f3] 25 (0,0)
theorem sFill {B:Nat}{f1 f2 f3:Value}{W:World}{b:Nat}(hB:B≤b)(h:W.heap[b]? =some sO1∨W.heap[b]? =some (sO2 f1 f2 f3)):
  KeepsF B sO1 (sO2 f1 f2 f3) W (((W.setCell ⟨b,0,none⟩ f1).setCell ⟨b,1,none⟩ f2).setCell ⟨b,2,none⟩ f3)∧(((W.setCell ⟨b,0,none⟩ f1).setCell ⟨b,1,none⟩ f2).setCell ⟨b,2,none⟩ f3).heap[b]? =some (sO2 f1 f2 f3):=by
 have hk:Keeps W (((W.setCell ⟨b,0,none⟩ f1).setCell ⟨b,1,none⟩ f2).setCell ⟨b,2,none⟩ f3) [b]:=((Keeps.setCell _ _ _).trans (Keeps.setCell _ _ _) (by simp)).trans (Keeps.setCell _ _ _) (by simp);have hr:Row (((W.setCell ⟨b,0,none⟩ f1).setCell ⟨b,1,none⟩ f2).setCell ⟨b,2,none⟩ f3) b 25 #[f1,f2,f3]:=by
  rcases h with h | h
  ·exact(((show Row W b 25 #[.string ⟨#[]⟩,.string ⟨#[]⟩,.int .i64 0]from h).store 0 f1).store 1 f2).store 2 f3
  ·exact(((show Row W b 25 #[f1,f2,f3]from h).store 0 f1).store 1 f2).store 2 f3
 exact⟨KeepsF.fill hk hB h hr,hr⟩
theorem sCell {f1 f2 f3:Value}{W:World}{b:Nat}(h:W.heap[b]? =some sO1∨W.heap[b]? =some (sO2 f1 f2 f3)):
  ∃v1 v2 v3,W.cell? ⟨b,0,none⟩=some v1∧W.cell? ⟨b,1,none⟩=some v2∧W.cell? ⟨b,2,none⟩=some v3∧∀i,W.frozen? ⟨b,i,none⟩=false:=by
 rcases h with h | h
 ·have hr:Row W b 25 #[.string ⟨#[]⟩,.string ⟨#[]⟩,.int .i64 0]:=h
  exact⟨_,_,_,hr.cell 0,hr.cell 1,hr.cell 2,hr.frozen⟩
 ·have hr:Row W b 25 #[f1,f2,f3]:=h
  exact⟨_,_,_,hr.cell 0,hr.cell 1,hr.cell 2,hr.frozen⟩
theorem SMap.fills {P:Program}{k:TypeId}{B:Nat}{O2:Obj}{W W' :World}{b:Nat}{f:List UInt8→Option Value}(h:SMap W P k b f)(hk:KeepsF B sO1 O2 W W'):SMap W' P k b f:=by
 obtain⟨D,⟨es,clock,hb',F,hs,hD⟩,hT⟩:=h;exact⟨D,⟨es,clock,hk.other hb' (by simp[sO1]),F,hs,hD⟩,hT⟩
theorem Row.fills {B:Nat}{O2:Obj}{W W' :World}{g:Nat}{t:TypeId}{cs:Array Value}(h:Row W g t cs)(hk:KeepsF B sO1 O2 W W')(ht:t≠25):Row W' g t cs:=
 hk.other h fun e=>by
  unfold sO1 at e;injection e with _ e
  exact ht e
/-- A node, and its entries. -/
structure NdAt (L:List Sb)(p:Path)(W:World)(n:Nd):Prop where
 row:Row W n.b 75 (ndRow n)
 here:HereM W n.h (hereF L p)
/-- What Set needs to know of the entry. -/
theorem stand_here {L:List Sb}{p:Path}(h:¬Stand L p)(c:List UInt8):hereF L p c=none:=by
 rw[hereF_none];intro x hx e;exact h (.inr ⟨x,hx,by rw[e.1];exact List.prefix_refl _⟩)
theorem mtAtNo_any {W:World}{B d:Nat}{L:List Sb}{S:List Path}{N:Path→Nd}(h:BookAt W B d L S N)(p:Path)(A:Option Addr)(c:Nat)(hL:Lies W W.heap.size A (txL p))(hs:∀x∈p,x.length≤100000)(hl:p.length≤100000):
  Calls Tryz.prog 36 #[ptr0 (N []).b,.slice A p.length c,.bool false] W fun e w' =>∃n,e= .returned (ptr0 n.b)∧NdAt L p w' n∧Keeps W w' []∧(p∈S→n=N p∧w' =W):=by
 refine(mtAt_no W B S _ N h.tree p A c hL hs hl).mono ?_;rintro e w' ⟨n,rfl,⟨hp,rfl,rfl⟩ | ⟨hp,hf⟩⟩
 ·exact⟨_,rfl,⟨h.tree.row p hp,h.tree.here p hp⟩,Keeps.refl _ _,fun _=>⟨rfl,rfl⟩⟩
 ·refine⟨n,rfl,⟨hf.row,hf.here.congr fun c=> ?_⟩,hf.k,fun e=>absurd e hp⟩
  rw[stand_here (fun e=>hp ((h.st p).2 e)) c]
/-- Cells stay. -/
structure CellGo (w w' :World):Prop where
 z:w.heap.size≤w'.heap.size
 row:∀g t cs,Row w g t cs→Row w' g t cs
theorem CellGo.ok:RelOk CellGo:=⟨fun h=>⟨h.size,fun _ _ _ hr=>hr.keeps h⟩,fun h k=>⟨Nat.le_trans h.z k.z,fun g t cs hr=>k.row g t cs (h.row g t cs hr)⟩⟩
section
variable {W W0 wr wr' :World} {B:Nat} {S S' :List Path} {E:Path→List UInt8→Option Sb} {N N' :Path→Nd} {p:Path}
theorem AtUp.from (h:AtUp W wr B S E N p S' N')(hk:Keeps W0 W []):AtUp W0 wr B S E N p S' N' :=
 ⟨h.tree,h.mem,h.old,fun q hq hn=>by have:=h.new q hq hn;have:=hk.size;exact⟨by omega,by omega,by omega⟩,(hk.weaken (by simp)).trans h.k (fun _ h _=>h),h.le⟩
theorem AtUp.keeps (h:AtUp W wr B S E N p S' N')(hk:Keeps wr wr' []):AtUp W wr' B S E N p S' N' :=⟨h.tree.keeps hk,h.mem,h.old,h.new,h.k.then_ hk,h.le⟩
/-- An entry is laid into a node. -/
theorem AtUp.entry (h:AtUp W wr B S E N p S' N'){E' :Path→List UInt8→Option Sb}(hm:HereM wr' (N' p).h (E' p))(hk:Keeps wr wr' [(N' p).h])(hE:∀q,q≠p→E' q=E q)(ek:∀q,∃l:List (List UInt8),(∀c,E' q c≠none→c∈l)∧l.length≤100000):TreeAt wr' B S' E' N' :=by
 have T:=h.tree;have hp:=h.here;refine⟨T.root,T.up,fun q hq=>(T.row q hq).keep hk (fun e=>smap_ne_row (T.here p hp) (T.row q hq) (List.mem_singleton.1 e).symm),fun q hq=> ?_,fun q hq=>(T.kids q hq).keep hk (fun e=>T.hk p hp q hq (List.mem_singleton.1 e).symm),T.base,T.hk,T.hh,T.kk,T.le,ek⟩
 by_cases e:q=p
 ·rw[e]
  exact hm
 ·rw[hE q e]
  exact(T.here q hq).keep hk (fun e2=>e (T.hh q hq p hp (List.mem_singleton.1 e2)))
end
theorem here_keys {L:List Sb}(h:MtOk L)(p:Path):∃l:List (List UInt8),(∀c,hereF L p c≠none→c∈l)∧l.length≤100000:=by
 refine⟨L.map (·.c),fun c hc=> ?_,by rw[List.length_map];have:=h.le;omega⟩
 cases hf:hereF L p c with
 | none=>exact absurd hf hc
 | some x=>
  have:=(hereF_iff h.up).1 hf;exact List.mem_map.2 ⟨x,this.1,this.2.2⟩
theorem set_tree {W w9 w10:World}{B:Nat}{L:List Sb}{S' :List Path}{N N' :Path→Nd}{s:Sb}(hL:MtOk L)(hL' :MtOk (mtSet L s))(hup:AtUp W w9 B (mtAll L) (hereF L) N (tLev s.f) S' N')(hm:SMap w10 Tryz.prog 9 (N' (tLev s.f)).h (updS (fun c=>(hereF L (tLev s.f) c).map sbV) s.c (some (sbV s))))(hk:Keeps w9 w10 [(N' (tLev s.f)).h]):
  TreeAt w10 B S' (hereF (mtSet L s)) N' ∧∀p,p∈S' ↔Stand (mtSet L s) p:=by
 refine⟨hup.entry (hm.congr fun c=> ?_) hk (fun q hq=>funext fun c=> ?_) (here_keys hL'),fun p=> ?_⟩
 ·rw[hereF_set hL.up]
  unfold updS
  by_cases hc:c=s.c
  ·rw[if_pos hc,if_pos ⟨rfl,hc⟩]
   rfl
  ·rw[if_neg hc,if_neg (fun e=>hc e.2)]
 ·rw[hereF_set hL.up,if_neg (fun e=>hq e.1)]
 ·rw[hup.mem,mem_mtAll,stand_set]
theorem set_go {V W w9 w10 wF:World}{B d:Nat}{L L' :List Sb}{E:Path→List UInt8→Option Sb}{S' :List Path}{N N' :Path→Nd}{p:Path}{X:List Nat}(hBd:B≤d)(hX:∀s,s∈X↔s=d∨s∈bks (mtAll L) N)(hk:Keeps V W [])(hup:AtUp W w9 B (mtAll L) E N p S' N')(hk10:Keeps w9 w10 [(N' p).h])(hkF:Keeps w10 wF [d])(hbook:BookAt wF B d L' S' N'):BkGo B V wF d L' X (d::bks S' N'):=by
 have hz:=hk.size;refine⟨⟨S',N',hbook,hBd,fun s=>List.mem_cons⟩, ?_,fun s hs=> ?_⟩
 ·refine((((hk.weaken (by simp)).trans hup.k (fun y hy hlt=> ?_)).trans hk10 (fun y hy hlt=> ?_))).trans hkF (fun y hy _=> ?_)
  ·exact(hX y).2 (.inr (mks_bks hy))
  ·rw[List.mem_singleton.1 hy]at hlt ⊢
   rcases hup.base (N' p).h (mem_bks.2 ⟨p,hup.here,.inr (.inl rfl)⟩)with h1 | h1
   ·exact(hX _).2 (.inr h1)
   ·omega
  ·rw[List.mem_singleton.1 hy]
   exact(hX d).2 (.inl rfl)
 ·rcases List.mem_cons.1 hs with rfl | hs
  ·exact .inl ((hX s).2 (.inl rfl))
  ·rcases hup.base s hs with h1 | h1
   ·exact .inl ((hX s).2 (.inr h1))
   ·exact .inr (by omega)
theorem opt_getD (o:Option Sb):(o.map sbV).getD (sbV sbZ)=sbV (o.getD sbZ):=by cases o <;> rfl
theorem opt_is (o:Option Sb):(o.map sbV).isSome=o.isSome:=by cases o <;> rfl
def SetPost (B:Nat)(W:World)(d:Nat)(L:List Sb)(X:List Nat)(s:Sb)(e:Ending)(w' :World):Prop:=
 e= .returned (.tuple #[.bool (mtSetA L s).2.1,.int .i64 (mtSetA L s).2.2])∧∃X',BkGo B W w' d (mtSetA L s).1 X X'
theorem sub_bad {s:Sb}(h:mtSubOk s=false):mtCl s.c=false∨(mtCl s.c=true∧s.q < 0)∨(mtCl s.c=true∧0≤s.q∧2 < s.q):=by
 unfold mtSubOk at h
 cases hc:mtCl s.c with
 | false=>exact .inl rfl
 | true=>
  rw[hc,Bool.true_and,Bool.and_eq_false_iff,decide_eq_false_iff_not,decide_eq_false_iff_not]at h
  by_cases h0:s.q < 0
  ·exact .inr (.inl ⟨rfl,h0⟩)
  ·exact .inr (.inr ⟨rfl,by omega,by omega⟩)
theorem sub_good {s:Sb}(h:mtSubOk s=true):mtCl s.c=true∧0≤s.q∧s.q≤2:=by
 unfold mtSubOk at h;simp at h;exact⟨h.1,h.2.1,h.2.2⟩
set_option maxRecDepth 100000 in
set_option maxHeartbeats 4000000 in
theorem mtSet_any (B:Nat)(V:World)(d:Nat)(L:List Sb)(X:List Nat)(h:Bk B V d L X)(hm:MaxL V)(s:Sb)(hs:s.f.length≤50000)(hc:s.c.length≤9223372036854775807):
  Calls Tryz.prog 12 #[ptr0 d,sbV s] V (SetPost B V d L X s):=by
 cases hft:tFilter s.f with
 | false=>
  have HE:=zh (show mtSetA L s=(L,false,230)by unfold mtSetA;rw[if_pos hft]);obtain⟨F,hF⟩:∃S:ByteArray,(⟨s.f.toArray⟩:ByteArray)=S:=⟨_,rfl⟩;obtain⟨C,hC⟩:∃S:ByteArray,(⟨s.c.toArray⟩:ByteArray)=S:=⟨_,rfl⟩;obtain⟨q,hq⟩:∃q,s.q=q:=⟨_,rfl⟩;obtain⟨W1,hW1⟩:∃W1,V.alloc (.cells #[.string F,.string C,.int .i64 q] 25)=W1:=⟨_,rfl⟩;have HK1:=zh (show Keeps V W1 []by rw[←hW1];exact Keeps.alloc _ _);have HR1:=zh (show Row W1 V.heap.size 25 #[.string F,.string C,.int .i64 q]by rw[←hW1];exact Row.new _ _ _);have HFC:=zh (And.intro hF (And.intro hC hq));have HLS:=zh hs;have HBK:=zh h;have HM:=zh hm;obtain⟨rr,hrr⟩:=h.row;have HNN:=zh (fun(w:World) (hk:Keeps V w [])=>mtNone_at w d _ _ (hrr.keeps hk));have HFI:=zh (fun(w:World) (hk:Keeps V w [])=>mtFilter_any w s.f hs (hm.keeps hk));have HCL:=zh (fun(w:World)=>mtClient_any w s.c hc);rw[hF]at HFI;rw[hC]at HCL;unfold sbV;rw[hF,hC,hq];clear hF hC hq hrr;rw[hft]at HFI;clear hft h hm hs hc
  go_enter Tryz.func12,Tryz.ntmps12
  go_upto_region 1 with fail
  try rw[hW1]
  clear hW1
  go_wp2_with fail
  refine(HNN.out _ HK1.out).mono ?_;rintro e w2 ⟨rfl,rfl⟩;have c0:=HR1.out.cell 0;simp only[zga,zgz]at c0
  go_wp2_with fail
  refine(HFI.out _ HK1.out).mono ?_;rintro e w3 ⟨rfl,hk⟩;have HK3:=zh (HK1.out.then_ hk);clear hk c0
  go_wp2_with fail
  go_ret2
  refine⟨?_,X, ?_⟩
  ·rw[HE.out]
   rfl
  ·rw[HE.out]
   exact BkGo.same HBK.out HK3.out
 | true=>
  have HLP:=zh (show(∀x∈tLev s.f,x.length≤100000)∧(tLev s.f).length≤100000 from⟨fun x hx=>by have:=tLev_size hx;omega,by have:=tLev_len s.f;omega⟩)
  cases hsb:mtSubOk s with
  | false=>
   have HE:=zh (show mtSetA L s=(L,false,2)by unfold mtSetA;rw[if_neg (by rw[hft];simp),if_pos hsb]);have hbad:=sub_bad hsb;obtain⟨F,hF⟩:∃S:ByteArray,(⟨s.f.toArray⟩:ByteArray)=S:=⟨_,rfl⟩;obtain⟨C,hC⟩:∃S:ByteArray,(⟨s.c.toArray⟩:ByteArray)=S:=⟨_,rfl⟩;obtain⟨q,hq⟩:∃q,s.q=q:=⟨_,rfl⟩;obtain⟨W1,hW1⟩:∃W1,V.alloc (.cells #[.string F,.string C,.int .i64 q] 25)=W1:=⟨_,rfl⟩;have HK1:=zh (show Keeps V W1 []by rw[←hW1];exact Keeps.alloc _ _);have HR1:=zh (show Row W1 V.heap.size 25 #[.string F,.string C,.int .i64 q]by rw[←hW1];exact Row.new _ _ _);have HFC:=zh (And.intro hF (And.intro hC hq));have HLS:=zh hs;have HBK:=zh h;have HM:=zh hm;obtain⟨rr,hrr⟩:=h.row;have HNN:=zh (fun(w:World) (hk:Keeps V w [])=>mtNone_at w d _ _ (hrr.keeps hk));have HFI:=zh (fun(w:World) (hk:Keeps V w [])=>mtFilter_any w s.f hs (hm.keeps hk));have HCL:=zh (fun(w:World)=>mtClient_any w s.c hc);rw[hF]at HFI;rw[hC]at HCL;unfold sbV;rw[hF,hC,hq];clear hF hC hq hrr;rw[hft]at HFI;have hbad2:mtCl s.c=false∨(mtCl s.c=true∧q < 0)∨(mtCl s.c=true∧0≤q∧2 < q):=by rw[←HFC.out.2.2];exact hbad
   clear hft h hm hs hc hsb hbad HLP
   go_enter Tryz.func12,Tryz.ntmps12
   go_upto_region 1 with fail
   try rw[hW1]
   clear hW1
   go_wp2_with fail
   refine(HNN.out _ HK1.out).mono ?_;rintro e w2 ⟨rfl,rfl⟩;have c0:=HR1.out.cell 0;simp only[zga,zgz]at c0
   go_wp2_with fail
   refine(HFI.out _ HK1.out).mono ?_;rintro e w3 ⟨rfl,hk⟩;have HK3:=zh (HK1.out.then_ hk);have HR3:=zh (HR1.out.keeps hk);clear hk c0 HFI HNN;have c0:=HR3.out.cell 0;have c1:=HR3.out.cell 1;have c2:=HR3.out.cell 2;simp only[zga,zgz,zgs]at c0 c1 c2
   rcases hbad2 with hb | ⟨hb,h0⟩ | ⟨hb,h0,h2⟩
   ·rw[hb]at HCL
    clear hb
    go_wp2_with fail
    refine(HCL.out _).mono ?_;rintro e w4 ⟨rfl,rfl⟩
    go_wp2_with fail
    go_ret2
    refine⟨?_,X, ?_⟩
    ·rw[HE.out]
     rfl
    ·rw[HE.out]
     exact BkGo.same HBK.out HK3.out
   ·rw[hb]at HCL
    have d1:decide (q < 0)=true:=decide_eq_true h0;clear hb
    go_wp2_with fail
    refine(HCL.out _).mono ?_;rintro e w4 ⟨rfl,rfl⟩
    go_wp2_with fail
    go_ret2
    refine⟨?_,X, ?_⟩
    ·rw[HE.out]
     rfl
    ·rw[HE.out]
     exact BkGo.same HBK.out HK3.out
   ·rw[hb]at HCL
    have d1:decide (q < 0)=false:=decide_eq_false (by omega);have d2:decide (q > 2)=true:=decide_eq_true h2;clear hb h0 h2
    go_wp2_with fail
    refine(HCL.out _).mono ?_;rintro e w4 ⟨rfl,rfl⟩
    go_wp2_with fail
    go_ret2
    refine⟨?_,X, ?_⟩
    ·rw[HE.out]
     rfl
    ·rw[HE.out]
     exact BkGo.same HBK.out HK3.out
  | true=>
   have hgood:=sub_good hsb;have HSB:=zh hsb;have HFT:=zh hft;obtain⟨F,hF⟩:∃S:ByteArray,(⟨s.f.toArray⟩:ByteArray)=S:=⟨_,rfl⟩;obtain⟨C,hC⟩:∃S:ByteArray,(⟨s.c.toArray⟩:ByteArray)=S:=⟨_,rfl⟩;obtain⟨q,hq⟩:∃q,s.q=q:=⟨_,rfl⟩;obtain⟨W1,hW1⟩:∃W1,V.alloc (.cells #[.string F,.string C,.int .i64 q] 25)=W1:=⟨_,rfl⟩;have HK1:=zh (show Keeps V W1 []by rw[←hW1];exact Keeps.alloc _ _);have HR1:=zh (show Row W1 V.heap.size 25 #[.string F,.string C,.int .i64 q]by rw[←hW1];exact Row.new _ _ _);have HFC:=zh (And.intro hF (And.intro hC hq));have HLS:=zh hs;have HBK:=zh h;have HM:=zh hm;obtain⟨rr,hrr⟩:=h.row;have HNN:=zh (fun(w:World) (hk:Keeps V w [])=>mtNone_at w d _ _ (hrr.keeps hk));have HFI:=zh (fun(w:World) (hk:Keeps V w [])=>mtFilter_any w s.f hs (hm.keeps hk));have HCL:=zh (fun(w:World)=>mtClient_any w s.c hc);rw[hF]at HFI;rw[hC]at HCL;unfold sbV;rw[hF,hC,hq];clear hF hC hq hrr;rw[hft]at HFI;obtain⟨hb,h0,h2⟩:mtCl s.c=true∧0≤q∧q≤2:=by rw[←HFC.out.2.2];exact hgood
   rw[hb]at HCL;have d1:decide (q < 0)=false:=decide_eq_false (by omega);have d2:decide (q > 2)=false:=decide_eq_false (by omega);have HCZ:=zh (show s.c.length≤100000 from by unfold mtCl at hb;simp at hb;omega);clear hft h hm hs hc hsb hgood h0 h2 hb
   go_enter Tryz.func12,Tryz.ntmps12
   go_upto_region 1 with fail
   try rw[hW1]
   clear hW1
   go_wp2_with fail
   refine(HNN.out _ HK1.out).mono ?_;rintro e w2 ⟨rfl,rfl⟩;have c0:=HR1.out.cell 0;simp only[zga,zgz]at c0
   go_wp2_with fail
   refine(HFI.out _ HK1.out).mono ?_;rintro e w3 ⟨rfl,hk⟩;have HK3:=zh (HK1.out.then_ hk);have HR3:=zh (HR1.out.keeps hk);clear hk c0 HFI HNN;have c0:=HR3.out.cell 0;have c1:=HR3.out.cell 1;have c2:=HR3.out.cell 2;simp only[zga,zgz,zgs]at c0 c1 c2
   go_wp2_with fail
   refine(HCL.out _).mono ?_;rintro e w4 ⟨rfl,rfl⟩
   go_upto_region 7 with fail
   obtain⟨N,hbk,hBd,hX⟩:=HBK.out.norm;have HBA:=zh (hbk.keeps HK3.out);have HXX:=zh (And.intro hBd hX);have HLV:=zh (show∀w',Keeps w4 w' []→Calls Tryz.prog 37 #[.string F] w' fun e w'' =>e= .returned (.slice (some ⟨w'.heap.size,0,none⟩) (tLev s.f).length (tLev s.f).length)∧w'' =w'.alloc (.cells (txC (tLev s.f)) 9)from fun w' hk=>by
    rw[←HFC.out.1];exact tLevels_any w' s.f (by have:=HLS.out;omega) (HM.out.keeps (HK3.out.then_ hk)))
   have hez:(hereF L (tLev s.f) s.c).isSome=mtHas L s.f s.c:=hereF_has;obtain⟨⟨yf,yc,yq⟩,hy⟩:∃y,(hereF L (tLev s.f) s.c).getD sbZ=y:=⟨_,rfl⟩;obtain⟨YF,hYF⟩:∃S:ByteArray,(⟨yf.toArray⟩:ByteArray)=S:=⟨_,rfl⟩;obtain⟨YC,hYC⟩:∃S:ByteArray,(⟨yc.toArray⟩:ByteArray)=S:=⟨_,rfl⟩;obtain⟨z,hz⟩:∃z,mtHas L s.f s.c=z:=⟨_,rfl⟩;have HZ:=zh hz;have HLK:=zh (show∀(w' :World) (g:Nat),HereM w' g (hereF L (tLev s.f))→(Instr.lookup 72 (.map (some g)) (.string C) true).run Tryz.prog w' = .ok (.tuple #[.agg #[.string YF,.string YC,.int .i64 yq],.bool z]) w' from fun w' g hh=>by
    have h1:=hh.look mtUndStr mtUndHere (zeroSub w') (x:=s.c) (by have:=HCZ.out;simp[maxLen];omega) true;rw[if_pos rfl,show txk s.c= .string C by rw[←HFC.out.2.1]]at h1;refine h1.trans ?_;have e2:((fun c=>(hereF L (tLev s.f) c).map sbV) s.c).getD (sbV sbZ)= .agg #[.string YF,.string YC,.int .i64 yq]:=by
     rw[←hYF,←hYC];show _=sbV ⟨yf,yc,yq⟩;rw[←hy];exact opt_getD _
    have e3:((fun c=>(hereF L (tLev s.f) c).map sbV) s.c).isSome=z:=by
     rw[←hz,←hez];exact opt_is _
    rw[e2,e3])
   have HAN:=zh (show∀(w' :World) (g:Nat),Keeps w4 w' []→Row w' g 9 (txC (tLev s.f))→Calls Tryz.prog 36 #[ptr0 (N []).b,.slice (some ⟨g,0,none⟩) (tLev s.f).length (tLev s.f).length,.bool false] w' fun e w'' =>∃n,e= .returned (ptr0 n.b)∧NdAt L (tLev s.f) w'' n∧Keeps w' w'' []from fun w' g hk hr=>
    (mtAtNo_any (HBA.out.keeps hk) (tLev s.f) _ (tLev s.f).length (txL_lies hr) HLP.out.1 HLP.out.2).mono fun e w'' ⟨n,h1,h2,h3,_⟩=>⟨n,h1,h2,h3⟩)
   obtain⟨pn,hpn⟩:∃pn,(tLev s.f).length=pn:=⟨_,rfl⟩;rw[hpn]at HLV HAN;have HPN:=zh hpn;have MR:=fun(W' :World) (hW:Keeps w4 W' [])=>(HBA.out.row.keeps hW).cell 0
   have MF:=fun(W' :World) (hW:Keeps w4 W' [])=>(HR3.out.keeps hW).cell 0
   have MC:=fun(W' :World) (hW:Keeps w4 W' [])=>(HR3.out.keeps hW).cell 1
   simp only[zga,zgz,zgs]at MR MF MC;clear hbk hBd hX hez hy hYF hYC hz hpn c0 c1 c2 d1 d2;refine wp_region_fills (sO1) (sO2 (.string YF) (.string YC) (.int .i64 yq)) _ (by kernel_rfl) rfl (by kernel_rfl) ?_
   iterate 3
    apply loose_is
    ·intro W vals hW hkn
     clear hkn;have hWF:=zh hW;replace hW:=KeepsF.keeps hW;refine⟨?_⟩;simp only[fill];go_simp
     first | exact⟨KeepsF.refl _,rfl⟩ | exact⟨KeepsF.of (Keeps.alloc _ _),rfl⟩
    simp only[addEnt]
   apply loose_is
   ·intro W vals hW hkn
    simp only[knows]at hkn
    try simp only[and_true]at hkn
    have hWF:=zh hW;replace hW:=KeepsF.keeps hW;clear hkn;have m:=MR W hW;refine⟨?_⟩;simp only[fill];go_simp
    first | exact⟨KeepsF.refl _,rfl⟩ | exact⟨KeepsF.of (Keeps.alloc _ _),rfl⟩
   simp only[addEnt];apply loose_is
   ·intro W vals hW hkn
    clear hkn;have hWF:=zh hW;replace hW:=KeepsF.keeps hW;refine⟨?_⟩;simp only[fill];go_simp
    first | exact⟨KeepsF.refl _,rfl⟩ | exact⟨KeepsF.of (Keeps.alloc _ _),rfl⟩
   simp only[addEnt];apply loose_is
   ·intro W vals hW hkn
    simp only[knows]at hkn
    try simp only[and_true]at hkn
    have hWF:=zh hW;replace hW:=KeepsF.keeps hW;clear hkn;have m:=MF W hW;refine⟨?_⟩;simp only[fill];go_simp
    first | exact⟨KeepsF.refl _,rfl⟩ | exact⟨KeepsF.of (Keeps.alloc _ _),rfl⟩
   simp only[addEnt];refine loose_has (fun v W' =>∃g,v= .slice (some ⟨g,0,none⟩) pn pn∧Row W' g 9 (txC (tLev s.f))) (fun W vals hW hkn φ' hφ=> ?_) ?_
   ·simp only[knows]at hkn
    try simp only[and_true]at hkn
    have hWF:=zh hW;replace hW:=KeepsF.keeps hW;clear hkn;refine⟨?_⟩;simp only[fill];go_simp
    (refine loosef_has hφ ?_;refine(HLV.out W hW).mono ?_;rintro e w2 ⟨rfl,rfl⟩;exact⟨_,rfl,Keeps.alloc _ _,_,rfl,Row.new _ _ _⟩)
   simp only[addEnt];refine loose_has (fun v W' =>∃n,v=ptr0 n.b∧NdAt L (tLev s.f) W' n) (fun W vals hW hkn φ' hφ=> ?_) ?_
   ·simp only[knows]at hkn
    try simp only[and_true]at hkn
    have hWF:=zh hW;replace hW:=KeepsF.keeps hW;obtain⟨W1,h0,h1,g,hv,hr⟩:=hkn (by decide);have hr2:=hr.fills h1 (by decide);refine⟨?_⟩;simp only[fill];go_simp
    (refine loosef_has hφ ?_;refine(HAN.out W g hW hr2).mono ?_;rintro e w2 ⟨n,rfl,h2,h3⟩;exact⟨_,rfl,h3,n,rfl,h2⟩)
   iterate 2
    simp only[addEnt];refine loose_has (fun v W' =>∃n,v=ptr0 n.b∧NdAt L (tLev s.f) W' n) (fun W vals hW hkn φ' hφ=> ?_) ?_
    ·simp only[knows]at hkn
     try simp only[and_true]at hkn
     have hWF:=zh hW;replace hW:=KeepsF.keeps hW;obtain⟨W1,h0,h1,n,hv,hn⟩:=hkn.1 (by decide);refine⟨?_⟩;simp only[fill];go_simp;exact loosef_value hφ (.refl _) ⟨n,rfl,hn.row.fills h1 (by decide),hn.here.fills h1⟩
   simp only[addEnt];refine loose_has (fun v W' =>∃g,v= .map (some g)∧HereM W' g (hereF L (tLev s.f))) (fun W vals hW hkn φ' hφ=> ?_) ?_
   ·simp only[knows]at hkn
    try simp only[and_true]at hkn
    have hWF:=zh hW;replace hW:=KeepsF.keeps hW;obtain⟨W1,h0,h1,n,hv,hn⟩:=hkn.1 (by decide);have hc:=(hn.row.fills h1 (by decide)).cell 0;simp only[ndRow,zga,zgz]at hc;refine⟨?_⟩;simp only[fill];go_simp;exact loosef_value hφ (.refl _) ⟨n.h,rfl,hn.here.fills h1⟩
   simp only[addEnt];apply loose_is
   ·intro W vals hW hkn
    clear hkn;have hWF:=zh hW;replace hW:=KeepsF.keeps hW;refine⟨?_⟩;simp only[fill];go_simp
    first | exact⟨KeepsF.refl _,rfl⟩ | exact⟨KeepsF.of (Keeps.alloc _ _),rfl⟩
   simp only[addEnt];apply loose_is
   ·intro W vals hW hkn
    simp only[knows]at hkn
    try simp only[and_true]at hkn
    have hWF:=zh hW;replace hW:=KeepsF.keeps hW;clear hkn;have m:=MC W hW;refine⟨?_⟩;simp only[fill];go_simp
    first | exact⟨KeepsF.refl _,rfl⟩ | exact⟨KeepsF.of (Keeps.alloc _ _),rfl⟩
   simp only[addEnt];apply loose_is
   ·intro W vals hW hkn
    simp only[knows]at hkn
    try simp only[and_true]at hkn
    have hWF:=zh hW;replace hW:=KeepsF.keeps hW;obtain⟨W1,h0,h1,g,hv,hg⟩:=hkn.1 (by decide);have hlk:=HLK.out W g (hg.fills h1);refine⟨?_⟩;simp only[fill];go_simp
    first | exact⟨KeepsF.refl _,rfl⟩ | exact⟨KeepsF.of (Keeps.alloc _ _),rfl⟩
   iterate 3
    simp only[addEnt];apply loose_is
    ·intro W vals hW hkn
     clear hkn;have hWF:=zh hW;replace hW:=KeepsF.keeps hW;refine⟨?_⟩;simp only[fill];go_simp
     first | exact⟨KeepsF.refl _,rfl⟩ | exact⟨KeepsF.of (Keeps.alloc _ _),rfl⟩
   simp only[addEnt];refine loose_has (fun v W' =>∃b,v= .pointer (some ⟨b,0,none⟩)∧w4.heap.size≤b∧(W'.heap[b]? =some sO1∨W'.heap[b]? =some (sO2 (.string YF) (.string YC) (.int .i64 yq)))) (fun W vals hW hkn φ' hφ=> ?_) ?_
   ·simp only[knows]at hkn
    try simp only[and_true]at hkn
    have hWF:=zh hW;replace hW:=KeepsF.keeps hW;clear hkn;refine⟨?_⟩;simp only[fill];go_simp;exact loosef_value hφ (.of (Keeps.alloc _ _)) ⟨_,rfl,hW.size,.inl (heap_alloc_new _ _)⟩
   simp only[addEnt];refine loose_had [6] (fun rd _ W' =>∃b,rd= [.pointer (some ⟨b,0,none⟩)]∧W'.heap[b]? =some (sO2 (.string YF) (.string YC) (.int .i64 yq))) (by kernel_rfl) (fun W vals hW hkn φ' hφ=> ?_) ?_
   ·simp only[knows]at hkn
    try simp only[and_true]at hkn
    have hWF:=zh hW;replace hW:=KeepsF.keeps hW;obtain⟨W1,h0,h1,b3,hv3,hb3,ho⟩:=hkn.1 (by decide);replace ho:=h1.slot ho;obtain⟨v1,v2,v3,e1,e2,e3,fr⟩:=sCell ho;have HQ:=zh (sFill hb3 ho);have g0:=fr 0;have g1:=fr 1;have g2:=fr 2;clear fr ho;refine⟨?_⟩;simp only[fill];go_simp;exact⟨HQ.out.1,hφ.out _ _ ⟨_,by simp[hv3],HQ.out.2⟩⟩
   simp only[addEnt];apply loose_is
   ·intro W vals hW hkn
    clear hkn;have hWF:=zh hW;replace hW:=KeepsF.keeps hW;refine⟨?_⟩;simp only[fill];go_simp
    first | exact⟨KeepsF.refl _,rfl⟩ | exact⟨KeepsF.of (Keeps.alloc _ _),rfl⟩
   simp only[addEnt];refine loose_nil (fun W vals hW hkn=> ?_);simp only[knowsAll]at hkn
   try simp only[and_true]at hkn
   simp only[fill,Act.put,zsa,zsc,zsz];have HW:=zh (KeepsF.keeps hW);clear hkn hW MR MF MC HAN HLK;have c1:=(HBA.out.row.keeps HW.out).cell 1;simp only[zga,zgz,zgs]at c1
   cases z with
   | true=>
    have HNL:=zh (show¬(mtHas L s.f s.c=false∧4096≤L.length)from fun e=>by rw[HZ.out]at e;cases e.1)
    go_upto_region 10 with fail
    have HB7:=zh (HBA.out.keeps HW.out);have HLV7:=zh (fun w' (hk:Keeps W w' [])=>HLV.out w' (HW.out.then_ hk));have HR7:=zh (HR3.out.keeps HW.out);have HBW:=zh (show B≤W.heap.size from by
     have h1:=(HB7.out.tree.base _ HB7.out.tree.root).1;have h2:=(HB7.out.tree.lt HB7.out.tree.root).1;omega)
    have HAY:=zh (show∀(w' :World) (g:Nat),Keeps W w' []→Row w' g 9 (txC (tLev s.f))→Calls Tryz.prog 36 #[ptr0 (N []).b,.slice (some ⟨g,0,none⟩) pn pn,.bool true] w' fun e w'' =>∃S' N',e= .returned (ptr0 (N' (tLev s.f)).b)∧AtUp W w'' B (mtAll L) (hereF L) N (tLev s.f) S' N' ∧CellGo w' w'' from fun w' g hk hr=>by
     rw[←HPN.out];have hT:=HB7.out.tree.keeps hk;refine(mtAt_yes w' B (mtAll L) (hereF L) N hT (Nat.le_trans HBW.out hk.size) (fun q hq c=>stand_here (fun e=>hq (mem_mtAll.2 e)) c) (tLev s.f) _ (tLev s.f).length (txL_lies hr) HLP.out.1 HLP.out.2 (by have:=mtAll_le HB7.out.ok;omega)).mono ?_;rintro e w'' ⟨S',N',rfl,hup⟩;exact⟨S',N',rfl,hup.from hk,⟨hup.k.size,fun g t cs hr=>mks_row hT hup.k hr⟩⟩)
    have MR:=fun(W' :World) (hC:CellGo W W')=>(hC.row _ _ _ HB7.out.row).cell 0
    have MF:=fun(W' :World) (hC:CellGo W W')=>(hC.row _ _ _ HR7.out).cell 0
    have MC:=fun(W' :World) (hC:CellGo W W')=>(hC.row _ _ _ HR7.out).cell 1
    have MQ:=fun(W' :World) (hC:CellGo W W')=>(hC.row _ _ _ HR7.out).cell 2
    simp only[zga,zgz,zgs]at MR MF MC MQ;have HLK:=zh (show LightK [⟨7, [0,1,2,3,4,5,6], [8,9,10]⟩] CellGo (oneA 7 KeepsAll)from .one CellGo.ok keepsAll_ok);refine wp_region_writersL [⟨7, [0,1,2,3,4,5,6], [8,9,10]⟩] (CellGo) (oneA 7 KeepsAll) _ 14 HLK.out (by kernel_rfl) rfl (by kernel_rfl) ?_;simp only[zts,ztz,zds,zdz];apply loosek_is 0 _ rfl
    ·intro W vals hW hkn
     clear hkn;have hC:=hW.c;refine⟨?_⟩;simp only[fill];go_simp
     first | exact⟨HLK.out.stp (Keeps.refl _ _),rfl⟩ | exact⟨HLK.out.stp (Keeps.alloc _ _),rfl⟩
    simp only[addEnt];apply loosek_is 1 _ rfl
    ·intro W vals hW hkn
     clear hkn;have hC:=hW.c;refine⟨?_⟩;simp only[fill];go_simp
     first | exact⟨HLK.out.stp (Keeps.refl _ _),rfl⟩ | exact⟨HLK.out.stp (Keeps.alloc _ _),rfl⟩
    simp only[addEnt];apply loosek_is 2 _ rfl
    ·intro W vals hW hkn
     clear hkn;have hC:=hW.c;refine⟨?_⟩;simp only[fill];go_simp
     first | exact⟨HLK.out.stp (Keeps.refl _ _),rfl⟩ | exact⟨HLK.out.stp (Keeps.alloc _ _),rfl⟩
    simp only[addEnt];apply loosek_is 3 _ rfl
    ·intro W vals hW hkn
     have hC:=hW.c;simp only[knowsK]at hkn
     try simp only[and_true]at hkn
     clear hkn;have m:=MR W hC;refine⟨?_⟩;simp only[fill];go_simp
     first | exact⟨HLK.out.stp (Keeps.refl _ _),rfl⟩ | exact⟨HLK.out.stp (Keeps.alloc _ _),rfl⟩
    simp only[addEnt];apply loosek_is 4 _ rfl
    ·intro W vals hW hkn
     clear hkn;have hC:=hW.c;refine⟨?_⟩;simp only[fill];go_simp
     first | exact⟨HLK.out.stp (Keeps.refl _ _),rfl⟩ | exact⟨HLK.out.stp (Keeps.alloc _ _),rfl⟩
    simp only[addEnt];apply loosek_is 5 _ rfl
    ·intro W vals hW hkn
     have hC:=hW.c;simp only[knowsK]at hkn
     try simp only[and_true]at hkn
     clear hkn;have m:=MF W hC;refine⟨?_⟩;simp only[fill];go_simp
     first | exact⟨HLK.out.stp (Keeps.refl _ _),rfl⟩ | exact⟨HLK.out.stp (Keeps.alloc _ _),rfl⟩
    simp only[addEnt];refine loosek_has 6 (fun v W' =>∃g,v= .slice (some ⟨g,0,none⟩) pn pn∧Row W' g 9 (txC (tLev s.f))) rfl (fun W vals hW hkn φ' hφ=> ?_) ?_
    ·have hC:=hW.c
     simp only[knowsK]at hkn
     try simp only[and_true]at hkn
     clear hkn;have hq:=PreK.one hW (.inr (by decide));refine⟨?_⟩;simp only[fill];go_simp
     ((with_reducible refine loosek_calls_has HLK.out hφ ?_);refine(HLV7.out W hq).mono ?_;rintro e w7 ⟨rfl,rfl⟩;exact⟨_,rfl,Keeps.alloc _ _,_,rfl,Row.new _ _ _⟩)
    simp only[addEnt];refine loosek_has 7 (fun v W' =>∃(S' :List Path) (N' :Path→Nd),v=ptr0 (N' (tLev s.f)).b∧AtUp W W' B (mtAll L) (hereF L) N (tLev s.f) S' N') rfl (fun W vals hW hkn φ' hφ=> ?_) ?_
    ·have hC:=hW.c
     simp only[knowsK]at hkn
     try simp only[and_true]at hkn
     obtain⟨W1,h0,h1,g,hv,hr⟩:=hkn (by decide);have hq:=PreK.one hW (.inl rfl);have hr2:=hr.keeps (BtwK.one h1 (.inr (.inr (.inl rfl))));refine⟨?_⟩;simp only[fill];go_simp
     ((with_reducible refine loosek_writes HLK.out hφ ?_);refine(HAY.out W g hq hr2).mono ?_;rintro e w7 ⟨S',N',rfl,hup,hcg⟩;exact⟨_,rfl,StpK.one hcg (fun h=>absurd rfl h),S',N',rfl,hup⟩)
    simp only[addEnt];refine loosek_has 8 (fun v W' =>∃(S' :List Path) (N' :Path→Nd),v=ptr0 (N' (tLev s.f)).b∧AtUp W W' B (mtAll L) (hereF L) N (tLev s.f) S' N') rfl (fun W vals hW hkn φ' hφ=> ?_) ?_
    ·have hC:=hW.c
     simp only[knowsK]at hkn
     try simp only[and_true]at hkn
     obtain⟨W1,h0,h1,S',N',hv,hup⟩:=hkn.1 (by decide);have hq:=hup.keeps (BtwK.one h1 (.inl rfl));refine⟨?_⟩;simp only[fill];go_simp;exact⟨HLK.out.stp (Keeps.refl _ _),hφ.out _ _ ⟨S',N',rfl,hq⟩⟩
    simp only[addEnt];refine loosek_has 9 (fun v W' =>∃(S' :List Path) (N' :Path→Nd),v=ptr0 (N' (tLev s.f)).b∧AtUp W W' B (mtAll L) (hereF L) N (tLev s.f) S' N') rfl (fun W vals hW hkn φ' hφ=> ?_) ?_
    ·have hC:=hW.c
     simp only[knowsK]at hkn
     try simp only[and_true]at hkn
     obtain⟨W1,h0,h1,S',N',hv,hup⟩:=hkn.1 (by decide);have hq:=hup.keeps (BtwK.one h1 (.inr (.inl (show(8:Nat)∈ [8,9,10]by decide))));refine⟨?_⟩;simp only[fill];go_simp;exact⟨HLK.out.stp (Keeps.refl _ _),hφ.out _ _ ⟨S',N',rfl,hq⟩⟩
    simp only[addEnt];refine loosek_has 10 (fun v W' =>∃(S' :List Path) (N' :Path→Nd),v= .map (some (N' (tLev s.f)).h)∧AtUp W W' B (mtAll L) (hereF L) N (tLev s.f) S' N') rfl (fun W vals hW hkn φ' hφ=> ?_) ?_
    ·have hC:=hW.c
     simp only[knowsK]at hkn
     try simp only[and_true]at hkn
     obtain⟨W1,h0,h1,S',N',hv,hup⟩:=hkn.1 (by decide);have hq:=hup.keeps (BtwK.one h1 (.inr (.inl (show(9:Nat)∈ [8,9,10]by decide))));have hc:=(hq.tree.row _ hq.here).cell 0;simp only[ndRow,zga,zgz]at hc;refine⟨?_⟩;simp only[fill];go_simp;exact⟨HLK.out.stp (Keeps.refl _ _),hφ.out _ _ ⟨S',N',rfl,hq⟩⟩
    simp only[addEnt];apply loosek_is 11 _ rfl
    ·intro W vals hW hkn
     clear hkn;have hC:=hW.c;refine⟨?_⟩;simp only[fill];go_simp
     first | exact⟨HLK.out.stp (Keeps.refl _ _),rfl⟩ | exact⟨HLK.out.stp (Keeps.alloc _ _),rfl⟩
    simp only[addEnt];apply loosek_is 12 _ rfl
    ·intro W vals hW hkn
     have hC:=hW.c;simp only[knowsK]at hkn
     try simp only[and_true]at hkn
     clear hkn;have m:=MC W hC;refine⟨?_⟩;simp only[fill];go_simp
     first | exact⟨HLK.out.stp (Keeps.refl _ _),rfl⟩ | exact⟨HLK.out.stp (Keeps.alloc _ _),rfl⟩
    simp only[addEnt];apply loosek_is 13 _ rfl
    ·intro W vals hW hkn
     have hC:=hW.c;simp only[knowsK]at hkn
     try simp only[and_true]at hkn
     clear hkn;have m:=MF W hC;have m1:=MC W hC;have m2:=MQ W hC;refine⟨?_⟩;simp only[fill];go_simp
     first | exact⟨HLK.out.stp (Keeps.refl _ _),rfl⟩ | exact⟨HLK.out.stp (Keeps.alloc _ _),rfl⟩
    simp only[addEnt];refine loosek_nil (fun W9 vals hW hkn=> ?_);simp only[knowsAllK]at hkn
    try simp only[and_true]at hkn
    simp only[fill,Act.put,zsa,zsc,zsz];obtain⟨⟨W8,h0,h1,S',N',hv,hup⟩,_⟩:=hkn;have HUP:=zh (hup.keeps (PostK.one h1 (.inr (show(10:Nat)∈ [8,9,10]by decide))));have HC9:=zh hW;clear hW h0 h1 hup MR MF MC MQ;obtain⟨lk,hlk1,hlk2⟩:=HUP.out.tree.ek (tLev s.f);obtain⟨w10,hrun,hm10,hk10,_⟩:=(HUP.out.tree.here _ HUP.out.here).store mtUndStr mtUndHere (ks:=lk) (fun c hc=>hlk1 c (fun e=>hc (by rw[e];rfl))) (by simp[maxLen];omega) (x:=s.c) (by have:=HCZ.out;simp[maxLen];omega) (.agg #[.string F,.string C,.int .i64 q]);rw[show txk s.c= .string C by rw[←HFC.out.2.1]]at hrun;have HOK:=zh (HB7.out.ok.set HFT.out HSB.out HNL.out);have HTR:=zh (set_tree (s:=s) HB7.out.ok HOK.out HUP.out (by
     rw[show sbV s= .agg #[.string F,.string C,.int .i64 q]by unfold sbV;rw[HFC.out.1,HFC.out.2.1,HFC.out.2.2]];exact hm10) hk10)
    have HRD9:=zh (HC9.out.row _ _ _ HB7.out.row);have HRD:=zh (HRD9.out.keep hk10 (fun e=>smap_ne_row (HUP.out.tree.here _ HUP.out.here) HRD9.out (List.mem_singleton.1 e).symm));have HN0:=zh (HUP.out.old [] (mem_mtAll.2 (.inl rfl)));have HK10:=zh hk10;have HKW:=zh (HK3.out.then_ HW.out);clear hm10 hk10 hlk1 hlk2;have HE:=zh (show mtSetA L s=(mtSet L s, !mtHas L s.f s.c,0)by unfold mtSetA;rw[if_neg (by rw[HFT.out];simp),if_neg (by rw[HSB.out];simp),if_neg HNL.out]);have hln:=HB7.out.ok.up.set_len s;rw[HZ.out,if_pos rfl,Nat.add_zero]at hln;have HBO:=zh (show BookAt w10 B d (mtSet L s) S' N' from⟨by rw[hln,HN0.out];exact HRD.out,HTR.out.1,HOK.out,HTR.out.2⟩);have HFI:=zh (set_go HXX.out.1 HXX.out.2 HKW.out HUP.out HK10.out (Keeps.refl _ _) HBO.out);clear hln
    go_wp2_with fail
    go_ret2
    refine⟨?_,d::bks S' N', ?_⟩
    ·rw[HE.out,HZ.out]
     rfl
    ·rw[HE.out]
     exact HFI.out
   | false=>
    by_cases hlen:4096≤L.length
    ·have HE:=zh (show mtSetA L s=(L,false,3)by unfold mtSetA;rw[if_neg (by rw[HFT.out];simp),if_neg (by rw[HSB.out];simp),if_pos ⟨HZ.out,hlen⟩])
     have d1:decide ((L.length:Int)≥4096)=true:=decide_eq_true (by omega);replace HK3:=zh (HK3.out.then_ HW.out);clear hlen
     go_wp2_with fail
     go_ret2
     refine⟨?_,X, ?_⟩
     ·rw[HE.out]
      rfl
     ·rw[HE.out]
      exact BkGo.same HBK.out HK3.out
    ·have d1:decide ((L.length:Int)≥4096)=false:=decide_eq_false (by omega)
     have HNL:=zh (show¬(mtHas L s.f s.c=false∧4096≤L.length)from fun e=>hlen e.2);have HLE:=zh (show L.length < 4096 by omega);clear hlen
     go_upto_region 10 with fail
     have HB7:=zh (HBA.out.keeps HW.out);have HLV7:=zh (fun w' (hk:Keeps W w' [])=>HLV.out w' (HW.out.then_ hk));have HR7:=zh (HR3.out.keeps HW.out);have HBW:=zh (show B≤W.heap.size from by
      have h1:=(HB7.out.tree.base _ HB7.out.tree.root).1;have h2:=(HB7.out.tree.lt HB7.out.tree.root).1;omega)
     have HAY:=zh (show∀(w' :World) (g:Nat),Keeps W w' []→Row w' g 9 (txC (tLev s.f))→Calls Tryz.prog 36 #[ptr0 (N []).b,.slice (some ⟨g,0,none⟩) pn pn,.bool true] w' fun e w'' =>∃S' N',e= .returned (ptr0 (N' (tLev s.f)).b)∧AtUp W w'' B (mtAll L) (hereF L) N (tLev s.f) S' N' ∧CellGo w' w'' from fun w' g hk hr=>by
      rw[←HPN.out];have hT:=HB7.out.tree.keeps hk;refine(mtAt_yes w' B (mtAll L) (hereF L) N hT (Nat.le_trans HBW.out hk.size) (fun q hq c=>stand_here (fun e=>hq (mem_mtAll.2 e)) c) (tLev s.f) _ (tLev s.f).length (txL_lies hr) HLP.out.1 HLP.out.2 (by have:=mtAll_le HB7.out.ok;omega)).mono ?_;rintro e w'' ⟨S',N',rfl,hup⟩;exact⟨S',N',rfl,hup.from hk,⟨hup.k.size,fun g t cs hr=>mks_row hT hup.k hr⟩⟩)
     have MR:=fun(W' :World) (hC:CellGo W W')=>(hC.row _ _ _ HB7.out.row).cell 0
     have MF:=fun(W' :World) (hC:CellGo W W')=>(hC.row _ _ _ HR7.out).cell 0
     have MC:=fun(W' :World) (hC:CellGo W W')=>(hC.row _ _ _ HR7.out).cell 1
     have MQ:=fun(W' :World) (hC:CellGo W W')=>(hC.row _ _ _ HR7.out).cell 2
     simp only[zga,zgz,zgs]at MR MF MC MQ;have HLK:=zh (show LightK [⟨7, [0,1,2,3,4,5,6], [8,9,10]⟩] CellGo (oneA 7 KeepsAll)from .one CellGo.ok keepsAll_ok);refine wp_region_writersL [⟨7, [0,1,2,3,4,5,6], [8,9,10]⟩] (CellGo) (oneA 7 KeepsAll) _ 14 HLK.out (by kernel_rfl) rfl (by kernel_rfl) ?_;simp only[zts,ztz,zds,zdz];apply loosek_is 0 _ rfl
     ·intro W vals hW hkn
      clear hkn;have hC:=hW.c;refine⟨?_⟩;simp only[fill];go_simp
      first | exact⟨HLK.out.stp (Keeps.refl _ _),rfl⟩ | exact⟨HLK.out.stp (Keeps.alloc _ _),rfl⟩
     simp only[addEnt];apply loosek_is 1 _ rfl
     ·intro W vals hW hkn
      clear hkn;have hC:=hW.c;refine⟨?_⟩;simp only[fill];go_simp
      first | exact⟨HLK.out.stp (Keeps.refl _ _),rfl⟩ | exact⟨HLK.out.stp (Keeps.alloc _ _),rfl⟩
     simp only[addEnt];apply loosek_is 2 _ rfl
     ·intro W vals hW hkn
      clear hkn;have hC:=hW.c;refine⟨?_⟩;simp only[fill];go_simp
      first | exact⟨HLK.out.stp (Keeps.refl _ _),rfl⟩ | exact⟨HLK.out.stp (Keeps.alloc _ _),rfl⟩
     simp only[addEnt];apply loosek_is 3 _ rfl
     ·intro W vals hW hkn
      have hC:=hW.c;simp only[knowsK]at hkn
      try simp only[and_true]at hkn
      clear hkn;have m:=MR W hC;refine⟨?_⟩;simp only[fill];go_simp
      first | exact⟨HLK.out.stp (Keeps.refl _ _),rfl⟩ | exact⟨HLK.out.stp (Keeps.alloc _ _),rfl⟩
     simp only[addEnt];apply loosek_is 4 _ rfl
     ·intro W vals hW hkn
      clear hkn;have hC:=hW.c;refine⟨?_⟩;simp only[fill];go_simp
      first | exact⟨HLK.out.stp (Keeps.refl _ _),rfl⟩ | exact⟨HLK.out.stp (Keeps.alloc _ _),rfl⟩
     simp only[addEnt];apply loosek_is 5 _ rfl
     ·intro W vals hW hkn
      have hC:=hW.c;simp only[knowsK]at hkn
      try simp only[and_true]at hkn
      clear hkn;have m:=MF W hC;refine⟨?_⟩;simp only[fill];go_simp
      first | exact⟨HLK.out.stp (Keeps.refl _ _),rfl⟩ | exact⟨HLK.out.stp (Keeps.alloc _ _),rfl⟩
     simp only[addEnt];refine loosek_has 6 (fun v W' =>∃g,v= .slice (some ⟨g,0,none⟩) pn pn∧Row W' g 9 (txC (tLev s.f))) rfl (fun W vals hW hkn φ' hφ=> ?_) ?_
     ·have hC:=hW.c
      simp only[knowsK]at hkn
      try simp only[and_true]at hkn
      clear hkn;have hq:=PreK.one hW (.inr (by decide));refine⟨?_⟩;simp only[fill];go_simp
      ((with_reducible refine loosek_calls_has HLK.out hφ ?_);refine(HLV7.out W hq).mono ?_;rintro e w7 ⟨rfl,rfl⟩;exact⟨_,rfl,Keeps.alloc _ _,_,rfl,Row.new _ _ _⟩)
     simp only[addEnt];refine loosek_has 7 (fun v W' =>∃(S' :List Path) (N' :Path→Nd),v=ptr0 (N' (tLev s.f)).b∧AtUp W W' B (mtAll L) (hereF L) N (tLev s.f) S' N') rfl (fun W vals hW hkn φ' hφ=> ?_) ?_
     ·have hC:=hW.c
      simp only[knowsK]at hkn
      try simp only[and_true]at hkn
      obtain⟨W1,h0,h1,g,hv,hr⟩:=hkn (by decide);have hq:=PreK.one hW (.inl rfl);have hr2:=hr.keeps (BtwK.one h1 (.inr (.inr (.inl rfl))));refine⟨?_⟩;simp only[fill];go_simp
      ((with_reducible refine loosek_writes HLK.out hφ ?_);refine(HAY.out W g hq hr2).mono ?_;rintro e w7 ⟨S',N',rfl,hup,hcg⟩;exact⟨_,rfl,StpK.one hcg (fun h=>absurd rfl h),S',N',rfl,hup⟩)
     simp only[addEnt];refine loosek_has 8 (fun v W' =>∃(S' :List Path) (N' :Path→Nd),v=ptr0 (N' (tLev s.f)).b∧AtUp W W' B (mtAll L) (hereF L) N (tLev s.f) S' N') rfl (fun W vals hW hkn φ' hφ=> ?_) ?_
     ·have hC:=hW.c
      simp only[knowsK]at hkn
      try simp only[and_true]at hkn
      obtain⟨W1,h0,h1,S',N',hv,hup⟩:=hkn.1 (by decide);have hq:=hup.keeps (BtwK.one h1 (.inl rfl));refine⟨?_⟩;simp only[fill];go_simp;exact⟨HLK.out.stp (Keeps.refl _ _),hφ.out _ _ ⟨S',N',rfl,hq⟩⟩
     simp only[addEnt];refine loosek_has 9 (fun v W' =>∃(S' :List Path) (N' :Path→Nd),v=ptr0 (N' (tLev s.f)).b∧AtUp W W' B (mtAll L) (hereF L) N (tLev s.f) S' N') rfl (fun W vals hW hkn φ' hφ=> ?_) ?_
     ·have hC:=hW.c
      simp only[knowsK]at hkn
      try simp only[and_true]at hkn
      obtain⟨W1,h0,h1,S',N',hv,hup⟩:=hkn.1 (by decide);have hq:=hup.keeps (BtwK.one h1 (.inr (.inl (show(8:Nat)∈ [8,9,10]by decide))));refine⟨?_⟩;simp only[fill];go_simp;exact⟨HLK.out.stp (Keeps.refl _ _),hφ.out _ _ ⟨S',N',rfl,hq⟩⟩
     simp only[addEnt];refine loosek_has 10 (fun v W' =>∃(S' :List Path) (N' :Path→Nd),v= .map (some (N' (tLev s.f)).h)∧AtUp W W' B (mtAll L) (hereF L) N (tLev s.f) S' N') rfl (fun W vals hW hkn φ' hφ=> ?_) ?_
     ·have hC:=hW.c
      simp only[knowsK]at hkn
      try simp only[and_true]at hkn
      obtain⟨W1,h0,h1,S',N',hv,hup⟩:=hkn.1 (by decide);have hq:=hup.keeps (BtwK.one h1 (.inr (.inl (show(9:Nat)∈ [8,9,10]by decide))));have hc:=(hq.tree.row _ hq.here).cell 0;simp only[ndRow,zga,zgz]at hc;refine⟨?_⟩;simp only[fill];go_simp;exact⟨HLK.out.stp (Keeps.refl _ _),hφ.out _ _ ⟨S',N',rfl,hq⟩⟩
     simp only[addEnt];apply loosek_is 11 _ rfl
     ·intro W vals hW hkn
      clear hkn;have hC:=hW.c;refine⟨?_⟩;simp only[fill];go_simp
      first | exact⟨HLK.out.stp (Keeps.refl _ _),rfl⟩ | exact⟨HLK.out.stp (Keeps.alloc _ _),rfl⟩
     simp only[addEnt];apply loosek_is 12 _ rfl
     ·intro W vals hW hkn
      have hC:=hW.c;simp only[knowsK]at hkn
      try simp only[and_true]at hkn
      clear hkn;have m:=MC W hC;refine⟨?_⟩;simp only[fill];go_simp
      first | exact⟨HLK.out.stp (Keeps.refl _ _),rfl⟩ | exact⟨HLK.out.stp (Keeps.alloc _ _),rfl⟩
     simp only[addEnt];apply loosek_is 13 _ rfl
     ·intro W vals hW hkn
      have hC:=hW.c;simp only[knowsK]at hkn
      try simp only[and_true]at hkn
      clear hkn;have m:=MF W hC;have m1:=MC W hC;have m2:=MQ W hC;refine⟨?_⟩;simp only[fill];go_simp
      first | exact⟨HLK.out.stp (Keeps.refl _ _),rfl⟩ | exact⟨HLK.out.stp (Keeps.alloc _ _),rfl⟩
     simp only[addEnt];refine loosek_nil (fun W9 vals hW hkn=> ?_);simp only[knowsAllK]at hkn
     try simp only[and_true]at hkn
     simp only[fill,Act.put,zsa,zsc,zsz];obtain⟨⟨W8,h0,h1,S',N',hv,hup⟩,_⟩:=hkn;have HUP:=zh (hup.keeps (PostK.one h1 (.inr (show(10:Nat)∈ [8,9,10]by decide))));have HC9:=zh hW;clear hW h0 h1 hup MR MF MC MQ;obtain⟨lk,hlk1,hlk2⟩:=HUP.out.tree.ek (tLev s.f);obtain⟨w10,hrun,hm10,hk10,_⟩:=(HUP.out.tree.here _ HUP.out.here).store mtUndStr mtUndHere (ks:=lk) (fun c hc=>hlk1 c (fun e=>hc (by rw[e];rfl))) (by simp[maxLen];omega) (x:=s.c) (by have:=HCZ.out;simp[maxLen];omega) (.agg #[.string F,.string C,.int .i64 q]);rw[show txk s.c= .string C by rw[←HFC.out.2.1]]at hrun;have HOK:=zh (HB7.out.ok.set HFT.out HSB.out HNL.out);have HTR:=zh (set_tree (s:=s) HB7.out.ok HOK.out HUP.out (by
      rw[show sbV s= .agg #[.string F,.string C,.int .i64 q]by unfold sbV;rw[HFC.out.1,HFC.out.2.1,HFC.out.2.2]];exact hm10) hk10)
     have HRD9:=zh (HC9.out.row _ _ _ HB7.out.row);have HRD:=zh (HRD9.out.keep hk10 (fun e=>smap_ne_row (HUP.out.tree.here _ HUP.out.here) HRD9.out (List.mem_singleton.1 e).symm));have HN0:=zh (HUP.out.old [] (mem_mtAll.2 (.inl rfl)));have HK10:=zh hk10;have HKW:=zh (HK3.out.then_ HW.out);clear hm10 hk10 hlk1 hlk2;have HE:=zh (show mtSetA L s=(mtSet L s, !mtHas L s.f s.c,0)by unfold mtSetA;rw[if_neg (by rw[HFT.out];simp),if_neg (by rw[HSB.out];simp),if_neg HNL.out]);have hln:=HB7.out.ok.up.set_len s;rw[HZ.out,if_neg (by simp)]at hln;have e1:=HRD.out.cell 1;have e2:=HRD.out.frozen 1;simp only[zga,zgz,zgs]at e1;have s1:IntKind.i64.wrap ((L.length:Int)+1)=((L.length+1:Nat):Int):=by have:=HLE.out;rw[IntWalk.i64_in _ ⟨by omega,by omega⟩];omega
     have HFI:=zh (show∃X',BkGo B V (w10.setCell ⟨d,1,none⟩ (.int .i64 ((L.length+1:Nat):Int))) d (mtSet L s) X X' from⟨_,set_go HXX.out.1 HXX.out.2 HKW.out HUP.out HK10.out (Keeps.setCell _ _ _) (by
      have hr2:=HRD.out.store 1 (.int .i64 ((L.length+1:Nat):Int));refine⟨?_,HTR.out.1.box (Keeps.setCell _ _ _) HRD.out (by decide),HOK.out,HTR.out.2⟩;rw[hln,HN0.out];exact hr2)⟩)
     clear hln
     go_wp2_with fail
     go_ret2
     refine⟨?_, ?_⟩
     ·rw[HE.out,HZ.out]
      rfl
     ·rw[HE.out]
      exact HFI.out
end Go.Proofs.YtoadlafdeoklbaaGreatDoor
