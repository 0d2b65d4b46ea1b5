/- Package match: an entry is dropped. Package match: who is told is gathered (the closure that goes over what stands at a beginning). -/
import Derived.Test.YtoadlafdeoklbaaGreatDoorPa26

namespace Go.Proofs.YtoadlafdeoklbaaGreatDoor
open Go.RowKit Go.Maps Go.Shelf

theorem mtDrop_no {L:List Sb}{f c:List UInt8}(h:mtHas L f c=false):mtDrop L f c=L:=by
 unfold mtDrop;rw[List.filter_eq_self];intro x hx;unfold mtHas at h;rw[List.any_eq_false]at h;have:=h x hx;simp only[Bool.not_eq_true]at this;rw[this];rfl
def DropPost (B:Nat)(W:World)(d:Nat)(L:List Sb)(X:List Nat)(f c:List UInt8)(e:Ending)(w' :World):Prop:=
 e= .returned (.tuple #[.bool (mtDropA L f c).2.1,.int .i64 (mtDropA L f c).2.2])∧∃X',BkGo B W w' d (mtDropA L f c).1 X X'
section
variable {W W' :World} {B d:Nat} {L:List Sb} {N:Path→Nd} {f c:List UInt8}
/-- The tree without the entry, nothing pruned yet. -/
theorem drop_tree (hL:MtOk L)(T:TreeAt W B (mtAll L) (hereF L) N)(hp:tLev f∈mtAll L)(hm:SMap W' Tryz.prog 9 (N (tLev f)).h (updS (fun c=>(hereF L (tLev f) c).map sbV) c none))(hk:Keeps W W' [(N (tLev f)).h]):TreeAt W' B (mtAll L) (hereF (mtDrop L f c)) N:=by
 have hup:AtUp W W B (mtAll L) (hereF L) N (tLev f) (mtAll L) N:=⟨T,fun q=>⟨.inl,fun h=>h.elim id fun h=>T.le_pre h hp⟩,fun _ _=>rfl,fun q h1 h2=>absurd h1 h2,Keeps.refl _ _,by omega⟩;refine hup.entry (hm.congr fun e=> ?_) hk (fun q hq=>funext fun e=> ?_) (here_keys (hL.filter _))
 ·rw[hereF_drop hL.up]
  unfold updS
  by_cases hc:e=c
  ·rw[if_pos hc,if_pos ⟨rfl,hc⟩]
   rfl
  ·rw[if_neg hc,if_neg (fun e=>hc e.2)]
 ·rw[hereF_drop hL.up,if_neg (fun e=>hq e.1)]
theorem good_iff (hL:MtOk L)(s:Path):Good (hereF L) s↔Stand L s:=by
 constructor
 ·rintro(h | ⟨t,c,h1,h2⟩)
  ·exact .inl h
  ·cases hf:hereF L t c with
   | none=>exact absurd hf h2
   | some x=>
    have:=(hereF_iff hL.up).1 hf;exact .inr ⟨x,this.1,by rw[this.2.1];exact h1⟩
 ·rintro(h | ⟨x,hx,h⟩)
  ·exact .inl h
  ·exact .inr ⟨tLev x.f,x.c,h,by rw[(hereF_iff hL.up).2 ⟨hx,rfl,rfl⟩];simp⟩
theorem drop_pre (hL:MtOk L):(∀t e,hereF (mtDrop L f c) t e≠none→t∈mtAll L)∧∀s∈mtAll L,Good (hereF (mtDrop L f c)) s∨s <+: []++tLev f:=by
 have hD:MtOk (mtDrop L f c):=hL.filter _;refine⟨fun t e h=> ?_,fun s hs=> ?_⟩
 ·cases hf:hereF (mtDrop L f c) t e with
  | none=>exact absurd hf h
  | some x=>
   have:=(hereF_iff hD.up).1 hf;exact mem_mtAll.2 (.inr ⟨x,(mem_mtDrop.1 this.1).1,by rw[this.2.1];exact List.prefix_refl _⟩)
 ·rw[good_iff hD]
  rcases mem_mtAll.1 hs with h | ⟨x,hx,h⟩
  ·exact .inl (.inl h)
  ·by_cases e:x.f=f∧x.c=c
   ·rw[List.nil_append,←e.1]
    exact .inr h
   ·exact .inl (.inr ⟨x,mem_mtDrop.2 ⟨hx,e⟩,h⟩)
theorem drop_st (hL:MtOk L){S' :List Path}(h:Pruned W W' B (mtAll L) (hereF (mtDrop L f c)) N [] S')(p:Path):p∈S' ↔Stand (mtDrop L f c) p:=by
 have hD:MtOk (mtDrop L f c):=hL.filter _
 constructor
 ·intro hp
  rcases h.post p hp with g | g
  ·exact(good_iff hD p).1 g
  ·exact .inl (List.prefix_nil.1 g)
 ·intro hp
  exact h.good p (mem_mtAll.2 (stand_drop hp)) ((good_iff hD p).2 hp)
end
set_option maxRecDepth 100000 in
set_option maxHeartbeats 4000000 in
theorem mtDropE_any (B:Nat)(V:World)(d:Nat)(L:List Sb)(X:List Nat)(h:Bk B V d L X)(hm:MaxL V)(f c:List UInt8)(hf:f.length≤50000)(hc:c.length≤9223372036854775807):
  Calls Tryz.prog 19 #[ptr0 d,.string ⟨f.toArray⟩,.string ⟨c.toArray⟩] V (DropPost B V d L X f c):=by
 cases hft:tFilter f with
 | false=>
  have HE:=zh (show mtDropA L f c=(L,false,230)by unfold mtDropA;rw[if_pos hft]);obtain⟨F,hF⟩:∃S:ByteArray,(⟨f.toArray⟩:ByteArray)=S:=⟨_,rfl⟩;obtain⟨C,hC⟩:∃S:ByteArray,(⟨c.toArray⟩:ByteArray)=S:=⟨_,rfl⟩;have HFC:=zh (And.intro hF hC);have HLS:=zh hf;have HBK:=zh h;have HM:=zh hm;obtain⟨rr,hrr⟩:=h.row;have HNN:=zh (mtNone_at V d _ _ hrr);have HFI:=zh (mtFilter_any V f hf hm);have HCL:=zh (fun(w:World)=>mtClient_any w c hc);rw[hF]at HFI ⊢
  rw[hC]at HCL ⊢
  clear hF hC hrr;rw[hft]at HFI;clear hft h hm hf hc
  go_enter Tryz.func19,Tryz.ntmps19
  go_wp2_with fail
  refine HNN.out.mono ?_;rintro e w2 ⟨rfl,rfl⟩
  go_wp2_with fail
  refine HFI.out.mono ?_;rintro e w3 ⟨rfl,hk⟩;have HK3:=zh hk;clear hk HFI HNN
  go_wp2_with fail
  go_ret2
  refine⟨?_,X, ?_⟩
  ·rw[HE.out]
   rfl
  ·rw[HE.out]
   exact BkGo.same HBK.out HK3.out
 | true=>
  cases hcl:mtCl c with
  | false=>
   have HE:=zh (show mtDropA L f c=(L,false,2)by unfold mtDropA;rw[if_neg (by rw[hft];simp),if_pos hcl]);obtain⟨F,hF⟩:∃S:ByteArray,(⟨f.toArray⟩:ByteArray)=S:=⟨_,rfl⟩;obtain⟨C,hC⟩:∃S:ByteArray,(⟨c.toArray⟩:ByteArray)=S:=⟨_,rfl⟩;have HFC:=zh (And.intro hF hC);have HLS:=zh hf;have HBK:=zh h;have HM:=zh hm;obtain⟨rr,hrr⟩:=h.row;have HNN:=zh (mtNone_at V d _ _ hrr);have HFI:=zh (mtFilter_any V f hf hm);have HCL:=zh (fun(w:World)=>mtClient_any w c hc);rw[hF]at HFI ⊢
   rw[hC]at HCL ⊢
   clear hF hC hrr;rw[hft]at HFI;rw[hcl]at HCL;clear hft h hm hf hc hcl
   go_enter Tryz.func19,Tryz.ntmps19
   go_wp2_with fail
   refine HNN.out.mono ?_;rintro e w2 ⟨rfl,rfl⟩
   go_wp2_with fail
   refine HFI.out.mono ?_;rintro e w3 ⟨rfl,hk⟩;have HK3:=zh hk;clear hk HFI HNN
   go_wp2_with fail
   refine(HCL.out _).mono ?_;rintro e w4 ⟨rfl,rfl⟩
   go_wp2_with fail
   go_ret2
   refine⟨?_,X, ?_⟩
   ·rw[HE.out]
    rfl
   ·rw[HE.out]
    exact BkGo.same HBK.out HK3.out
  | true=>
   have HE:=zh (show mtDropA L f c=(mtDrop L f c,mtHas L f c,0)by unfold mtDropA;rw[if_neg (by rw[hft];simp),if_neg (by rw[hcl];simp)]);have HCZ:=zh (show c.length≤100000 from by unfold mtCl at hcl;simp at hcl;omega);have HLP:=zh (show(∀x∈tLev f,x.length≤100000)∧(tLev f).length≤100000 from⟨fun x hx=>by have:=tLev_size hx;omega,by have:=tLev_len f;omega⟩);obtain⟨F,hF⟩:∃S:ByteArray,(⟨f.toArray⟩:ByteArray)=S:=⟨_,rfl⟩;obtain⟨C,hC⟩:∃S:ByteArray,(⟨c.toArray⟩:ByteArray)=S:=⟨_,rfl⟩;have HFC:=zh (And.intro hF hC);have HLS:=zh hf;have HBK:=zh h;have HM:=zh hm;obtain⟨rr,hrr⟩:=h.row;have HNN:=zh (mtNone_at V d _ _ hrr);have HFI:=zh (mtFilter_any V f hf hm);have HCL:=zh (fun(w:World)=>mtClient_any w c hc);rw[hF]at HFI ⊢
   rw[hC]at HCL ⊢
   clear hF hC hrr;rw[hft]at HFI;rw[hcl]at HCL;clear hft h hm hf hc hcl
   go_enter Tryz.func19,Tryz.ntmps19
   go_wp2_with fail
   refine HNN.out.mono ?_;rintro e w2 ⟨rfl,rfl⟩
   go_wp2_with fail
   refine HFI.out.mono ?_;rintro e w3 ⟨rfl,hk⟩;have HK3:=zh hk;clear hk HFI HNN
   go_wp2_with fail
   refine(HCL.out _).mono ?_;rintro e w4 ⟨rfl,rfl⟩;obtain⟨N,hbk,hBd,hX⟩:=HBK.out.norm;have HBA:=zh (hbk.keeps HK3.out);have HXX:=zh (And.intro hBd hX);have HLV:=zh (show Calls Tryz.prog 37 #[.string F] w4 fun e w'' =>e= .returned (.slice (some ⟨w4.heap.size,0,none⟩) (tLev f).length (tLev f).length)∧w'' =w4.alloc (.cells (txC (tLev f)) 9)from by
    rw[←HFC.out.1];exact tLevels_any w4 f (by have:=HLS.out;omega) (HM.out.keeps HK3.out))
   clear hbk hBd hX
   go_wp2_with fail
   refine HLV.out.mono ?_;rintro e w5 ⟨rfl,hw5⟩;have hk5:Keeps w4 w5 []:=by rw[hw5];exact Keeps.alloc _ _
   have HT5:=zh (show Row w5 w4.heap.size 9 (txC (tLev f))by rw[hw5];exact Row.new _ _ _);have HB5:=zh (HBA.out.keeps hk5);have HK5:=zh (HK3.out.then_ hk5);have HAN:=zh (mtAtNo_any HB5.out (tLev f) _ (tLev f).length (txL_lies HT5.out) HLP.out.1 HLP.out.2);have c0:=HB5.out.row.cell 0;simp only[zga,zgz]at c0;clear hw5 hk5 HLV HBA HK3;obtain⟨g5,hg5⟩:∃g,w4.heap.size=g:=⟨_,rfl⟩;rw[hg5]at HT5 HAN;rw[hg5]
   go_wp2_with fail
   refine HAN.out.mono ?_;rintro e w6 ⟨n,rfl,hn,hk6,hsame⟩;have HN:=zh hn;have HSM:=zh hsame;have HK6:=zh hk6;have e0:=hn.row.cell 0;simp only[ndRow,zga,zgz]at e0;have hez:(hereF L (tLev f) c).isSome=mtHas L f c:=hereF_has;obtain⟨⟨yf,yc,yq⟩,hy⟩:∃y,(hereF L (tLev f) c).getD sbZ=y:=⟨_,rfl⟩;obtain⟨YF,hYF⟩:∃S:ByteArray,(⟨yf.toArray⟩:ByteArray)=S:=⟨_,rfl⟩;obtain⟨YC,hYC⟩:∃S:ByteArray,(⟨yc.toArray⟩:ByteArray)=S:=⟨_,rfl⟩;obtain⟨z,hz⟩:∃z,mtHas L f c=z:=⟨_,rfl⟩;have HZ:=zh hz;have hlk:(Instr.lookup 72 (.map (some n.h)) (.string C) true).run Tryz.prog w6= .ok (.tuple #[.agg #[.string YF,.string YC,.int .i64 yq],.bool z]) w6:=by
    have h1:=hn.here.look mtUndStr mtUndHere (zeroSub w6) (x:=c) (by have:=HCZ.out;simp[maxLen];omega) true;rw[if_pos rfl,show txk c= .string C by rw[←HFC.out.2]]at h1;refine h1.trans ?_;have e2:((fun c=>(hereF L (tLev f) c).map sbV) c).getD (sbV sbZ)= .agg #[.string YF,.string YC,.int .i64 yq]:=by
     rw[←hYF,←hYC];show _=sbV ⟨yf,yc,yq⟩;rw[←hy];exact opt_getD _
    have e3:((fun c=>(hereF L (tLev f) c).map sbV) c).isSome=z:=by
     rw[←hz,←hez];exact opt_is _
    rw[e2,e3]
   clear hn hsame hk6 hy hYF hYC hz hez c0
   cases z with
   | false=>
    have HK7:=zh (HK5.out.then_ HK6.out)
    go_wp2_with fail
    go_ret2
    refine⟨?_,X, ?_⟩
    ·rw[HE.out,HZ.out]
     rfl
    ·rw[HE.out,mtDrop_no HZ.out]
     exact BkGo.same HBK.out (HK7.out.then_alloc _)
   | true=>
    obtain⟨x,hx,hxf,hxc⟩:=mtHas_iff.1 HZ.out;have hpS:tLev f∈mtAll L:=mem_mtAll.2 (.inr ⟨x,hx,by rw[hxf];exact List.prefix_refl _⟩);obtain⟨rfl,rfl⟩:=HSM.out hpS;have HPS:=zh hpS;obtain⟨Wb,hWb⟩:∃Wb,w6.alloc (.cells #[.string YF,.string YC,.int .i64 yq] 25)=Wb:=⟨_,rfl⟩;have kb:Keeps w6 Wb []:=by rw[←hWb];exact Keeps.alloc _ _
    have HBb:=zh (HB5.out.keeps kb);have e0b:=(HBb.out.tree.row _ hpS).cell 0;simp only[ndRow,zga,zgz]at e0b;obtain⟨w10,hrun,hm10,hk10,_⟩:=(HBb.out.tree.here _ hpS).drop mtUndStr mtUndHere (x:=c) (by have:=HCZ.out;simp[maxLen];omega) 0;rw[show txk c= .string C by rw[←HFC.out.2]]at hrun;have HT10:=zh (drop_tree HBb.out.ok HBb.out.tree hpS hm10 hk10);have hfar:∀{g:Nat} {t:TypeId} {cs:Array Value},Row Wb g t cs→Row w10 g t cs:=fun hr=>hr.keep hk10 (fun e=>smap_ne_row (HBb.out.tree.here _ HPS.out) hr (List.mem_singleton.1 e).symm)
    have HRD:=zh (hfar HBb.out.row);have HRT:=zh (hfar (HT5.out.keeps kb));have c0:=HRD.out.cell 0;simp only[zga,zgz]at c0;have HPR:=zh (mtPrune_any B (hereF (mtDrop L f c)) N (tLev f) w10 (mtAll L) HT10.out [] HT10.out.root (drop_pre HBb.out.ok).1 (drop_pre HBb.out.ok).2 (some ⟨g5,0,none⟩) (tLev f).length (txL_lies HRT.out) (Nat.le_refl _) HLP.out.1 HLP.out.2);have HKB:=zh (HK5.out.then_ kb);have HK10:=zh hk10;clear kb hm10 hk10 hfar hx hxf hxc hpS
    go_wp2_with fail
    refine HPR.out.mono ?_;rintro e w11 ⟨rfl,S',hpr⟩;have HQ:=zh hpr;have HRD11:=zh (mks_row HT10.out hpr.k HRD.out);have hln:=HBb.out.ok.up.drop_len f c;rw[HZ.out,if_pos rfl]at hln;have s1:IntKind.i64.wrap ((L.length:Int) - 1)=(((mtDrop L f c).length:Nat):Int):=by have:=HBb.out.ok.le;rw[IntWalk.i64_in _ ⟨by omega,by omega⟩];omega
    have f1:=HRD11.out.cell 1;have f2:=HRD11.out.frozen 1;simp only[zga,zgz,zgs]at f1;have HFI:=zh (show∃X',BkGo B w2 (w11.setCell ⟨d,1,none⟩ (.int .i64 ((mtDrop L f c).length:Nat))) d (mtDrop L f c) X X' from by
     refine⟨d::bks S' N,⟨S',N,⟨HRD11.out.store 1 _,HQ.out.tree.box (Keeps.setCell _ _ _) HRD11.out (by decide),HBb.out.ok.filter _,drop_st HBb.out.ok (W:=w10) (W' :=w11) (B:=B) (N:=N) HQ.out⟩,HXX.out.1,fun s=>List.mem_cons⟩, ?_,fun s hs=> ?_⟩
     ·refine(((((HKB.out.weaken (by simp)).trans HK10.out (fun y hy _=> ?_))).trans HQ.out.k (fun y hy _=> ?_))).trans (Keeps.setCell _ _ _) (fun y hy _=> ?_)
      ·rw[List.mem_singleton.1 hy]
       exact(HXX.out.2 _).2 (.inr (mem_bks.2 ⟨_,HPS.out,.inr (.inl rfl)⟩))
      ·exact(HXX.out.2 y).2 (.inr (mks_bks hy))
      ·rw[List.mem_singleton.1 hy]
       exact(HXX.out.2 d).2 (.inl rfl)
     ·left
      rcases List.mem_cons.1 hs with rfl | hs
      ·exact(HXX.out.2 s).2 (.inl rfl)
      ·obtain⟨q,hq,hs⟩:=mem_bks.1 hs
       exact(HXX.out.2 s).2 (.inr (mem_bks.2 ⟨q,HQ.out.sub q hq,hs⟩)))
    clear hpr hln c0 HPR
    go_wp2_with fail
    go_ret2
    refine⟨?_, ?_⟩
    ·rw[HE.out,HZ.out]
     rfl
    ·rw[HE.out]
     exact HFI.out
end Go.Proofs.YtoadlafdeoklbaaGreatDoor

namespace Go.Proofs.YtoadlafdeoklbaaGreatDoor
open Go.RowKit Go.Maps

set_option maxRecDepth 100000 in
theorem mtGreat_any (w:World)(a b:Int):Calls Tryz.prog 40 #[.int .i64 a,.int .i64 b] w fun e w' =>e= .returned (.int .i64 (max a b))∧w' =w:=by
 have hm:max a b=if a < b then b else a:=by
  by_cases h:a < b
  ·rw[if_pos h];omega
  ·rw[if_neg h];omega
 rw[hm]
 by_cases h:a < b
 ·rw[if_pos h]
  have hd:decide (a < b)=true:=decide_eq_true h
  go_enter Tryz.func40,Tryz.ntmps40
  go_wp2
  go_ret;exact⟨rfl,rfl⟩
 ·rw[if_neg h]
  have hd:decide (a < b)=false:=decide_eq_false h
  go_enter Tryz.func40,Tryz.ntmps40
  go_wp2
  go_ret;exact⟨rfl,rfl⟩
theorem mtUndBy:Tryz.prog.underlying 79=some (.map 9 3):=by kernel_rfl
theorem zeroInt:∀w,(zeroValue 3).run Tryz.prog w= .ok (.int .i64 0) w:=fun w=>by kernel_rfl
/-- What is gathered, as a map. -/
abbrev ByM (w:World)(bm:Nat)(g:List UInt8→Option Int):Prop:=SMap w Tryz.prog 9 bm fun c=>(g c).map (.int .i64)
theorem by_get (g:List UInt8→Option Int)(c:List UInt8):((fun c=>(g c).map (Value.int .i64)) c).getD (.int .i64 0)= .int .i64 ((g c).getD 0):=by
 cases h:g c <;> simp[h]
/-- The store of a greater one. -/
def byAdd (g:List UInt8→Option Int)(s:Sb):List UInt8→Option Int:=fun c=>if c=s.c then some (max ((g c).getD 0) s.q)else g c
theorem ByM.add {w:World}{bm:Nat}{g:List UInt8→Option Int}(h:ByM w bm g){ks:List (List UInt8)}(hs:∀c,g c≠none→c∈ks)(hl:ks.length≤100000)(s:Sb)(hc:s.c.length≤100000):
  ∃w',(Instr.mapUpdate 79 (.map (some bm)) (txk s.c) (.int .i64 (max ((g s.c).getD 0) s.q))).run Tryz.prog w= .ok () w' ∧ByM w' bm (byAdd g s)∧Keeps w w' [bm]:=by
 obtain⟨w',h1,h2,h3,_⟩:=h.store mtUndStr mtUndBy (ks:=ks) (fun c hc=>hs c (by intro e;rw[e]at hc;exact hc rfl)) (by simp[maxLen];omega) (x:=s.c) (by simp[maxLen];omega) (.int .i64 (max ((g s.c).getD 0) s.q));refine⟨w',h1,h2.congr fun c=> ?_,h3⟩;unfold updS byAdd
 by_cases e:c=s.c
 ·subst e
  rw[if_pos rfl,if_pos rfl];rfl
 ·rw[if_neg e,if_neg e]
/-- The keys of what is gathered are clients. -/
theorem ByIs.keys {V:Sb→Prop}{g:List UInt8→Option Int}{L:List Sb}(h:ByIs V g)(hV:∀x,V x→x∈L):∀c,g c≠none→c∈L.map (·.c):=by
 intro c hc
 cases e:g c with
 | none=>exact absurd e hc
 | some q=>
  obtain⟨⟨x,h1,h2,_⟩,_⟩:=(h c).1 q e;exact List.mem_map.2 ⟨x,hV x h1,h2⟩
/-- What is seen behind a round. -/
def SeenAt (V:Sb→Prop)(L:List Sb)(p:Path)(left:List (List UInt8))(x:Sb):Prop:=V x∨∃c,c∉left∧hereF L p c=some x
theorem SeenAt.start {V:Sb→Prop}{L:List Sb}{p:Path}{ks:List (List UInt8)}(h:∀c,c∈ks↔hereF L p c≠none)(x:Sb):V x↔SeenAt V L p ks x:=by
 constructor
 ·exact .inl
 ·rintro(h1 | ⟨c,h1,h2⟩)
  ·exact h1
  ·exact absurd ((h c).2 (by rw[h2];simp)) h1
theorem SeenAt.step {V:Sb→Prop}{L:List Sb}{p:Path}{left:List (List UInt8)}{c:List UInt8}{y:Sb}(hn:left.Nodup)(hy:hereF L p c=some y)(x:Sb):(SeenAt V L p left x∨x=y)↔SeenAt V L p (left.erase c) x:=by
 constructor
 ·rintro((h | ⟨d,h1,h2⟩) | rfl)
  ·exact .inl h
  ·exact .inr ⟨d,fun e=>h1 (List.mem_of_mem_erase e),h2⟩
  ·exact .inr ⟨c,fun e=>(hn.mem_erase_iff.1 e).1 rfl,hy⟩
 ·rintro(h | ⟨d,h1,h2⟩)
  ·exact .inl (.inl h)
  ·by_cases e:d=c
   ·subst e
    rw[hy]at h2;exact .inr (Option.some.inj h2).symm
   ·exact .inl (.inr ⟨d,fun k=>h1 (hn.mem_erase_iff.2 ⟨e,k⟩),h2⟩)
theorem SeenAt.done {V:Sb→Prop}{L:List Sb}(hL:SbUp L){p:Path}(x:Sb):SeenAt V L p [] x↔V x∨(x∈L∧tLev x.f=p):=by
 unfold SeenAt
 constructor
 ·rintro(h | ⟨c,_,h⟩)
  ·exact .inl h
  ·exact .inr ⟨((hereF_iff hL).1 h).1,((hereF_iff hL).1 h).2.1⟩
 ·rintro(h | ⟨h1,h2⟩)
  ·exact .inl h
  ·exact .inr ⟨x.c,by simp,(hereF_iff hL).2 ⟨h1,h2,rfl⟩⟩
theorem SRange.nodup {P:Program}{k:TypeId}{w:World}{b r:Nat}{f:List UInt8→Option Value}{L:List (List UInt8)}(h:SRange w P k b r f L):L.Nodup:=by
 obtain⟨_,_,_,_,_,_,h,_⟩:=h;exact h
/-- Where the loop of gather is. -/
structure GaAt (W wr:World)(L:List Sb)(p:Path)(bx bm hb r:Nat)(V:Sb→Prop)(left:List (List UInt8)):Prop where
 rg:SRange wr Tryz.prog 9 hb r (fun c=>(hereF L p c).map sbV) left
 rb:Row wr bx 79 #[.map (some bm)]
 m:∃g,ByM wr bm g∧ByIs (SeenAt V L p left) g
 k:Keeps W wr [bm]
 r:W.heap.size≤r
 bm:bm < W.heap.size
/-- What gather leaves. -/
def GaPost (W:World)(bm:Nat)(V:Sb→Prop)(e:Ending)(w' :World):Prop:=
 e= .returned (.tuple #[])∧Keeps W w' [bm]∧∃g,ByM w' bm g∧ByIs V g
set_option maxRecDepth 100000 in
set_option maxHeartbeats 4000000 in
theorem mtGather_any (B:Nat)(L:List Sb)(S:List Path)(N:Path→Nd)(hok:MtOk L)(W:World)(T:TreeAt W B S (hereF L) N)(p:Path)(hp:p∈S)(bx bm:Nat)(hbx:Row W bx 79 #[.map (some bm)])
  (hne:(N p).h≠bm) (V:Sb→Prop) (hV:∀x,V x→x∈L) (g:List UInt8→Option Int) (hg:ByM W bm g) (hb:ByIs V g):
  Calls Tryz.prog 39 #[ptr0 (N p).b,ptr0 bx] W (GaPost W bm fun x=>V x∨(x∈L∧tLev x.f=p)):=by
 have c0:=(T.row p hp).cell 0;simp only[ndRow,zga,zgz]at c0;obtain⟨w1,ks,hrun,hrg,hks,hk1,hz1⟩:=(T.here p hp).range mtUndStr mtUndHere;have hks2:∀c,c∈ks↔hereF L p c≠none:=fun c=>by
  rw[hks]
  cases hereF L p c <;> simp
 have HST:=zh (show GaAt W w1 L p bx bm (N p).h W.heap.size V ks from
  ⟨hrg,hbx.keeps hk1,⟨g,hg.keeps hk1,hb.congr (SeenAt.start hks2)⟩,hk1.weaken (by simp),Nat.le_refl _,hg.lt⟩)
 have HOK:=zh hok;have HV:=zh hV;have HNE:=zh hne;obtain⟨r,hr⟩:∃r,W.heap.size=r:=⟨_,rfl⟩;obtain⟨hb0,hhb⟩:∃hb0,(N p).h=hb0:=⟨_,rfl⟩;rw[hr]at hrun HST;rw[hhb]at hrun HST HNE c0;clear hrg hks hk1 hz1 hks2 hbx hg hb hne hok hV hp T hr hhb
 go_enter Tryz.func39,Tryz.ntmps39
 go_wp2_with fail
 clear hrun c0
 go_loopw [] (fun wr=>∃(left:List (List UInt8)),Hid (GaAt W wr L p bx bm hb0 r V left)) (fun wr=>wr.rangeLeft hb0 r)
 case atStart=>exact⟨ks,HST⟩
 case round=>
  clear HST;obtain⟨left,HR⟩:=hrel
  rcases HR.out.rg.next mtUndStr with⟨rfl,hrun⟩ | ⟨x,u,w5,hx,hv,hxl,hrun,hrg,hlt,hk5,hz5,hen⟩
  ·go_wp2_with fail
   obtain⟨g9,h9,i9⟩:=HR.out.m;exact bodyPost_end (results_none rfl _ _ _) rfl ⟨rfl,HR.out.k,g9,h9,i9.congr fun x=>SeenAt.done HOK.out.up x⟩
  ·obtain⟨y,hy,rfl⟩:∃y,hereF L p x=some y∧sbV y=u:=by
    simp only[Option.map_eq_some_iff]at hv;exact hv
   obtain⟨hyL,hyf,hyc⟩:=(hereF_iff HOK.out.up).1 hy;subst hyc;obtain⟨g1,hg1,hi1⟩:=HR.out.m;have hrr:=HR.out.r;have hbl:=HR.out.bm;have hrb:r≠bm:=by omega
   have hm5:=hg1.keep hk5 (by simp;omega);have hb5:=HR.out.rb.keep hk5 (fun e=>HR.out.rg.noRow _ _ (by rw[←List.mem_singleton.1 e];exact HR.out.rb));have HG:=zh hi1;have HL:=zh (hi1.keys (L:=L) fun x hx=>by
    rcases hx with h | ⟨c,_,h⟩
    ·exact HV.out x h
    ·exact((hereF_iff HOK.out.up).1 h).1)
   have HY:=zh hy;have HYQ:=zh (show 0≤y.q∧y.c.length≤100000 from by
    have:=HOK.out.ok y hyL;have h2:=this.2;unfold mtSubOk mtCl at h2;simp only[Bool.and_eq_true,decide_eq_true_eq]at h2;omega)
   have HK5:=zh (show Keeps W w5 [bm]from HR.out.k.trans hk5 (fun s hs hl=>by simp at hs;omega));have HND:=zh HR.out.rg.nodup;have HRG:=zh hrg;have HLT:=zh hlt;have HM5:=zh hm5;have HB5:=zh hb5;rw[sbV]at hrun hen;obtain⟨yf,yc,yq⟩:=y
   try simp only at hrun
   try simp only at hen
   try simp only at hyf
   try simp only at HYQ
   obtain⟨X,hX⟩:∃S:ByteArray,(⟨yf.toArray⟩:ByteArray)=S:=⟨_,rfl⟩;obtain⟨Y,hY⟩:∃S:ByteArray,(⟨yc.toArray⟩:ByteArray)=S:=⟨_,rfl⟩;rw[hX]at hrun hen;simp only[txk]at hrun hen;rw[hY]at hrun hen;have HXY:=zh hY;obtain⟨Wb,hWb⟩:∃Wb,w5.alloc (.cells #[.string X,.string Y,.int .i64 yq] 25)=Wb:=⟨_,rfl⟩;have kb:Keeps w5 Wb []:=by rw[←hWb];exact Keeps.alloc _ _
   have rb:Row Wb w5.heap.size 25 #[.string X,.string Y,.int .i64 yq]:=by rw[←hWb];exact Row.new _ _ _
   have HKB:=zh kb;have M0:=fun(W' :World) (hW:Keeps Wb W' [])=>(HB5.out.keeps (HKB.out.then_ hW)).cell 0
   have M2:=fun(W' :World) (hW:Keeps Wb W' [])=>(rb.keeps hW).cell 2
   simp only[zga,zgz,zgs]at M0 M2;have ML:∀(W' :World),Keeps Wb W' []→(Instr.lookup 79 (.map (some bm)) (.string Y) false).run Tryz.prog W' = .ok (.int .i64 ((g1 yc).getD 0)) W' :=fun W' hW=>by
    have h1:=(HM5.out.keeps (HKB.out.then_ hW)).look mtUndStr mtUndBy (zeroInt W') (x:=yc) (by have:=HYQ.out.2;simp[maxLen];omega) false;rw[if_neg (by decide),by_get,show txk yc= .string Y by rw[←HXY.out]]at h1;exact h1
   have MG:=fun(W' :World)=>mtGreat_any W' ((g1 yc).getD 0) yq
   obtain⟨q0,hq0⟩:∃q0,(g1 yc).getD 0=q0:=⟨_,rfl⟩;rw[hq0]at ML MG;obtain⟨q1,hq1⟩:∃q1,max q0 yq=q1:=⟨_,rfl⟩;rw[hq1]at MG;have HQ:=zh (And.intro hq0 hq1);clear hrg hlt hk5 hv hxl hz5 hX hY kb hx hy hyL hyf hq0 hq1 hm5 hb5 hg1 hi1 hrr hbl hrb rb
   go_upto_region 3 with fail
   clear hrun hen
   try rw[hWb]
   clear hWb;refine wp_region_tail KeepsAll _ 8 (by kernel_rfl) rfl (by kernel_rfl) (fun _=>Keeps.refl _ _) (fun _ _ _ h k=>h.trans k (by simp)) (Keeps.drew _) ?_;simp only[zts,ztz,zds,zdz]
   iterate 2
    apply loose_is
    ·intro W vals hW hkn
     simp only[knows]at hkn
     try simp only[and_true]at hkn
     clear hkn;have m:=M0 W hW;refine⟨?_⟩;simp only[fill];go_simp
     first | exact⟨Keeps.refl _ _,rfl⟩ | exact⟨Keeps.alloc _ _,rfl⟩
    simp only[addEnt];refine ls ?_;simp only[addEnt]
   apply loose_is
   ·intro W vals hW hkn
    simp only[knows]at hkn
    try simp only[and_true]at hkn
    clear hkn;have m:=ML W hW;refine⟨?_⟩;simp only[fill];go_simp
    first | exact⟨Keeps.refl _ _,rfl⟩ | exact⟨Keeps.alloc _ _,rfl⟩
   simp only[addEnt];refine ls ?_;simp only[addEnt];apply loose_is
   ·intro W vals hW hkn
    simp only[knows]at hkn
    try simp only[and_true]at hkn
    clear hkn;have m:=M2 W hW;refine⟨?_⟩;simp only[fill];go_simp
    first | exact⟨Keeps.refl _ _,rfl⟩ | exact⟨Keeps.alloc _ _,rfl⟩
   simp only[addEnt];apply loose_is
   ·intro W vals hW hkn
    clear hkn;refine⟨?_⟩;simp only[fill];go_simp;refine looseUpon_calls ?_
    (refine(MG W).mono ?_;rintro e w2 ⟨rfl,rfl⟩;exact⟨_,rfl,Keeps.refl _ _,rfl⟩)
   simp only[addEnt];refine loose_nil (fun W vals hW hkn=> ?_);simp only[knowsAll]at hkn
   try simp only[and_true]at hkn
   simp only[fill,Act.put,zsa,zsc,zsz];have HW:=zh hW;clear hkn hW M0 M2 ML MG;obtain⟨w9,h9,m9,k9⟩:=ByM.add (HM5.out.keeps (HKB.out.then_ HW.out)) (ks:=L.map (·.c)) HL.out (by have:=HOK.out.le;simp;omega) ⟨yf,yc,yq⟩ HYQ.out.2;simp only[txk]at h9;rw[HXY.out,HQ.out.1,HQ.out.2]at h9;have HK9:=zh k9;have HM9:=zh m9;clear k9 m9
   go_wp2_with fail
   have hkk:Keeps w5 w9 [bm]:=((HKB.out.then_ HW.out).weaken (by simp)).trans HK9.out (fun _ h _=>h);have hrr:=HR.out.r;have hbl:=HR.out.bm;refine⟨⟨left.erase yc,zh ⟨HRG.out.keep hkk (by have:=HNE.out;simpa using this) (by simp;omega),HB5.out.keep hkk (fun e=>smap_ne_row HM5.out HB5.out (List.mem_singleton.1 e).symm),⟨_,HM9.out,(HG.out.add ⟨yf,yc,yq⟩ HYQ.out.1).congr fun x=>SeenAt.step HND.out HY.out x⟩,HK5.out.trans hkk (fun _ h _=>h),hrr,hbl⟩⟩, ?_⟩;rw[HRG.out.left_keep hkk (by have:=HNE.out;simpa using this) (by simp;omega)];exact HLT.out
end Go.Proofs.YtoadlafdeoklbaaGreatDoor
