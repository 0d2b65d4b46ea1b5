/- Package match: Meets. -/
import Derived.Test.YtoadlafdeoklbaaDoorPa30
import Derived.Test.YtoadlafdeoklbaaDoorPref

namespace Go.Proofs.YtoadlafdeoklbaaDoor
open Go.RowKit Go.Maps Go.Shelf Go.Sort

/-- What Meets answers. -/
def MeetsPost (V:World)(L:List Sb)(n:List UInt8)(e:Ending)(w' :World):Prop:=
 Keeps V w' []∧∃v,e= .returned (.tuple #[v,.int .i64 (if tName n then 0 else 230)])∧OwnN w' V.heap.size 39 2 tdC v (if tName n then mtTold L n else [])
/-- The map and the closures, made. -/
theorem meE_new {w:World}{B:Nat}{L:List Sb}{N:Path→Nd}(T:TreeAt w B (mtAll L) (hereF L) N)(b0:Nat)(hb:w.heap.size=b0):∃W4,((((w.alloc (.map #[] 0)).alloc (.cells #[.map (some b0)] 53)).alloc (.cells #[gaFn (b0+1)] 55)).alloc (.cells #[wmFn (b0+1+1) (b0+1+1+1)] 56))=W4∧
  MeE W4 B L (mtAll L) N (b0+1) b0 (b0+1+1) (b0+1+1+1)∧Keeps w W4 []∧ByM W4 b0 fun _=>none:=by
 subst hb;refine⟨_,rfl, ?_⟩;have k1:Keeps w (w.alloc (.map #[] 0)) []:=Keeps.alloc _ _;have r1:=Row.new (w.alloc (.map #[] 0)) 53 #[.map (some w.heap.size)];have r2:=Row.new ((w.alloc (.map #[] 0)).alloc (.cells #[.map (some w.heap.size)] 53)) 55 #[gaFn (w.heap.size+1)];have r3:=Row.new (((w.alloc (.map #[] 0)).alloc (.cells #[.map (some w.heap.size)] 53)).alloc (.cells #[gaFn (w.heap.size+1)] 55)) 56 #[wmFn (w.heap.size+1+1) (w.heap.size+1+1+1)];rw[World.size_alloc]at r1;rw[World.size_alloc,World.size_alloc]at r2;rw[World.size_alloc,World.size_alloc,World.size_alloc]at r3;have hk:Keeps w ((((w.alloc (.map #[] 0)).alloc (.cells #[.map (some w.heap.size)] 53)).alloc (.cells #[gaFn (w.heap.size+1)] 55)).alloc (.cells #[wmFn (w.heap.size+1+1) (w.heap.size+1+1+1)] 56)) []:=((k1.then_alloc _).then_alloc _).then_alloc _;have hm:ByM ((((w.alloc (.map #[] 0)).alloc (.cells #[.map (some w.heap.size)] 53)).alloc (.cells #[gaFn (w.heap.size+1)] 55)).alloc (.cells #[wmFn (w.heap.size+1+1) (w.heap.size+1+1+1)] 56)) w.heap.size fun _=>none:=
  ((SMap.made w Tryd.prog 9).keeps (((Keeps.alloc _ _).then_alloc _).then_alloc _)).congr fun _=>rfl
 refine⟨⟨T.keeps hk,(r1.alloc _).alloc _,r2.alloc _,r3,fun p hp=> ?_,_,hm⟩,hk,hm⟩;have:=T.lt hp;omega
set_option maxRecDepth 100000 in
set_option maxHeartbeats 4000000 in
theorem mtMeets_any (B:Nat)(V:World)(d:Nat)(L:List Sb)(X:List Nat)(h:Bk B V d L X)(hm:MaxL V)(n:List UInt8)(hn:n.length≤50000):
  Calls Tryd.prog 8 #[ptr0 d,.string ⟨n.toArray⟩] V (MeetsPost V L n):=by
 obtain⟨N,hbk,hBd,hX⟩:=h.norm;have HNN:=zh (mtNone_at V d _ _ hbk.row);have HNM:=zh (fun w=>tName_any w n (by omega));have HBK:=zh hbk;have HM:=zh hm;have HL:=zh hn;obtain⟨F,hF⟩:∃S:ByteArray,(⟨n.toArray⟩:ByteArray)=S:=⟨_,rfl⟩;have HF:=zh hF;rw[hF]at HNM ⊢
 clear hF h hbk hBd hX hm hn
 cases hnt:tName n with
 | false=>
  have HT:=zh hnt;rw[hnt]at HNM;clear hnt
  go_enter Tryd.func8,Tryd.ntmps8
  go_wp2_with fail
  refine HNN.out.mono ?_;rintro e w2 ⟨rfl,rfl⟩
  go_wp2_with fail
  refine(HNM.out _).mono ?_;rintro e w3 ⟨rfl,hk⟩;have HK:=zh hk;clear hk HNN HNM
  go_wp2_with fail
  go_ret2
  refine⟨HK.out,.slice none 0 0, ?_, ?_⟩
  ·rw[HT.out]
   rfl
  ·rw[HT.out]
   exact OwnN.nil _ _ _ _ _
 | true=>
  have HT:=zh hnt;rw[hnt]at HNM;clear hnt;have hmm:= @run_makeMap Tryd.prog
  go_enter Tryd.func8,Tryd.ntmps8
  go_wp2_with fail
  refine HNN.out.mono ?_;rintro e w2 ⟨rfl,rfl⟩
  go_wp2_with fail
  refine(HNM.out _).mono ?_;rintro e w3 ⟨rfl,hk⟩;have HK:=zh hk;clear hk HNN HNM
  go_upto_region 9 with fail
  obtain⟨b0,hb0⟩:∃b,w3.heap.size=b:=⟨_,rfl⟩;obtain⟨W4,hW4,hE,hk4,hm4⟩:=meE_new (HBK.out.tree.keeps HK.out) b0 hb0;rw[hb0,hW4];have HB0:=zh (show w2.heap.size≤b0 from by rw[←hb0];exact HK.out.size);have HE:=zh hE;have HM4:=zh hm4;have HK4:=zh (HK.out.then_ hk4);clear hb0 hW4 hE hk4 hm4;obtain⟨pn,hpn⟩:∃k,(tLev n).length=k:=⟨_,rfl⟩;have HPN:=zh hpn;have HLV:=zh (show∀w',Keeps W4 w' []→Calls Tryd.prog 17 #[.string F] w' fun e w'' =>e= .returned (.slice (some ⟨w'.heap.size,0,none⟩) pn pn)∧w'' =w'.alloc (.cells (txC (tLev n)) 9)from fun w' hk=>by
   rw[←HF.out,←HPN.out];exact tLevels_any w' n (by have:=HL.out;omega) (HM.out.keeps (HK4.out.then_ hk)))
  obtain⟨z,hz⟩:∃z,pre1 36 n=z:=⟨_,rfl⟩;have HZ:=zh hz;have HHP:=zh (show∀w,Calls Tryd.prog 22 #[.string F,.string {data:= #[36]}] w fun e w' =>e= .returned (.bool z)∧w' =w from fun w=>by
   rw[←HF.out,←HZ.out];exact Tryd.strings_HasPrefix ⟨n.toArray⟩ {data:= #[36]} w)
  have MW:=fun(W' :World) (hW:Keeps W4 W' [])=>(HE.out.rw.keeps hW).cell 0
  have M0:=fun(W' :World) (hW:Keeps W4 W' [])=>(HBK.out.row.keeps (HK4.out.then_ hW)).cell 0
  simp only[zga,zgz]at MW M0;clear hpn hz hmm;refine wp_region_tail KeepsAll _ 10 (by kernel_rfl) rfl (by kernel_rfl) (fun _=>Keeps.refl _ _) (fun _ _ _ h k=>h.trans k (by simp)) (Keeps.drew _) ?_;simp only[zts,ztz,zds,zdz];apply loose_is
  ·intro W vals hW hkn
   simp only[knows]at hkn
   try simp only[and_true]at hkn
   clear hkn;have m:=MW W hW;refine⟨?_⟩;simp only[fill];go_simp
   first | exact⟨Keeps.refl _ _,rfl⟩ | exact⟨Keeps.alloc _ _,rfl⟩
  iterate 3
   simp only[addEnt];refine ls ?_
  simp only[addEnt];apply loose_is
  ·intro W vals hW hkn
   simp only[knows]at hkn
   try simp only[and_true]at hkn
   clear hkn;have m:=M0 W hW;refine⟨?_⟩;simp only[fill];go_simp
   first | exact⟨Keeps.refl _ _,rfl⟩ | exact⟨Keeps.alloc _ _,rfl⟩
  simp only[addEnt];refine ls ?_;simp only[addEnt];refine loose_has (fun v W' =>∃g,v= .slice (some ⟨g,0,none⟩) pn pn∧Row W' g 9 (txC (tLev n))) (fun W vals hW hkn φ' hφ=> ?_) ?_
  ·simp only[knows]at hkn
   try simp only[and_true]at hkn
   clear hkn;refine⟨?_⟩;simp only[fill];go_simp
   (with_reducible refine looseUpon_has hφ ?_;refine(HLV.out W hW).mono ?_;rintro e w7 ⟨rfl,rfl⟩;exact⟨_,rfl,Keeps.alloc _ _,_,rfl,Row.new _ _ _⟩)
  simp only[addEnt];refine ls ?_;simp only[addEnt];apply loose_is
  ·intro W vals hW hkn
   clear hkn;refine⟨?_⟩;simp only[fill];go_simp;refine looseUpon_calls ?_
   (refine(HHP.out W).mono ?_;rintro e w2 ⟨rfl,rfl⟩;exact⟨_,rfl,Keeps.refl _ _,rfl⟩)
  simp only[addEnt];refine ls ?_;simp only[addEnt];refine loose_nil (fun W vals hW hkn=> ?_);simp only[knowsAll]at hkn
  try simp only[and_true]at hkn
  simp only[fill,Act.put,zsa,zsc,zsz];obtain⟨W1,h0,h1,g,hv,hr⟩:=hkn;rw[hv];have HW:=zh hW;have HR:=zh (hr.keeps h1);clear hv hr h0 h1 hW HLV HHP MW M0;clear W1;obtain⟨W1,hW1⟩:∃w,w=W:=⟨_,rfl⟩;rw[←hW1]at HW HR ⊢
  clear hW1;clear W;have HM1:=zh (SMap.keeps HM4.out HW.out);have HE1:=zh (HE.out.go (HW.out.weaken (by simp)) ⟨_,HM1.out⟩);have HWK:=zh (show Calls Tryd.prog 21 #[ptr0 (N []).b,.slice (some ⟨g,0,none⟩) pn pn,.bool (!z),ptr0 (b0+1+1),ptr0 (b0+1+1+1)] W1 (GaPost W1 b0 fun x=>False∨Met L [] (tLev n) (!z) x)from by
   have h:=mtWalkM_any B L (mtAll L) N HBK.out.ok HBK.out.st (b0+1) b0 (b0+1+1) (b0+1+1+1) (tLev n) (!z) [] HBK.out.tree.root W1 (fun _=>False) (fun _=>none) (some ⟨g,0,none⟩) pn HE1.out (fun _ h=>h.elim) HM1.out ByIs.nil (txL_lies HR.out) (by rw[HPN.out];exact Nat.le_refl _) (fun x hx=>by have:=tLev_size hx;have:=HL.out;omega) (by have:=tLev_len n;have:=HL.out;omega);rw[HPN.out]at h;exact h)
  go_wp2_with fail
  refine HWK.out.mono ?_;rintro e w5 hp5;have HP5:=zh hp5;obtain⟨rfl,k5,g5,m5,i5⟩:=hp5;have c6:=(by_row ⟨_,HM1.out⟩ k5 HE1.out.rb).cell 0;simp only[zga,zgz]at c6;have HK5:=zh (show Keeps w2 w5 []from(HK4.out.then_ HW.out).trans k5 (fun y hy hlt=>by have:=HB0.out;simp at hy;omega));obtain⟨w6,ks,hrun,hrg,hks,hk6,hz6⟩:=m5.range mtUndStr mtUndBy;have HKS:=zh (show∀c,c∈ks↔g5 c≠none from fun c=>by
   rw[hks]
   cases g5 c <;> simp)
  have HND:=zh hrg.nodup;have HTD:=zh (show∀l,l.Perm (byL g5 ks)→(l.Pairwise fun a b=>Op.bytesLess b.1 a.1=false)→l=mtTold L n from fun l h1 h2=>TdIs.one ((byL_is i5 HKS.out HND.out h1 h2).congr fun x=>by rw[←HZ.out];exact met_told HBK.out.ok HT.out x) (mtTold_is L n));have HLE:=zh (show(byL g5 ks).length≤4096 from by
   refine Nat.le_trans (byL_len _ _) (Nat.le_trans (nodup_leS ks (L.map (·.c)) HND.out fun c hc=> ?_) (by rw[List.length_map];exact HBK.out.ok.le));exact i5.keys (L:=L) (fun x hx=>by rcases hx with h | h;exact h.elim;exact h.1) c ((HKS.out c).1 hc))
  obtain⟨r,hr⟩:∃r,w5.heap.size=r:=⟨_,rfl⟩;rw[hr]at hrun hrg;have HST:=zh (show TdAt w5 w6 b0 r g5 (.slice none 0 0) [] ks ks from⟨hrg,OwnN.nil _ _ _ _ _,by rw[List.nil_append],hk6,by omega,m5.lt⟩);clear hr k5 m5 i5 hks hk6 hz6 hrg HWK HM4 HM1 HE HE1 HR HW HP5
  go_wp2_with fail
  clear hrun c6
  go_loopw [9] (fun v wr=>∃(acc:List (List UInt8×Int)) (left:List (List UInt8)),Hid (TdAt w5 wr b0 r g5 v acc left ks)) (fun _ wr=>wr.rangeLeft b0 r)
  case atStart=>exact⟨[],ks,HST⟩
  case round=>
   clear HST;obtain⟨acc,left,HR⟩:=hrel
   rcases HR.out.rg.next mtUndStr with⟨rfl,hrun⟩ | ⟨x,u,wn,hx,hv,hxl,hrun,hrg,hlt,hkn,hzn,hen⟩
   ·have HPM:=zh (show acc.Perm (byL g5 ks)from by have:=HR.out.perm;simpa [byL]using this)
    have HSO:=zh (mtSortTd_any _ w5.heap.size _ acc HR.out.own (by rw[HPM.out.length_eq];have:=HLE.out;omega));have HO:=zh HR.out.own;have HK8:=zh (show∀w8,Keeps wr w8 (Value.ownBlock u9).toList→Keeps w2 w8 []from fun w8 hk=>(HK5.out.then_ HR.out.k).trans hk (fun y hy hlt=>by
     have h1:=(HO.out.rows y hy).1;have h2:=HK5.out.size;omega))
    go_wp2_with fail
    refine HSO.out.mono ?_;rintro e w8 ⟨rfl,l,hp,hs,ho,hk⟩;obtain rfl:=HTD.out l (hp.trans HPM.out) hs;have HF:=zh (And.intro ho (HK8.out w8 hk));clear hp hs ho hk HSO
    go_wp2_with fail
    go_ret2
    refine⟨HF.out.2,u9, ?_, ?_⟩
    ·rw[HT.out]
     rfl
    ·rw[HT.out,if_pos rfl]
     exact HF.out.1.low HK5.out.size
   ·obtain⟨q,hq,rfl⟩:∃q,g5 x=some q∧ .int .i64 q=u:=by
     simp only[Option.map_eq_some_iff]at hv;exact hv
    have HPM:=zh ((byL_step hx hq acc).trans HR.out.perm);have HAL:=zh (show acc.length+1≤1000000 from by
     have h1:=HPM.out.length_eq;have h2:=HLE.out;simp at h1;omega)
    have hnr:=HR.out.rg.noRow;have hrr:=HR.out.r;have HO5:=zh (HR.out.own.keep hkn (fun y hy=> .inr fun cs=>by rw[List.mem_singleton.1 hy];exact hnr _ cs));have HK6:=zh (show Keeps w5 wn []from HR.out.k.trans hkn (fun y hy hlt=>by simp at hy;omega));have HRG:=zh hrg;have HLT:=zh hlt;obtain⟨A1,c1,rfl⟩:=OwnN.slice HO5.out;simp only[txk]at hrun hen;obtain⟨Y,hY⟩:∃S:ByteArray,(⟨x.toArray⟩:ByteArray)=S:=⟨_,rfl⟩;rw[hY]at hrun hen;obtain⟨Wc,hWc⟩:∃Wc,wn.alloc (.cells #[.string Y,.int .i64 q] 39)=Wc:=⟨_,rfl⟩;have kc:Keeps wn Wc []:=by rw[←hWc];exact Keeps.alloc _ _
    have HLa:=zh (show Lies Wc Wc.heap.size (some ⟨wn.heap.size,0,none⟩) (([(x,q)]:List (List UInt8×Int)).flatMap tdC)from lies_of_row (cs:= #[.string Y,.int .i64 q]) (by rw[←hWc];exact Row.new _ _ _) (by rw[←hY];rfl));have HA:=zh (HO5.out.keeps kc);have HKC:=zh kc;have hbs:w5.heap.size≤Wc.heap.size:=by
     have h1:=kc.size;have h2:=HK6.out.size;omega
    clear hrg hlt hkn hv hxl hzn hY kc hx hq
    go_upto_region 14 with fail
    go_wp2_with (at_builtin;refine wpList_append_N elemTd encTd rfl (.tmp 40) (.tmp 44) rfl w5.heap.size (.slice A1 acc.length c1) (some ⟨wn.heap.size,0,none⟩) 1 1 acc [(x,q)] rfl rfl rfl HA.out HLa.out (by have:=HAL.out;simp;omega) hbs ?_;intro A7 c7 w7 l7 hl7 hlen7 ho7 hk7 hb7;refine Hid.out ?_)
    refine zh ?_;have HL7:=zh hl7.out;have HO7:=zh ho7;have HK7:=zh (show Keeps wn w7 (Value.slice A1 acc.length c1).ownBlock.toList from(HKC.out.weaken (by simp)).trans hk7 (fun _ h _=>h));have HOB:=zh (show∀y∈(Value.slice A1 acc.length c1).ownBlock.toList,w5.heap.size≤y∧y≠r∧y≠b0 from fun y hy=>by
     obtain⟨h1,cs,hc⟩:=HO5.out.rows y hy;refine⟨h1,fun e=>HRG.out.noRow _ _ (e▸hc),fun e=> ?_⟩;have:=HR.out.b;omega)
    clear ho7 hk7 hb7 hl7 hWc hbs hen hrun
    go_wp2_with fail
    refine⟨⟨l7,left.erase x,zh ⟨HRG.out.keep HK7.out (fun e=>(HOB.out _ e).2.2 rfl) (fun e=>(HOB.out _ e).2.1 rfl),HO7.out,by rw[HL7.out];exact HPM.out,HK6.out.trans HK7.out (fun y hy hlt=>by have:=(HOB.out y hy).1;omega),hrr,HR.out.b⟩⟩, ?_⟩;rw[HRG.out.left_keep HK7.out (fun e=>(HOB.out _ e).2.2 rfl) (fun e=>(HOB.out _ e).2.1 rfl)];exact HLT.out
end Go.Proofs.YtoadlafdeoklbaaDoor
