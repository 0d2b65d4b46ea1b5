/- Package match: who is told, in order. Package match: Meets. -/
import Derived.Test.YtoadlafdeoklbaaGreatDoorPa28
import Derived.Test.YtoadlafdeoklbaaGreatDoorPref

namespace Go.Proofs.YtoadlafdeoklbaaGreatDoor
open Go.RowKit Go.Maps Go.Shelf Go.Sort

/-- One that is told, as a value. -/
def tdC (x:List UInt8×Int):List Value:= [.string ⟨x.1.toArray⟩,.int .i64 x.2]
def tdV (x:List UInt8×Int):Value:= .agg #[.string ⟨x.1.toArray⟩,.int .i64 x.2]
theorem encTd:Enc 2 tdC:=⟨by omega,fun _=>rfl,fun a u hu=>by
 simp only[tdC,List.mem_cons,List.not_mem_nil,or_false]at hu
 rcases hu with rfl | rfl <;> rfl⟩
theorem elemTd:ElemN Tryz.prog 37 42 2:=elemN_of (bytes:=24) (z:=tdV ([],0)) (by kernel_rfl) (by kernel_rfl) (by omega) rfl
def cmpTd (x y:List UInt8×Int):Int:=cmpB x.1 y.1
set_option maxRecDepth 100000 in
theorem mtCmpTd_any (x y:List UInt8×Int)(W:World):Calls Tryz.prog 44 #[tdV x,tdV y] W fun e w' =>e= .returned (.int .i64 (cmpTd x y))∧Grows W w' :=by
 have H1:=zh (fun w=>mtCmp_any w x.1 y.1);have HC:=zh (show cmpTd x y=cmpB x.1 y.1 from rfl);obtain⟨k1,hk1⟩:∃k1,cmpB x.1 y.1=k1:=⟨_,rfl⟩;rw[hk1]at H1 HC;obtain⟨xc,xq⟩:=x;obtain⟨yc,yq⟩:=y;unfold tdV;simp only at H1 ⊢
 obtain⟨X,hX⟩:∃S:ByteArray,(⟨xc.toArray⟩:ByteArray)=S:=⟨_,rfl⟩;obtain⟨Y,hY⟩:∃S:ByteArray,(⟨yc.toArray⟩:ByteArray)=S:=⟨_,rfl⟩;rw[hX,hY]at H1;rw[hX,hY];clear hX hY hk1;obtain⟨W2,hW2⟩:∃W2,(W.alloc (.cells #[.string X,.int .i64 xq] 42)).alloc (.cells #[.string Y,.int .i64 yq] 42)=W2:=⟨_,rfl⟩;have ra:Row W2 W.heap.size 42 #[.string X,.int .i64 xq]:=by rw[←hW2];exact(Row.new _ _ _).alloc _
 have rb:Row W2 (W.heap.size+1) 42 #[.string Y,.int .i64 yq]:=by
  rw[←hW2];have:=Row.new (W.alloc (.cells #[.string X,.int .i64 xq] 42)) 42 #[.string Y,.int .i64 yq]
  rwa [World.size_alloc]at this
 have HG:=zh (show Grows W W2 by rw[←hW2];exact(Grows.alloc _ _).trans (Grows.alloc _ _));have A0:=ra.cell 0;have B0:=rb.cell 0;simp only[zga,zgz]at A0 B0;clear ra rb
 go_enter Tryz.func44,Tryz.ntmps44
 go_upto_region 1 with fail
 try rw[hW2]
 clear hW2
 go_wp2_with fail
 refine(H1.out _).mono ?_;rintro e w2 ⟨rfl,rfl⟩
 go_wp2_with fail
 go_ret;exact⟨by rw[HC.out];rfl,HG.out⟩
theorem ltTd (x y:List UInt8×Int):ltOf cmpTd x y=Op.bytesLess x.1 y.1:=by
 rw[Bool.eq_iff_iff];unfold ltOf cmpTd;rw[decide_eq_true_iff,cmpB_neg]
theorem swoTd:SWO (ltOf cmpTd) where
 irrefl x:=by rw[ltTd];exact bl_irrefl _
 trans x y z h1 h2:=by rw[ltTd]at*;exact bl_trans h1 h2
 ntrans x y z h1 h2:=by
  rw[ltTd]at*;rw[←Bool.not_eq_true]at*;intro h3
  rcases bl_tri x.1 y.1 with h | h | h
  ·exact h1 h
  ·rw[h]at h3
   exact h2 h3
  ·exact h2 (bl_trans h h3)
abbrev cmpFnTd:Value:= .func (.func 44) #[] #[]
/-- slices.SortFunc at those that are told. -/
theorem mtSortTd_any (w:World)(base:Nat)(v:Value)(acc:List (List UInt8×Int))(ho:OwnN w base 42 2 tdC v acc)(hl:acc.length≤1000000):
  Calls Tryz.prog 43 #[v,cmpFnTd] w fun e w' =>e= .returned (.tuple #[])∧∃l,l.Perm acc∧(l.Pairwise fun a b=>Op.bytesLess b.1 a.1=false)∧OwnN w' base 42 2 tdC v l∧Keeps w w' v.ownBlock.toList:=by
 by_cases h0:acc= []
 ·subst h0
  obtain⟨A,c,rfl⟩:=OwnN.slice ho;have h:=AnyF.slices_SortFunc_none Tryz.sortTold A c cmpFnTd w
  change Calls Tryz.prog 43 _ _ _ at h
  refine h.mono ?_;rintro e w' ⟨rfl,rfl⟩;exact⟨rfl, [],List.Perm.refl _,List.Pairwise.nil,ho,Keeps.refl _ _⟩
 ·obtain⟨blk,c,rfl⟩:∃blk c,v= .slice (some ⟨blk,0,none⟩) acc.length c:=by
   obtain⟨h1,⟨h2,h3⟩ | ⟨g,c,cur,h2,_⟩⟩:=ho
   ·exact absurd (List.length_eq_zero_iff.1 h3) h0
   ·exact⟨g,c,h2⟩
  obtain⟨cur,hr,_⟩:=own_row ho;have eg:∀args w,(callFunc 44 args).run Tryz.prog w= .ok (.enter 44 args) w:=enters_of Tryz.func44 (by kernel_rfl) rfl;have hcmp:CmpLays Tryz.prog 44 #[] tdC 2 cmpTd blk 0 acc.toArray.size w:=fun m os dk _ x y=>(mtCmpTd_any x y _).mono fun e w' h=>h
  have h:=AnyQ.slices_SortFunc Tryz.sortTold 2 (fun w=>by kernel_rfl) (fun w=>by kernel_rfl) tdC (fun _=>rfl) (fun x u hu=>encTd.one x u hu) cmpTd swoTd 44 #[] blk 0 c acc.toArray w eg hcmp (own_holds encTd ho) hr.lt (by simp;omega);have e1:acc.toArray.size=acc.length:=by simp
  rw[e1]at h
  change Calls Tryz.prog 43 _ _ _ at h
  refine h.mono ?_;rintro e w' ⟨rfl,d,n,os,hp,hs,rfl⟩;obtain⟨hz,hperm,hup⟩:=sorted_list hp hs;obtain⟨o1,o2⟩:=own_sorted encTd ho hz n os;rw[show d.toList.length=acc.length from hperm.length_eq]at o1;exact⟨rfl,d.toList,hperm,hup.imp fun{a b} hab=>by rw[←ltTd];exact hab,o1,o2⟩
/-- What stands in the map, as a list. -/
def byL (g:List UInt8→Option Int)(ks:List (List UInt8)):List (List UInt8×Int):=ks.filterMap fun c=>(g c).map fun q=>(c,q)
theorem mem_byL {g:List UInt8→Option Int}{ks:List (List UInt8)}(h:∀c,c∈ks↔g c≠none){c:List UInt8}{q:Int}:(c,q)∈byL g ks↔g c=some q:=by
 unfold byL;rw[List.mem_filterMap]
 constructor
 ·rintro⟨d,_,hd⟩
  rw[Option.map_eq_some_iff]at hd;obtain⟨r,hr,e⟩:=hd;injection e with e1 e2
  subst e1 e2;exact hr
 ·intro hg
  exact⟨c,(h c).2 (by rw[hg];simp),by rw[hg];rfl⟩
theorem byL_step {g:List UInt8→Option Int}{left:List (List UInt8)}{c:List UInt8}{q:Int}(hc:c∈left)(hg:g c=some q)(acc:List (List UInt8×Int)):((acc++ [(c,q)])++byL g (left.erase c)).Perm (acc++byL g left):=by
 have h1:=(List.perm_cons_erase hc).filterMap fun c=>(g c).map fun q=>(c,q)
 rw[List.filterMap_cons,hg]at h1;rw[List.append_assoc];exact(List.Perm.append_left acc h1).symm
theorem byL_up {g:List UInt8→Option Int}{ks:List (List UInt8)}{l:List (List UInt8×Int)}(hn:ks.Nodup)(hp:l.Perm (byL g ks))(hs:l.Pairwise fun a b=>Op.bytesLess b.1 a.1=false):TdUp l:=by
 have h1:(byL g ks).Pairwise fun a b=>a.1≠b.1:=by
  unfold byL;rw[List.pairwise_filterMap];refine hn.imp fun{a b} hab=> ?_
  intro y hy z hz e;rw[Option.map_eq_some_iff]at hy hz;obtain⟨_,_,rfl⟩:=hy;obtain⟨_,_,rfl⟩:=hz;exact hab e
 have h2:l.Pairwise fun a b=>a.1≠b.1:=(hp.pairwise_iff (fun{a b} h e=>h e.symm)).2 h1
 unfold TdUp;refine(hs.and h2).imp fun{a b} h=> ?_
 rcases bl_tri a.1 b.1 with h3 | h3 | h3
 ·exact h3
 ·exact absurd h3 h.2
 ·rw[h3]at h
  cases h.1
theorem byL_is {V:Sb→Prop}{g:List UInt8→Option Int}{ks:List (List UInt8)}{l:List (List UInt8×Int)}(hb:ByIs V g)(hk:∀c,c∈ks↔g c≠none)(hn:ks.Nodup)(hp:l.Perm (byL g ks))(hs:l.Pairwise fun a b=>Op.bytesLess b.1 a.1=false):TdIs V l:=by
 refine⟨byL_up hn hp hs,fun c q=> ?_⟩;rw[hp.mem_iff,mem_byL hk]
 constructor
 ·exact(hb c).1 q
 ·intro h
  cases hg:g c with
  | none=>
   obtain⟨⟨x,h1,h2,_⟩,_⟩:=h;exact absurd h2 ((hb c).2 hg x h1)
  | some r=>rw[((hb c).1 r hg).one h]
theorem met_told {L:List Sb}(hL:MtOk L){n:List UInt8}(hn:tName n=true)(x:Sb):(False∨Met L [] (tLev n) (!pre1 36 n) x)↔x∈mtMet L n:=by
 unfold Met mtMet;rw[List.mem_filter,false_or]
 constructor
 ·rintro⟨h,r,h1,h2⟩
  rw[List.nil_append]at h1;rw[←h1,mm_meets (hL.ok x h).1 hn]at h2;exact⟨h,h2⟩
 ·rintro⟨h,h2⟩
  exact⟨h,tLev x.f,rfl,by rw[mm_meets (hL.ok x h).1 hn];exact h2⟩
/-- Where the loop is that lists who is told. -/
structure TdAt (W wr:World)(bm r:Nat)(g:List UInt8→Option Int)(v:Value)(acc:List (List UInt8×Int))(left ks:List (List UInt8)):Prop where
 rg:SRange wr Tryz.prog 9 bm r (fun c=>(g c).map (.int .i64)) left
 own:OwnN wr W.heap.size 42 2 tdC v acc
 perm:(acc++byL g left).Perm (byL g ks)
 k:Keeps W wr []
 r:W.heap.size≤r
 b:bm < W.heap.size
theorem byL_len (g:List UInt8→Option Int)(ks:List (List UInt8)):(byL g ks).length≤ks.length:=List.length_filterMap_le _ _

/-- What Meets answers. -/
def MeetsPost (V:World)(L:List Sb)(n:List UInt8)(e:Ending)(w' :World):Prop:=
 Keeps V w' []∧∃v,e= .returned (.tuple #[v,.int .i64 (if tName n then 0 else 230)])∧OwnN w' V.heap.size 42 2 tdC v (if tName n then mtTold L n else [])
/-- The map and the closures, made. -/
theorem meE_new {w:World}{B:Nat}{L:List Sb}{N:Path→Nd}(T:TreeAt w B (mtAll L) (hereF L) N)(b0:Nat)(hb:w.heap.size=b0):∃W4,((((w.alloc (.map #[] 0)).alloc (.cells #[.map (some b0)] 79)).alloc (.cells #[gaFn (b0+1)] 81)).alloc (.cells #[wmFn (b0+1+1) (b0+1+1+1)] 82))=W4∧
  MeE W4 B L (mtAll L) N (b0+1) b0 (b0+1+1) (b0+1+1+1)∧Keeps w W4 []∧ByM W4 b0 fun _=>none:=by
 subst hb;refine⟨_,rfl, ?_⟩;have k1:Keeps w (w.alloc (.map #[] 0)) []:=Keeps.alloc _ _;have r1:=Row.new (w.alloc (.map #[] 0)) 79 #[.map (some w.heap.size)];have r2:=Row.new ((w.alloc (.map #[] 0)).alloc (.cells #[.map (some w.heap.size)] 79)) 81 #[gaFn (w.heap.size+1)];have r3:=Row.new (((w.alloc (.map #[] 0)).alloc (.cells #[.map (some w.heap.size)] 79)).alloc (.cells #[gaFn (w.heap.size+1)] 81)) 82 #[wmFn (w.heap.size+1+1) (w.heap.size+1+1+1)];rw[World.size_alloc]at r1;rw[World.size_alloc,World.size_alloc]at r2;rw[World.size_alloc,World.size_alloc,World.size_alloc]at r3;have hk:Keeps w ((((w.alloc (.map #[] 0)).alloc (.cells #[.map (some w.heap.size)] 79)).alloc (.cells #[gaFn (w.heap.size+1)] 81)).alloc (.cells #[wmFn (w.heap.size+1+1) (w.heap.size+1+1+1)] 82)) []:=((k1.then_alloc _).then_alloc _).then_alloc _;have hm:ByM ((((w.alloc (.map #[] 0)).alloc (.cells #[.map (some w.heap.size)] 79)).alloc (.cells #[gaFn (w.heap.size+1)] 81)).alloc (.cells #[wmFn (w.heap.size+1+1) (w.heap.size+1+1+1)] 82)) w.heap.size fun _=>none:=
  ((SMap.made w Tryz.prog 9).keeps (((Keeps.alloc _ _).then_alloc _).then_alloc _)).congr fun _=>rfl
 refine⟨⟨T.keeps hk,(r1.alloc _).alloc _,r2.alloc _,r3,fun p hp=> ?_,_,hm⟩,hk,hm⟩;have:=T.lt hp;omega
set_option maxRecDepth 100000 in
set_option maxHeartbeats 4000000 in
theorem mtMeets_any (B:Nat)(V:World)(d:Nat)(L:List Sb)(X:List Nat)(h:Bk B V d L X)(hm:MaxL V)(n:List UInt8)(hn:n.length≤50000):
  Calls Tryz.prog 13 #[ptr0 d,.string ⟨n.toArray⟩] V (MeetsPost V L n):=by
 obtain⟨N,hbk,hBd,hX⟩:=h.norm;have HNN:=zh (mtNone_at V d _ _ hbk.row);have HNM:=zh (fun w=>tName_any w n (by omega));have HBK:=zh hbk;have HM:=zh hm;have HL:=zh hn;obtain⟨F,hF⟩:∃S:ByteArray,(⟨n.toArray⟩:ByteArray)=S:=⟨_,rfl⟩;have HF:=zh hF;rw[hF]at HNM ⊢
 clear hF h hbk hBd hX hm hn
 cases hnt:tName n with
 | false=>
  have HT:=zh hnt;rw[hnt]at HNM;clear hnt
  go_enter Tryz.func13,Tryz.ntmps13
  go_wp2_with fail
  refine HNN.out.mono ?_;rintro e w2 ⟨rfl,rfl⟩
  go_wp2_with fail
  refine(HNM.out _).mono ?_;rintro e w3 ⟨rfl,hk⟩;have HK:=zh hk;clear hk HNN HNM
  go_wp2_with fail
  go_ret2
  refine⟨HK.out,.slice none 0 0, ?_, ?_⟩
  ·rw[HT.out]
   rfl
  ·rw[HT.out]
   exact OwnN.nil _ _ _ _ _
 | true=>
  have HT:=zh hnt;rw[hnt]at HNM;clear hnt;have hmm:= @run_makeMap Tryz.prog
  go_enter Tryz.func13,Tryz.ntmps13
  go_wp2_with fail
  refine HNN.out.mono ?_;rintro e w2 ⟨rfl,rfl⟩
  go_wp2_with fail
  refine(HNM.out _).mono ?_;rintro e w3 ⟨rfl,hk⟩;have HK:=zh hk;clear hk HNN HNM
  go_upto_region 9 with fail
  obtain⟨b0,hb0⟩:∃b,w3.heap.size=b:=⟨_,rfl⟩;obtain⟨W4,hW4,hE,hk4,hm4⟩:=meE_new (HBK.out.tree.keeps HK.out) b0 hb0;rw[hb0,hW4];have HB0:=zh (show w2.heap.size≤b0 from by rw[←hb0];exact HK.out.size);have HE:=zh hE;have HM4:=zh hm4;have HK4:=zh (HK.out.then_ hk4);clear hb0 hW4 hE hk4 hm4;obtain⟨pn,hpn⟩:∃k,(tLev n).length=k:=⟨_,rfl⟩;have HPN:=zh hpn;have HLV:=zh (show∀w',Keeps W4 w' []→Calls Tryz.prog 37 #[.string F] w' fun e w'' =>e= .returned (.slice (some ⟨w'.heap.size,0,none⟩) pn pn)∧w'' =w'.alloc (.cells (txC (tLev n)) 9)from fun w' hk=>by
   rw[←HF.out,←HPN.out];exact tLevels_any w' n (by have:=HL.out;omega) (HM.out.keeps (HK4.out.then_ hk)))
  obtain⟨z,hz⟩:∃z,pre1 36 n=z:=⟨_,rfl⟩;have HZ:=zh hz;have HHP:=zh (show∀w,Calls Tryz.prog 42 #[.string F,.string {data:= #[36]}] w fun e w' =>e= .returned (.bool z)∧w' =w from fun w=>by
   rw[←HF.out,←HZ.out];exact Tryz.strings_HasPrefix ⟨n.toArray⟩ {data:= #[36]} w)
  have MW:=fun(W' :World) (hW:Keeps W4 W' [])=>(HE.out.rw.keeps hW).cell 0
  have M0:=fun(W' :World) (hW:Keeps W4 W' [])=>(HBK.out.row.keeps (HK4.out.then_ hW)).cell 0
  simp only[zga,zgz]at MW M0;clear hpn hz hmm;refine wp_region_tail KeepsAll _ 10 (by kernel_rfl) rfl (by kernel_rfl) (fun _=>Keeps.refl _ _) (fun _ _ _ h k=>h.trans k (by simp)) (Keeps.drew _) ?_;simp only[zts,ztz,zds,zdz];apply loose_is
  ·intro W vals hW hkn
   simp only[knows]at hkn
   try simp only[and_true]at hkn
   clear hkn;have m:=MW W hW;refine⟨?_⟩;simp only[fill];go_simp
   first | exact⟨Keeps.refl _ _,rfl⟩ | exact⟨Keeps.alloc _ _,rfl⟩
  iterate 3
   simp only[addEnt];refine ls ?_
  simp only[addEnt];apply loose_is
  ·intro W vals hW hkn
   simp only[knows]at hkn
   try simp only[and_true]at hkn
   clear hkn;have m:=M0 W hW;refine⟨?_⟩;simp only[fill];go_simp
   first | exact⟨Keeps.refl _ _,rfl⟩ | exact⟨Keeps.alloc _ _,rfl⟩
  simp only[addEnt];refine ls ?_;simp only[addEnt];refine loose_has (fun v W' =>∃g,v= .slice (some ⟨g,0,none⟩) pn pn∧Row W' g 9 (txC (tLev n))) (fun W vals hW hkn φ' hφ=> ?_) ?_
  ·simp only[knows]at hkn
   try simp only[and_true]at hkn
   clear hkn;refine⟨?_⟩;simp only[fill];go_simp
   (with_reducible refine looseUpon_has hφ ?_;refine(HLV.out W hW).mono ?_;rintro e w7 ⟨rfl,rfl⟩;exact⟨_,rfl,Keeps.alloc _ _,_,rfl,Row.new _ _ _⟩)
  simp only[addEnt];refine ls ?_;simp only[addEnt];apply loose_is
  ·intro W vals hW hkn
   clear hkn;refine⟨?_⟩;simp only[fill];go_simp;refine looseUpon_calls ?_
   (refine(HHP.out W).mono ?_;rintro e w2 ⟨rfl,rfl⟩;exact⟨_,rfl,Keeps.refl _ _,rfl⟩)
  simp only[addEnt];refine ls ?_;simp only[addEnt];refine loose_nil (fun W vals hW hkn=> ?_);simp only[knowsAll]at hkn
  try simp only[and_true]at hkn
  simp only[fill,Act.put,zsa,zsc,zsz];obtain⟨W1,h0,h1,g,hv,hr⟩:=hkn;rw[hv];have HW:=zh hW;have HR:=zh (hr.keeps h1);clear hv hr h0 h1 hW HLV HHP MW M0;clear W1;obtain⟨W1,hW1⟩:∃w,w=W:=⟨_,rfl⟩;rw[←hW1]at HW HR ⊢
  clear hW1;clear W;have HM1:=zh (SMap.keeps HM4.out HW.out);have HE1:=zh (HE.out.go (HW.out.weaken (by simp)) ⟨_,HM1.out⟩);have HWK:=zh (show Calls Tryz.prog 41 #[ptr0 (N []).b,.slice (some ⟨g,0,none⟩) pn pn,.bool (!z),ptr0 (b0+1+1),ptr0 (b0+1+1+1)] W1 (GaPost W1 b0 fun x=>False∨Met L [] (tLev n) (!z) x)from by
   have h:=mtWalkM_any B L (mtAll L) N HBK.out.ok HBK.out.st (b0+1) b0 (b0+1+1) (b0+1+1+1) (tLev n) (!z) [] HBK.out.tree.root W1 (fun _=>False) (fun _=>none) (some ⟨g,0,none⟩) pn HE1.out (fun _ h=>h.elim) HM1.out ByIs.nil (txL_lies HR.out) (by rw[HPN.out];exact Nat.le_refl _) (fun x hx=>by have:=tLev_size hx;have:=HL.out;omega) (by have:=tLev_len n;have:=HL.out;omega);rw[HPN.out]at h;exact h)
  go_wp2_with fail
  refine HWK.out.mono ?_;rintro e w5 hp5;have HP5:=zh hp5;obtain⟨rfl,k5,g5,m5,i5⟩:=hp5;have c6:=(by_row ⟨_,HM1.out⟩ k5 HE1.out.rb).cell 0;simp only[zga,zgz]at c6;have HK5:=zh (show Keeps w2 w5 []from(HK4.out.then_ HW.out).trans k5 (fun y hy hlt=>by have:=HB0.out;simp at hy;omega));obtain⟨w6,ks,hrun,hrg,hks,hk6,hz6⟩:=m5.range mtUndStr mtUndBy;have HKS:=zh (show∀c,c∈ks↔g5 c≠none from fun c=>by
   rw[hks]
   cases g5 c <;> simp)
  have HND:=zh hrg.nodup;have HTD:=zh (show∀l,l.Perm (byL g5 ks)→(l.Pairwise fun a b=>Op.bytesLess b.1 a.1=false)→l=mtTold L n from fun l h1 h2=>TdIs.one ((byL_is i5 HKS.out HND.out h1 h2).congr fun x=>by rw[←HZ.out];exact met_told HBK.out.ok HT.out x) (mtTold_is L n));have HLE:=zh (show(byL g5 ks).length≤4096 from by
   refine Nat.le_trans (byL_len _ _) (Nat.le_trans (nodup_leS ks (L.map (·.c)) HND.out fun c hc=> ?_) (by rw[List.length_map];exact HBK.out.ok.le));exact i5.keys (L:=L) (fun x hx=>by rcases hx with h | h;exact h.elim;exact h.1) c ((HKS.out c).1 hc))
  obtain⟨r,hr⟩:∃r,w5.heap.size=r:=⟨_,rfl⟩;rw[hr]at hrun hrg;have HST:=zh (show TdAt w5 w6 b0 r g5 (.slice none 0 0) [] ks ks from⟨hrg,OwnN.nil _ _ _ _ _,by rw[List.nil_append],hk6,by omega,m5.lt⟩);clear hr k5 m5 i5 hks hk6 hz6 hrg HWK HM4 HM1 HE HE1 HR HW HP5
  go_wp2_with fail
  clear hrun c6
  go_loopw [9] (fun v wr=>∃(acc:List (List UInt8×Int)) (left:List (List UInt8)),Hid (TdAt w5 wr b0 r g5 v acc left ks)) (fun _ wr=>wr.rangeLeft b0 r)
  case atStart=>exact⟨[],ks,HST⟩
  case round=>
   clear HST;obtain⟨acc,left,HR⟩:=hrel
   rcases HR.out.rg.next mtUndStr with⟨rfl,hrun⟩ | ⟨x,u,wn,hx,hv,hxl,hrun,hrg,hlt,hkn,hzn,hen⟩
   ·have HPM:=zh (show acc.Perm (byL g5 ks)from by have:=HR.out.perm;simpa [byL]using this)
    have HSO:=zh (mtSortTd_any _ w5.heap.size _ acc HR.out.own (by rw[HPM.out.length_eq];have:=HLE.out;omega));have HO:=zh HR.out.own;have HK8:=zh (show∀w8,Keeps wr w8 (Value.ownBlock u9).toList→Keeps w2 w8 []from fun w8 hk=>(HK5.out.then_ HR.out.k).trans hk (fun y hy hlt=>by
     have h1:=(HO.out.rows y hy).1;have h2:=HK5.out.size;omega))
    go_wp2_with fail
    refine HSO.out.mono ?_;rintro e w8 ⟨rfl,l,hp,hs,ho,hk⟩;obtain rfl:=HTD.out l (hp.trans HPM.out) hs;have HF:=zh (And.intro ho (HK8.out w8 hk));clear hp hs ho hk HSO
    go_wp2_with fail
    go_ret2
    refine⟨HF.out.2,u9, ?_, ?_⟩
    ·rw[HT.out]
     rfl
    ·rw[HT.out,if_pos rfl]
     exact HF.out.1.low HK5.out.size
   ·obtain⟨q,hq,rfl⟩:∃q,g5 x=some q∧ .int .i64 q=u:=by
     simp only[Option.map_eq_some_iff]at hv;exact hv
    have HPM:=zh ((byL_step hx hq acc).trans HR.out.perm);have HAL:=zh (show acc.length+1≤1000000 from by
     have h1:=HPM.out.length_eq;have h2:=HLE.out;simp at h1;omega)
    have hnr:=HR.out.rg.noRow;have hrr:=HR.out.r;have HO5:=zh (HR.out.own.keep hkn (fun y hy=> .inr fun cs=>by rw[List.mem_singleton.1 hy];exact hnr _ cs));have HK6:=zh (show Keeps w5 wn []from HR.out.k.trans hkn (fun y hy hlt=>by simp at hy;omega));have HRG:=zh hrg;have HLT:=zh hlt;obtain⟨A1,c1,rfl⟩:=OwnN.slice HO5.out;simp only[txk]at hrun hen;obtain⟨Y,hY⟩:∃S:ByteArray,(⟨x.toArray⟩:ByteArray)=S:=⟨_,rfl⟩;rw[hY]at hrun hen;obtain⟨Wc,hWc⟩:∃Wc,wn.alloc (.cells #[.string Y,.int .i64 q] 42)=Wc:=⟨_,rfl⟩;have kc:Keeps wn Wc []:=by rw[←hWc];exact Keeps.alloc _ _
    have HLa:=zh (show Lies Wc Wc.heap.size (some ⟨wn.heap.size,0,none⟩) (([(x,q)]:List (List UInt8×Int)).flatMap tdC)from lies_of_row (cs:= #[.string Y,.int .i64 q]) (by rw[←hWc];exact Row.new _ _ _) (by rw[←hY];rfl));have HA:=zh (HO5.out.keeps kc);have HKC:=zh kc;have hbs:w5.heap.size≤Wc.heap.size:=by
     have h1:=kc.size;have h2:=HK6.out.size;omega
    clear hrg hlt hkn hv hxl hzn hY kc hx hq
    go_upto_region 14 with fail
    go_wp2_with (at_builtin;refine wpList_append_N elemTd encTd rfl (.tmp 40) (.tmp 44) rfl w5.heap.size (.slice A1 acc.length c1) (some ⟨wn.heap.size,0,none⟩) 1 1 acc [(x,q)] rfl rfl rfl HA.out HLa.out (by have:=HAL.out;simp;omega) hbs ?_;intro A7 c7 w7 l7 hl7 hlen7 ho7 hk7 hb7;refine Hid.out ?_)
    refine zh ?_;have HL7:=zh hl7.out;have HO7:=zh ho7;have HK7:=zh (show Keeps wn w7 (Value.slice A1 acc.length c1).ownBlock.toList from(HKC.out.weaken (by simp)).trans hk7 (fun _ h _=>h));have HOB:=zh (show∀y∈(Value.slice A1 acc.length c1).ownBlock.toList,w5.heap.size≤y∧y≠r∧y≠b0 from fun y hy=>by
     obtain⟨h1,cs,hc⟩:=HO5.out.rows y hy;refine⟨h1,fun e=>HRG.out.noRow _ _ (e▸hc),fun e=> ?_⟩;have:=HR.out.b;omega)
    clear ho7 hk7 hb7 hl7 hWc hbs hen hrun
    go_wp2_with fail
    refine⟨⟨l7,left.erase x,zh ⟨HRG.out.keep HK7.out (fun e=>(HOB.out _ e).2.2 rfl) (fun e=>(HOB.out _ e).2.1 rfl),HO7.out,by rw[HL7.out];exact HPM.out,HK6.out.trans HK7.out (fun y hy hlt=>by have:=(HOB.out y hy).1;omega),hrr,HR.out.b⟩⟩, ?_⟩;rw[HRG.out.left_keep HK7.out (fun e=>(HOB.out _ e).2.2 rfl) (fun e=>(HOB.out _ e).2.1 rfl)];exact HLT.out
end Go.Proofs.YtoadlafdeoklbaaGreatDoor
