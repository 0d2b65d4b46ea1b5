/- Package match: who is told is gathered (the closure that goes down the beginnings). -/
import Derived.Test.YtoadlafdeoklbaaGreatDoorPa27
import Derived.Test.YtoadlafdeoklbaaGreatDoorPa16

namespace Go.Proofs.YtoadlafdeoklbaaGreatDoor
open Go.RowKit Go.Maps

/-- What a walk from a beginning on meets. -/
def Met (L:List Sb)(p:Path)(l:List (List UInt8))(s:Bool)(x:Sb):Prop:=x∈L∧∃r,tLev x.f=p++r∧mtMm r l s=true
theorem met_nil {L:List Sb}{p:Path}{s:Bool}{x:Sb}:Met L p [] s x↔(s=true∧x∈L∧tLev x.f=p++ [[35]])∨(x∈L∧tLev x.f=p):=by
 unfold Met
 constructor
 ·rintro⟨h,r,h1,h2⟩
  simp only[mtMm,Bool.or_eq_true,Bool.and_eq_true,beq_iff_eq,List.isEmpty_iff]at h2
  rcases h2 with⟨h2,rfl⟩ | rfl
  ·exact .inl ⟨h2,h,h1⟩
  ·exact .inr ⟨h,by rw[h1,List.append_nil]⟩
 ·rintro(⟨h1,h2,h3⟩ | ⟨h1,h2⟩)
  ·exact⟨h2,_,h3,by rw[h1];rfl⟩
  ·exact⟨h1, [],by rw[h2,List.append_nil],by simp[mtMm]⟩
theorem met_cons {L:List Sb}{p:Path}{n:List UInt8}{ns:List (List UInt8)}{s:Bool}{x:Sb}:Met L p (n::ns) s x↔((s=true∧x∈L∧tLev x.f=p++ [[35]])∨(s=true∧Met L (p++ [[43]]) ns true x))∨Met L (p++ [n]) ns true x:=by
 unfold Met
 constructor
 ·rintro⟨h,r,h1,h2⟩
  cases r with
  | nil=>simp[mtMm]at h2
  | cons y ys=>
   simp only[mtMm,Bool.or_eq_true,Bool.and_eq_true,beq_iff_eq]at h2
   rcases h2 with⟨h2,e⟩ | ⟨⟨h3,rfl⟩ | rfl,h4⟩
   ·exact .inl (.inl ⟨h2,h,by rw[h1,e]⟩)
   ·exact .inl (.inr ⟨h3,h,ys,by rw[h1,List.append_assoc];rfl,h4⟩)
   ·exact .inr ⟨h,ys,by rw[h1,List.append_assoc];rfl,h4⟩
 ·rintro((⟨h1,h2,h3⟩ | ⟨h1,h2,r,h3,h4⟩) | ⟨h2,r,h3,h4⟩)
  ·exact⟨h2,_,h3,by rw[h1];simp[mtMm]⟩
  ·exact⟨h2, [43]::r,by rw[h3,List.append_assoc];rfl,by simp[mtMm,h1,h4]⟩
  ·exact⟨h2,n::r,by rw[h3,List.append_assoc];rfl,by simp[mtMm,h4]⟩
theorem met_no {L:List Sb}{p:Path}{l:List (List UInt8)}{s:Bool}{x:Sb}(h:¬Stand L p):¬Met L p l s x:=by
 rintro⟨h1,r,h2,_⟩;exact h (.inr ⟨x,h1,by rw[h2];exact List.prefix_append _ _⟩)
theorem hash_no {L:List Sb}{p:Path}{x:Sb}(h:¬Stand L p):¬(x∈L∧tLev x.f=p):=by
 rintro⟨h1,h2⟩;exact h (.inr ⟨x,h1,by rw[h2];exact List.prefix_refl _⟩)
abbrev gaFn (bx:Nat):Value:= .func (.func 39) #[] #[ptr0 bx]
abbrev wmFn (gx wx:Nat):Value:= .func (.func 41) #[] #[ptr0 gx,ptr0 wx]
/-- What the walk works on. -/
structure MeE (W:World)(B:Nat)(L:List Sb)(S:List Path)(N:Path→Nd)(bx bm gx wx:Nat):Prop where
 t:TreeAt W B S (hereF L) N
 rb:Row W bx 79 #[.map (some bm)]
 rg:Row W gx 81 #[gaFn bx]
 rw:Row W wx 82 #[wmFn gx wx]
 ne:∀p∈S,(N p).h≠bm∧(N p).k≠bm
 m:∃g,ByM W bm g
section
variable {W W' :World} {B:Nat} {L:List Sb} {S:List Path} {N:Path→Nd} {bx bm gx wx:Nat}
theorem by_row {g:Nat}{t:TypeId}{cs:Array Value}(h:∃g,ByM W bm g)(hk:Keeps W W' [bm])(hr:Row W g t cs):Row W' g t cs:=by
 obtain⟨g0,h0⟩:=h;exact hr.keep hk fun e=>smap_ne_row h0 hr (List.mem_singleton.1 e).symm
theorem MeE.go (h:MeE W B L S N bx bm gx wx)(hk:Keeps W W' [bm])(hm:∃g,ByM W' bm g):MeE W' B L S N bx bm gx wx:=by
 refine⟨h.t.keep hk fun p hp=>⟨fun e=> ?_,fun e=>(h.ne p hp).1 (List.mem_singleton.1 e),fun e=>(h.ne p hp).2 (List.mem_singleton.1 e)⟩,by_row h.m hk h.rb,by_row h.m hk h.rg,by_row h.m hk h.rw,h.ne,hm⟩;obtain⟨g0,h0⟩:=h.m;exact smap_ne_row h0 (h.t.row p hp) (List.mem_singleton.1 e).symm
theorem lies_bym {A:Option Addr}{xs:List Value}(h:∃g,ByM W bm g)(hk:Keeps W W' [bm])(hL:Lies W W.heap.size A xs):Lies W' W'.heap.size A xs:=fun hp=>by
 obtain⟨b,o,e,hb,hc⟩:=hL hp;refine⟨b,o,e,Nat.lt_of_lt_of_le hb hk.size,fun i u hu=> ?_⟩;have h0:=hc i u hu;rw[←h0];refine hk.cell (p:=⟨b,o+i,none⟩) (by show b < _;omega) fun hm=> ?_
 obtain⟨g,D,⟨es,clock,hb',_⟩,_⟩:=h;rw[←List.mem_singleton.1 hm]at hb';unfold World.cell? at h0;simp[hb']at h0
end
/-- What is seen so far: a world, a map. -/
structure MeG (W wr:World)(bm:Nat)(V:Sb→Prop):Prop where
 k:Keeps W wr [bm]
 m:∃g,ByM wr bm g∧ByIs V g
theorem MeG.congr {W wr:World}{bm:Nat}{V U:Sb→Prop}(h:MeG W wr bm V)(e:∀x,V x↔U x):MeG W wr bm U:=⟨h.k,by
 obtain⟨g,h1,h2⟩:=h.m;exact⟨g,h1,h2.congr e⟩⟩
theorem MeG.of {W w1 w2:World}{bm:Nat}{V U:Sb→Prop}{e:Ending}(h:MeG W w1 bm V)(hp:GaPost w1 bm U e w2):MeG W w2 bm U:=⟨h.k.trans hp.2.1 (fun _ h _=>h),hp.2.2⟩
theorem MeG.keeps {W wr w2:World}{bm:Nat}{V:Sb→Prop}(h:MeG W wr bm V)(hk:Keeps wr w2 []):MeG W w2 bm V:=⟨h.k.then_ hk,by
 obtain⟨g,h1,h2⟩:=h.m;exact⟨g,SMap.keeps h1 hk,h2⟩⟩
set_option maxRecDepth 100000 in
set_option maxHeartbeats 4000000 in
theorem mtWalkM_any (B:Nat)(L:List Sb)(S:List Path)(N:Path→Nd)(hok:MtOk L)(hS:∀p,p∈S↔Stand L p)(bx bm gx wx:Nat)(l:List (List UInt8)):∀(s:Bool) (p:Path),p∈S→∀(W:World) (V:Sb→Prop) (g:List UInt8→Option Int) (A:Option Addr) (c:Nat),
  MeE W B L S N bx bm gx wx→(∀x,V x→x∈L)→ByM W bm g→ByIs V g→Lies W W.heap.size A (txL l)→l.length≤c→(∀x∈l,x.length≤100000)→l.length≤100000→
  Calls Tryz.prog 41 #[ptr0 (N p).b,.slice A l.length c,.bool s,ptr0 gx,ptr0 wx] W (GaPost W bm fun x=>V x∨Met L p l s x):=by
 induction l with
 | nil=>
  intro s p hp W V g A c hE hV hg hb hL hc hx hl;have HE:=zh hE;have HP:=zh hp;have HV:=zh hV;have HOK:=zh hok;have HS:=zh hS;clear hE hp hV hok hS hL hc hx hl
  go_enter Tryz.func41,Tryz.ntmps41
  have HC0:=zh (show MeG W W bm V from⟨Keeps.refl _ _,g,hg,hb⟩);have c1:=(HE.out.t.row p HP.out).cell 1;simp only[ndRow,zga,zgz,zgs]at c1;have cg:=HE.out.rg.cell 0;simp only[zga,zgz]at cg;have hlk:=HE.out.t.kid HP.out (x:= [35]) (by simp);refine wp_seq_k fun K hK=> ?_
  go_cut [] (fun wx=>Hid (MeG W wx bm fun x=>V x∨(s=true∧x∈L∧tLev x.f=p++ [[35]])))
  case first=>
   by_cases hm:p++ [[35]]∈S
   ·rw[if_pos hm]at hlk
    cases s with
    | false=>
     go_wp2_with fail
     go_meet
     exact zh (HC0.out.congr fun x=>by simp)
    | true=>
     have HGA:=zh (mtGather_any B L S N HOK.out W HE.out.t (p++ [[35]]) hm bx bm HE.out.rb (HE.out.ne _ hm).1 V HV.out g hg hb)
     go_wp2_with fail
     refine HGA.out.mono ?_;rintro e w2 hp2;have HP2:=zh hp2;obtain⟨rfl,_,_⟩:=hp2
     go_wp2_with fail
     go_meet
     exact zh ((HC0.out.of HP2.out).congr fun x=>by simp)
   ·rw[if_neg hm]at hlk
    have HN:=zh (fun x=>hash_no (x:=x) (fun e=>hm ((HS.out _).2 e)))
    go_wp2_with fail
    go_meet
    exact zh (HC0.out.congr fun x=>by have:=HN.out x;simp_all)
  case rest=>
   refine hK _ _ ?_;have HC:=zh hcut.out;clear c1 cg hlk hcut;obtain⟨g1,m1,i1⟩:=HC.out.m;have cg:=(HE.out.go HC.out.k ⟨_,m1⟩).rg.cell 0;simp only[zga,zgz]at cg;have HGA:=zh (mtGather_any B L S N HOK.out _ (HE.out.go HC.out.k ⟨_,m1⟩).t p HP.out bx bm (HE.out.go HC.out.k ⟨_,m1⟩).rb (HE.out.ne _ HP.out).1 _ (fun x hx=>hx.elim (HV.out x) fun h=>h.2.1) g1 m1 i1)
   go_wp2_with fail
   refine HGA.out.mono ?_;rintro e w2 hp2;have HP2:=zh (HC.out.of hp2);obtain⟨rfl,_,_⟩:=hp2
   go_wp2_with fail
   have hf:=HP2.out.congr (U:=fun x=>V x∨Met L p [] s x) fun x=>by rw[met_nil,or_assoc]
   exact bodyPost_ret (results_none rfl _ _ _) rfl ⟨rfl,hf.k,hf.m⟩
 | cons n ns ih=>
  intro s p hp W V g A c hE hV hg hb hL hc hx hl;have HE:=zh hE;have HP:=zh hp;have HV:=zh hV;have HOK:=zh hok;have HS:=zh hS;have HI:=zh ih;have HXL:=zh (hx n (by simp));have HQL:=zh (show(∀y∈ns,y.length≤100000)∧ns.length≤100000 from⟨fun y hy=>hx y (List.mem_cons_of_mem _ hy),by simp at hl;omega⟩);obtain⟨a0,o0,rfl,hgb,hcx⟩:=hL (by simp);have HLL:=zh (fun(W' :World) (hk:Keeps W W' [bm])=>lies_tail (lies_bym hE.m hk hL) hc);have HX0:=zh (fun(W' :World) (hk:Keeps W W' [bm])=>show W'.cell? ⟨a0,o0,none⟩=some (.string ⟨n.toArray⟩)from by
   obtain⟨b',o',e,_,h2⟩:=lies_bym hE.m hk hL (by simp);simp at e;obtain⟨rfl,rfl⟩:=e;exact h2 0 _ rfl)
  have n1:(((ns.length:Int)+1)==0)=false:=by simp only[beq_eq_false_iff_ne];omega
  have l1:(1:Int)≤(ns.length:Int)+1:=by omega
  obtain⟨A',hA'⟩:∃A',(if c=1 then some ⟨a0,o0,none⟩else some ⟨a0,o0+1,none⟩:Option Addr)=A' :=⟨_,rfl⟩;rw[hA']at HLL;have HA' :=zh hA';clear hE hp hV hok hS hL hc hx hl ih hcx hgb hA'
  go_enter Tryz.func41,Tryz.ntmps41
  have HC0:=zh (show MeG W W bm V from⟨Keeps.refl _ _,g,hg,hb⟩);have c1:=(HE.out.t.row p HP.out).cell 1;simp only[ndRow,zga,zgz,zgs]at c1;have cg:=HE.out.rg.cell 0;simp only[zga,zgz]at cg;have hlk:=HE.out.t.kid HP.out (x:= [35]) (by simp);refine wp_seq_k fun K hK=> ?_
  go_cut [] (fun wx=>Hid (MeG W wx bm fun x=>V x∨(s=true∧x∈L∧tLev x.f=p++ [[35]])))
  case first=>
   by_cases hm:p++ [[35]]∈S
   ·rw[if_pos hm]at hlk
    cases s with
    | false=>
     go_wp2_with fail
     go_meet
     exact zh (HC0.out.congr fun x=>by simp)
    | true=>
     have HGA:=zh (mtGather_any B L S N HOK.out W HE.out.t (p++ [[35]]) hm bx bm HE.out.rb (HE.out.ne _ hm).1 V HV.out g hg hb)
     go_wp2_with fail
     refine HGA.out.mono ?_;rintro e w2 hp2;have HP2:=zh hp2;obtain⟨rfl,_,_⟩:=hp2
     go_wp2_with fail
     go_meet
     exact zh ((HC0.out.of HP2.out).congr fun x=>by simp)
   ·rw[if_neg hm]at hlk
    have HN:=zh (fun x=>hash_no (x:=x) (fun e=>hm ((HS.out _).2 e)))
    go_wp2_with fail
    go_meet
    exact zh (HC0.out.congr fun x=>by have:=HN.out x;simp_all)
  case rest=>
   refine hK _ _ ?_;clear hK;obtain⟨W1,hW1⟩:∃w,w=wc:=⟨_,rfl⟩;have HC:=zh hcut.out;rw[←hW1]at HC ⊢
   clear c1 cg hlk hcut hW1;obtain⟨g1,m1,i1⟩:=HC.out.m;have HE1:=zh (HE.out.go HC.out.k ⟨_,m1⟩);have HG1:=zh (And.intro m1 i1);have HV1:=zh (show∀x,(V x∨(s=true∧x∈L∧tLev x.f=p++ [[35]]))→x∈L from fun x hx=>hx.elim (HV.out x) fun h=>h.2.1);clear m1 i1;refine wp_seq_k fun K2 hK2=> ?_
   have HK2:=zh hK2;clear hK2
   go_wp2_with fail
   refine HK2.out _ _ ?_;clear HK2;have c1:=(HE1.out.t.row p HP.out).cell 1;simp only[ndRow,zga,zgz,zgs]at c1;have hlk:=HE1.out.t.kid HP.out (x:= [43]) (by simp);refine wp_seq_k fun K3 hK3=> ?_
   go_cut [] (fun wx=>Hid (MeG W wx bm fun x=>(V x∨(s=true∧x∈L∧tLev x.f=p++ [[35]]))∨(s=true∧Met L (p++ [[43]]) ns true x)))
   case first=>
    by_cases hm:p++ [[43]]∈S
    ·rw[if_pos hm]at hlk
     cases s with
     | false=>
      go_wp2_with fail
      go_meet
      exact zh (HC.out.congr fun x=>by simp)
     | true=>
      have HIH:=zh (show∀W',Keeps W1 W' []→Calls Tryz.prog 41 #[ptr0 (N (p++ [[43]])).b,.slice A' ns.length (c - 1),.bool true,ptr0 gx,ptr0 wx] W' (GaPost W' bm fun x=>(V x∨(true=true∧x∈L∧tLev x.f=p++ [[35]]))∨Met L (p++ [[43]]) ns true x)from fun W' hW=>
       HI.out true _ hm W' _ g1 A' (c - 1) (HE1.out.go (hW.weaken (by simp)) ⟨_,SMap.keeps HG1.out.1 hW⟩) HV1.out (SMap.keeps HG1.out.1 hW) HG1.out.2 (HLL.out W' (HC.out.k.then_ hW)).1 (HLL.out W' (HC.out.k.then_ hW)).2 HQL.out.1 HQL.out.2)
      have MW:=fun(W' :World) (hW:Keeps W1 W' [])=>(HE1.out.rw.keeps hW).cell 0
      simp only[zga,zgz]at MW
      go_upto_region 7 with fail
      refine wp_region_tail KeepsAll _ 4 (by kernel_rfl) rfl (by kernel_rfl) (fun _=>Keeps.refl _ _) (fun _ _ _ h k=>h.trans k (by simp)) (Keeps.drew _) ?_;simp only[zts,ztz,zds,zdz];refine ll 82 (.tmp 4) (⟨wx,0,none⟩) (wmFn gx wx) (fun W hW=>MW W hW) ?_;refine lq (ptr0 (N (p++ [[43]])).b) ?_;refine lq (.slice (some ⟨a0,o0,none⟩) (ns.length+1) c) ?_;refine lq (.slice A' ns.length (c - 1)) ?_ (h:=fun W vals=>by rw[mtSliceT (x:= .tmp 42) (lo:= .const (.int .i64 1)) (a:=some ⟨a0,o0,none⟩) (len:=ns.length+1) (cap:=c) (l:=1) (kl:= .i64) rfl (by kernel_rfl) (by kernel_rfl) (by omega),←HA'.out];rfl);refine loose_nil (fun W vals hW hkn=> ?_);simp only[addEnt,knowsAll]at hkn
      try simp only[and_true]at hkn
      simp only[addEnt,fill,Act.put,zsa,zsc,zsz];have HW:=zh hW;clear hkn hW MW
      go_wp2_with fail
      refine(HIH.out _ HW.out).mono ?_;rintro e w3 hp3;have HP3:=zh ((HC.out.keeps HW.out).of hp3);obtain⟨rfl,_,_⟩:=hp3;clear HIH
      go_wp2_with fail
      go_meet
      exact zh (HP3.out.congr fun x=>by simp)
    ·rw[if_neg hm]at hlk
     have HN:=zh (fun x=>met_no (l:=ns) (s:=true) (x:=x) (fun e=>hm ((HS.out _).2 e)))
     go_wp2_with fail
     go_meet
     exact zh (HC.out.congr fun x=>by have:=HN.out x;simp_all)
   case rest=>
    refine hK3 _ _ ?_;clear hK3;obtain⟨W2,hW2⟩:∃w,w=wc:=⟨_,rfl⟩;have HC2:=zh hcut.out;rw[←hW2]at HC2 ⊢
    clear c1 hlk hcut hW2 HC HE1 HG1 HV1 g1;clear W1;obtain⟨W1,hW1⟩:∃w,w=W2:=⟨_,rfl⟩;have HC:=zh HC2.out;rw[←hW1]at HC ⊢
    clear hW1 HC2;clear W2;obtain⟨g1,m1,i1⟩:=HC.out.m;have HE1:=zh (HE.out.go HC.out.k ⟨_,m1⟩);have HG1:=zh (And.intro m1 i1);have HV1:=zh (show∀x,((V x∨(s=true∧x∈L∧tLev x.f=p++ [[35]]))∨(s=true∧Met L (p++ [[43]]) ns true x))→x∈L from fun x hx=>hx.elim (fun hx=>hx.elim (HV.out x) fun h=>h.2.1) fun h=>h.2.1);clear m1 i1;have MR:=fun(W' :World) (hW:Keeps W1 W' [])=>((HE1.out.t.row p HP.out).keeps hW).cell 1
    simp only[ndRow,zga,zgz,zgs]at MR;have MX:=fun(W' :World) (hW:Keeps W1 W' [])=>HX0.out W' (HC.out.k.then_ hW)
    have MK:=fun(W' :World) (hW:Keeps W1 W' [])=>(HE1.out.t.keeps hW).kid HP.out HXL.out
    obtain⟨X,hX⟩:∃S:ByteArray,(⟨n.toArray⟩:ByteArray)=S:=⟨_,rfl⟩;rw[hX]at MX MK;clear hX
    by_cases hm:p++ [n]∈S
    ·rw[if_pos hm]at MK
     go_upto_region 8 with fail
     refine wp_region_keeps _ (by kernel_rfl) rfl (by kernel_rfl) ?_
     iterate 3
      refine ls ?_;simp only[addEnt]
     apply loose_is
     ·intro W vals hW hkn
      simp only[knows]at hkn
      try simp only[and_true]at hkn
      clear hkn;have m1:=MR W hW;refine⟨?_⟩;simp only[fill];go_simp
      first | exact⟨Keeps.refl _ _,rfl⟩ | exact⟨Keeps.alloc _ _,rfl⟩
     iterate 2
      simp only[addEnt];refine ls ?_
     simp only[addEnt];apply loose_is
     ·intro W vals hW hkn
      simp only[knows]at hkn
      try simp only[and_true]at hkn
      clear hkn;have m1:=MX W hW;refine⟨?_⟩;simp only[fill];go_simp
      first | exact⟨Keeps.refl _ _,rfl⟩ | exact⟨Keeps.alloc _ _,rfl⟩
     simp only[addEnt];apply loose_is
     ·intro W vals hW hkn
      simp only[knows]at hkn
      try simp only[and_true]at hkn
      clear hkn;have m1:=MK W hW;refine⟨?_⟩;simp only[fill];go_simp
      first | exact⟨Keeps.refl _ _,rfl⟩ | exact⟨Keeps.alloc _ _,rfl⟩
     simp only[addEnt];refine ls ?_;simp only[addEnt];refine loose_nil (fun W vals hW hkn=> ?_);simp only[knowsAll]at hkn
     try simp only[and_true]at hkn
     simp only[fill,Act.put,zsa,zsc,zsz];have HC4:=zh (HC.out.keeps hW);have HE4:=zh (HE1.out.go (hW.weaken (by simp)) ⟨_,SMap.keeps HG1.out.1 hW⟩);have HG4:=zh (And.intro (SMap.keeps HG1.out.1 hW) HG1.out.2);clear hkn hW MR MX MK HC HE1 HG1;clear W1;obtain⟨W1,hW1⟩:∃w,w=W:=⟨_,rfl⟩;rw[←hW1]at HC4 HE4 HG4 ⊢
     clear hW1;clear W;have HC:=zh HC4.out;have HE1:=zh HE4.out;have HG1:=zh HG4.out;clear HC4 HE4 HG4;have HIH:=zh (show∀W',Keeps W1 W' []→Calls Tryz.prog 41 #[ptr0 (N (p++ [n])).b,.slice A' ns.length (c - 1),.bool true,ptr0 gx,ptr0 wx] W' (GaPost W' bm fun x=>((V x∨(s=true∧x∈L∧tLev x.f=p++ [[35]]))∨(s=true∧Met L (p++ [[43]]) ns true x))∨Met L (p++ [n]) ns true x)from fun W' hW=>
      HI.out true _ hm W' _ g1 A' (c - 1) (HE1.out.go (hW.weaken (by simp)) ⟨_,SMap.keeps HG1.out.1 hW⟩) HV1.out (SMap.keeps HG1.out.1 hW) HG1.out.2 (HLL.out W' (HC.out.k.then_ hW)).1 (HLL.out W' (HC.out.k.then_ hW)).2 HQL.out.1 HQL.out.2)
     have MW:=fun(W' :World) (hW:Keeps W1 W' [])=>(HE1.out.rw.keeps hW).cell 0
     simp only[zga,zgz]at MW
     go_upto_region 10 with fail
     refine wp_region_tail KeepsAll _ 4 (by kernel_rfl) rfl (by kernel_rfl) (fun _=>Keeps.refl _ _) (fun _ _ _ h k=>h.trans k (by simp)) (Keeps.drew _) ?_;simp only[zts,ztz,zds,zdz];refine ll 82 (.tmp 4) (⟨wx,0,none⟩) (wmFn gx wx) (fun W hW=>MW W hW) ?_;refine lq (ptr0 (N (p++ [n])).b) ?_;refine lq (.slice (some ⟨a0,o0,none⟩) (ns.length+1) c) ?_;refine lq (.slice A' ns.length (c - 1)) ?_ (h:=fun W vals=>by rw[mtSliceT (x:= .tmp 57) (lo:= .const (.int .i64 1)) (a:=some ⟨a0,o0,none⟩) (len:=ns.length+1) (cap:=c) (l:=1) (kl:= .i64) rfl (by kernel_rfl) (by kernel_rfl) (by omega),←HA'.out];rfl);refine loose_nil (fun W vals hW hkn=> ?_);simp only[addEnt,knowsAll]at hkn
     try simp only[and_true]at hkn
     simp only[addEnt,fill,Act.put,zsa,zsc,zsz];have HW:=zh hW;clear hkn hW MW
     go_wp2_with fail
     refine(HIH.out _ HW.out).mono ?_;rintro e w3 hp3;have HP3:=zh ((HC.out.keeps HW.out).of hp3);obtain⟨rfl,_,_⟩:=hp3;clear HIH;have HF:=zh (HP3.out.congr (U:=fun x=>V x∨Met L p (n::ns) s x) fun x=>by
      rw[met_cons];simp only[or_assoc])
     clear HP3
     go_wp2_with fail
     exact bodyPost_end (results_none rfl _ _ _) rfl ⟨rfl,HF.out.k,HF.out.m⟩
    ·rw[if_neg hm]at MK
     have HN:=zh (fun x=>met_no (l:=ns) (s:=true) (x:=x) (fun e=>hm ((HS.out _).2 e)))
     go_upto_region 8 with fail
     refine wp_region_keeps _ (by kernel_rfl) rfl (by kernel_rfl) ?_
     iterate 3
      refine ls ?_;simp only[addEnt]
     apply loose_is
     ·intro W vals hW hkn
      simp only[knows]at hkn
      try simp only[and_true]at hkn
      clear hkn;have m1:=MR W hW;refine⟨?_⟩;simp only[fill];go_simp
      first | exact⟨Keeps.refl _ _,rfl⟩ | exact⟨Keeps.alloc _ _,rfl⟩
     iterate 2
      simp only[addEnt];refine ls ?_
     simp only[addEnt];apply loose_is
     ·intro W vals hW hkn
      simp only[knows]at hkn
      try simp only[and_true]at hkn
      clear hkn;have m1:=MX W hW;refine⟨?_⟩;simp only[fill];go_simp
      first | exact⟨Keeps.refl _ _,rfl⟩ | exact⟨Keeps.alloc _ _,rfl⟩
     simp only[addEnt];apply loose_is
     ·intro W vals hW hkn
      simp only[knows]at hkn
      try simp only[and_true]at hkn
      clear hkn;have m1:=MK W hW;refine⟨?_⟩;simp only[fill];go_simp
      first | exact⟨Keeps.refl _ _,rfl⟩ | exact⟨Keeps.alloc _ _,rfl⟩
     simp only[addEnt];refine ls ?_;simp only[addEnt];refine loose_nil (fun W vals hW hkn=> ?_);simp only[knowsAll]at hkn
     try simp only[and_true]at hkn
     simp only[fill,Act.put,zsa,zsc,zsz];have HF:=zh ((HC.out.keeps hW).congr (U:=fun x=>V x∨Met L p (n::ns) s x) fun x=>by
      have:=HN.out x;rw[met_cons];simp only[this,or_false,or_assoc])
     clear hkn hW MR MX MK
     go_wp2_with fail
     exact bodyPost_end (results_none rfl _ _ _) rfl ⟨rfl,HF.out.k,HF.out.m⟩
end Go.Proofs.YtoadlafdeoklbaaGreatDoor
