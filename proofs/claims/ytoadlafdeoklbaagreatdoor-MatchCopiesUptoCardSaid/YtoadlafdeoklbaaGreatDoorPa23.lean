/- Package match: what nothing needs any more is dropped. -/
import Derived.Test.YtoadlafdeoklbaaGreatDoorPa16
import Derived.Test.YtoadlafdeoklbaaGreatDoorPa17
import Derived.Test.YtoadlafdeoklbaaGreatDoorPa22

namespace Go.Proofs.YtoadlafdeoklbaaGreatDoor
open Go.RowKit Go.Maps

theorem SMap.lens {P:Program}{k e t:TypeId}{w:World}{b:Nat}{f:List UInt8→Option Value}(h:SMap w P k b f)(hk:P.underlying k=some .string)(ht:P.underlying t=some (.map k e)):
  ∃ks:List (List UInt8),ks.Nodup∧(∀x,x∈ks↔f x≠none)∧∀W,Keeps w W []→∀ty,(Builtin.len_ #[t] ty #[.map (some b)]).run P W= .ok (.int .i64 (ks.length:Nat)) W:=by
 obtain⟨D,hD,hT⟩:=h;obtain⟨ks,h1,h2,h3⟩:=tellS_keys hk hD hT;exact⟨ks,h1,h2,fun W hW ty=>by rw[h3];exact World.ownsMap.len (hD.keep hW (by simp)) ht ty⟩
section
variable {e:Operand→Value} {o:Oper} {W:World} {x lo:Operand} {a:Option Addr} {len cap l:Nat} {kl:IntKind}
/-- A list of texts behind its first ones. -/
theorem mtSliceT (ho:o.op= .slice 77 x (some lo) none none)(hx:e x= .slice a len cap)(h1:e lo= .int kl (l:Nat))(hl:l≤len):
  (execOp e o).run Tryz.prog W= .ok (.value (.slice (if cap=l then a else a.map (·.add l)) (len - l) (cap - l))) W:=by
 have el:Tryz.prog.underlying 77=some (.slice (Tryz.prog.elem 77)):=by kernel_rfl
 have sz:∀W,(sizeOf (Tryz.prog.elem 77)).run Tryz.prog W= .ok 1 W:=fun W=>by kernel_rfl
 have hs:=run_slice_l (P:=Tryz.prog) W 77 a len cap el kl (l:Int) (by omega) (by omega);rw[←run_sliceAt_slice W _ _ _ _ _ el,sz]at hs;unfold execOp;simp only[ho,hx,h1,Option.map_some,Option.map_none,Sem.run_bind,hs,Result.andThen_ok,Sem.run_pure,sliced,Int.toNat_natCast,Nat.mul_one]
end
/-- A beginning at which, or behind which, an entry stands. -/
def Good (E:Path→List UInt8→Option Sb)(s:Path):Prop:=s= []∨∃t c,s <+:t∧E t c≠none
structure Pruned (W W' :World)(B:Nat)(S:List Path)(E:Path→List UInt8→Option Sb)(N:Path→Nd)(p:Path)(S' :List Path):Prop where
 tree:TreeAt W' B S' E N
 sub:∀s∈S',s∈S
 good:∀s∈S,Good E s→s∈S'
 pre:∀s∈S,s <+:p→s∈S'
 post:∀s∈S',Good E s∨s <+:p
 k:Keeps W W' (mks S N)
section
variable {W W1 W' :World} {B:Nat} {S S1:List Path} {E:Path→List UInt8→Option Sb} {N:Path→Nd} {p:Path} {x:List UInt8}
theorem TreeAt.le_pre (T:TreeAt W B S E N){s t:Path}(h:s <+:t)(ht:t∈S):s∈S:=by
 obtain⟨u,rfl⟩:=h;exact T.pre u ht
theorem Pruned.same (T:TreeAt W B S E N)(hk:Keeps W W' [])(h:∀s∈S,Good E s∨s <+:p):Pruned W W' B S E N p S:=
 ⟨T.keeps hk,fun _ h=>h,fun _ h _=>h,fun _ h _=>h,h,hk.weaken (by simp)⟩
theorem Pruned.from (h:Pruned W1 W' B S E N p S1)(hk:Keeps W W1 []):Pruned W W' B S E N p S1:=⟨h.tree,h.sub,h.good,h.pre,h.post,(hk.weaken (by simp)).trans h.k (fun _ h _=>h)⟩
/-- It stays. -/
theorem Pruned.stay (h:Pruned W W1 B S E N (p++ [x]) S1)(hk:Keeps W1 W' [])(hx:(∃c,E (p++ [x]) c≠none)∨∃y,(p++ [x])++ [y]∈S1):Pruned W W' B S E N p S1:=by
 refine⟨h.tree.keeps hk,h.sub,h.good,fun s hs hp=>h.pre s hs (hp.trans (List.prefix_append _ _)),fun s hs=> ?_,h.k.then_ hk⟩
 rcases h.post s hs with g | g
 ·exact .inl g
 ·rcases pre_snoc_iff.1 g with g | rfl
  ·exact .inr g
  ·left
   rcases hx with⟨c,hc⟩ | ⟨y,hy⟩
   ·exact .inr ⟨_,c,List.prefix_refl _,hc⟩
   ·rcases h.post _ hy with g2 | g2
    ·rcases g2 with g2 | ⟨t,c,g2,g3⟩
     ·exact absurd g2 (by simp)
     ·exact .inr ⟨t,c,(List.prefix_append _ _).trans g2,g3⟩
    ·have:=g2.length_le
     rw[List.length_append,List.length_singleton]at this;omega
/-- It goes. -/
theorem Pruned.gone (h:Pruned W W1 B S E N (p++ [x]) S1)(hp:p∈S)(hES:∀t c,E t c≠none→t∈S)(h1:∀c,E (p++ [x]) c=none)(h2:∀y,(p++ [x])++ [y]∉S1)
  (hm:KidsM W' (N p).k (fun y=>if y=x then none else if p++ [y]∈S1 then some (N (p++ [y])).b else none)) (hk:Keeps W1 W' [(N p).k]):Pruned W W' B S E N p (S1.filter fun s=>decide (s≠p++ [x])):=by
 have hmem:∀s,s∈S1.filter (fun s=>decide (s≠p++ [x]))↔s∈S1∧s≠p++ [x]:=fun s=>by rw[List.mem_filter,decide_eq_true_iff]
 have hp1:p∈S1:=h.pre p hp (List.prefix_append _ _);have nb:¬Good E (p++ [x]):=by
  rintro(e | ⟨t,c,g1,g2⟩)
  ·simp at e
  ·have ht:t∈S1:=h.good t (hES t c g2) (.inr ⟨t,c,List.prefix_refl _,g2⟩)
   obtain⟨u,rfl⟩:=g1
   cases u with
   | nil=>
    rw[List.append_nil]at g2;exact g2 (h1 c)
   | cons y u=>
    refine h2 y (h.tree.pre u ?_)
    simpa using ht
 have T:=h.tree;refine⟨⟨(hmem _).2 ⟨T.root,by simp⟩,fun s y hs=> ?_,fun s hs=> ?_,fun s hs=> ?_,fun s hs=> ?_,fun s hs=>T.base s ((hmem s).1 hs).1,fun s hs t ht=>T.hk s ((hmem s).1 hs).1 t ((hmem t).1 ht).1,fun s hs t ht=>T.hh s ((hmem s).1 hs).1 t ((hmem t).1 ht).1,fun s hs t ht=>T.kk s ((hmem s).1 hs).1 t ((hmem t).1 ht).1,Nat.le_trans (List.length_filter_le _ _) T.le,T.ek⟩,fun s hs=>h.sub s ((hmem s).1 hs).1,fun s hs hg=>(hmem s).2 ⟨h.good s hs hg,fun e=>nb (e▸hg)⟩,fun s hs hpre=>(hmem s).2 ⟨h.pre s hs (hpre.trans (List.prefix_append _ _)),fun e=> ?_⟩,fun s hs=> ?_, ?_⟩
 ·obtain⟨hs1,hs2⟩:=(hmem _).1 hs
  refine(hmem s).2 ⟨T.up s y hs1,fun e=> ?_⟩;rw[e]at hs1;exact h2 y hs1
 ·have hs1:=((hmem s).1 hs).1
  exact(T.row s hs1).keep hk (fun e=>smap_ne_row (T.kids p hp1) (T.row s hs1) (List.mem_singleton.1 e).symm)
 ·have hs1:=((hmem s).1 hs).1
  exact(T.here s hs1).keep hk (fun e=>T.hk s hs1 p hp1 (List.mem_singleton.1 e))
 ·have hs1:=((hmem s).1 hs).1
  by_cases e:s=p
  ·subst e
   refine hm.congr fun y=> ?_
   dsimp only
   by_cases ey:y=x
   ·subst ey
    have:s++ [y]∉S1.filter (fun t=>decide (t≠s++ [y])):=fun e=>((hmem _).1 e).2 rfl
    rw[if_pos rfl,if_neg this]
   ·have hne:s++ [y]≠s++ [x]:=fun e=>ey (snoc_inj e).2
    rw[if_neg ey]
    by_cases hy:s++ [y]∈S1
    ·rw[if_pos hy,if_pos ((hmem _).2 ⟨hy,hne⟩)]
    ·rw[if_neg hy,if_neg (fun e=>hy ((hmem _).1 e).1)]
  ·refine((T.kids s hs1).keep hk (fun e2=>e (T.kk s hs1 p hp1 (List.mem_singleton.1 e2)))).congr fun y=> ?_
   dsimp only
   have hne:s++ [y]≠p++ [x]:=fun e2=>e (snoc_inj e2).1
   by_cases hy:s++ [y]∈S1
   ·rw[if_pos hy,if_pos ((hmem _).2 ⟨hy,hne⟩)]
   ·rw[if_neg hy,if_neg (fun e=>hy ((hmem _).1 e).1)]
 ·have:=hpre.length_le
  rw[e,List.length_append,List.length_singleton]at this;omega
 ·obtain⟨hs1,hs2⟩:=(hmem s).1 hs
  rcases h.post s hs1 with g | g
  ·exact .inl g
  ·rcases pre_snoc_iff.1 g with g | g
   ·exact .inr g
   ·exact absurd g hs2
 ·refine h.k.trans hk fun y hy _=> ?_
  obtain rfl:=List.mem_singleton.1 hy;exact mem_mks.2 ⟨p,hp,.inr rfl⟩
end
set_option maxRecDepth 100000 in
set_option maxHeartbeats 2000000 in
theorem mtPrune_any (B:Nat)(E:Path→List UInt8→Option Sb)(N:Path→Nd)(q:Path):∀(V:World) (S:List Path) (_T:TreeAt V B S E N) (p:Path) (_hp:p∈S) (_hES:∀t c,E t c≠none→t∈S) (_hpre:∀s∈S,Good E s∨s <+:p++q) (A:Option Addr) (c:Nat) (_hL:Lies V V.heap.size A (txL q)) (_hc:q.length≤c) (_hs:∀x∈q,x.length≤100000) (_hl:q.length≤100000),
  Calls Tryz.prog 54 #[ptr0 (N p).b,.slice A q.length c] V fun e w' =>e= .returned (.tuple #[])∧∃S',Pruned V w' B S E N p S' :=by
 induction q with
 | nil=>
  intro V S T p hp hES hpre A c hL hc hs hl;have HPN:=zh (fun(W' :World) (hW:Keeps V W' [])=>Pruned.same T hW fun s hs=>by have:=hpre s hs;rwa [List.append_nil]at this);clear hL T hpre hES
  go_enter Tryz.func54,Tryz.ntmps54
  go_upto_region 0 with fail
  refine wp_region_keeps _ (by kernel_rfl) rfl (by kernel_rfl) ?_
  iterate 4
   refine ls ?_;simp only[addEnt]
  iterate 9
   refine lo ?_;simp only[addEnt]
  refine ls ?_;simp only[addEnt];refine loose_nil (fun W vals hW hkn=> ?_);simp only[knowsAll]at hkn
  try simp only[and_true]at hkn
  simp only[fill,Act.put,zsa,zsc,zsz];clear hkn
  go_wp2_with fail
  exact bodyPost_ret (results_none rfl _ _ _) rfl ⟨rfl,S,HPN.out _ hW⟩
 | cons x q ih=>
  intro V S T p hp hES hpre A c hL hc hs hl;have HT:=zh T;have HP:=zh hp;have HES:=zh hES;have HPR:=zh hpre;have HXL:=zh (hs x (by simp));obtain⟨g,o,rfl,hgb,hcx⟩:=hL (by simp);have hx0:V.cell? ⟨g,o,none⟩=some (.string ⟨x.toArray⟩):=by
   have:=hcx 0 _ rfl
   rwa [Nat.add_zero]at this
  have HLT:=zh (lies_tail hL hc);have HGX:=zh (And.intro hgb hx0);have n1:(((q.length:Int)+1)==0)=false:=by simp only[beq_eq_false_iff_ne];omega
  have l1:(1:Int)≤(q.length:Int)+1:=by omega
  have HQL:=zh (show(∀y∈q,y.length≤100000)∧q.length≤100000 from⟨fun y hy=>hs y (List.mem_cons_of_mem _ hy),by simp at hl;omega⟩);have HC0:=zh (fun(W' :World) (hW:Keeps V W' [])=>((HT.out.row p HP.out).keeps hW).cell 1);have MR:=fun(W' :World) (hW:Keeps V W' [])=>HC0.out W' hW
  simp only[ndRow,zga,zgz,zgs]at MR;have MX:=fun(W' :World) (hW:Keeps V W' [])=>(hW.cell (p:=⟨g,o,none⟩) hgb (by simp)).trans hx0
  have MK:=fun(W' :World) (hW:Keeps V W' [])=>(HT.out.keeps hW).kid HP.out HXL.out
  obtain⟨X,hX⟩:∃S:ByteArray,(⟨x.toArray⟩:ByteArray)=S:=⟨_,rfl⟩;have HX:=zh hX;rw[hX]at MX MK;clear hL hcx hc hs hl T hp hES hpre hgb hx0 hX
  by_cases hm:p++ [x]∈S
  ·rw[if_pos hm]at MK
   have HM:=zh hm;have HIH:=zh (show∀W',Keeps V W' []→Calls Tryz.prog 54 #[ptr0 (N (p++ [x])).b,.slice (if c=1 then some ⟨g,o,none⟩else some ⟨g,o+1,none⟩) q.length (c - 1)] W' fun e w' =>e= .returned (.tuple #[])∧∃S',Pruned W' w' B S E N (p++ [x]) S' from fun W' hW=>
    ih W' S (HT.out.keeps hW) (p++ [x]) hm HES.out (by simpa using HPR.out) _ _ ((HLT.out.1.below (hW.below (Nat.le_refl _) (by simp))).mono hW.size) HLT.out.2 HQL.out.1 HQL.out.2)
   clear hm ih
   go_enter Tryz.func54,Tryz.ntmps54
   go_upto_region 0 with fail
   refine wp_region_keeps _ (by kernel_rfl) rfl (by kernel_rfl) ?_
   iterate 7
    refine ls ?_;simp only[addEnt]
   apply loose_is
   ·intro W vals hW hkn
    simp only[knows]at hkn
    try simp only[and_true]at hkn
    clear hkn;have m1:=MR W hW;refine⟨?_⟩;simp only[fill];go_simp
    first | exact⟨Keeps.refl _ _,rfl⟩ | exact⟨Keeps.alloc _ _,rfl⟩
   iterate 2
    simp only[addEnt];refine ls ?_
   simp only[addEnt];apply loose_is
   ·intro W vals hW hkn
    simp only[knows]at hkn
    try simp only[and_true]at hkn
    clear hkn;have m1:=MX W hW;refine⟨?_⟩;simp only[fill];go_simp
    first | exact⟨Keeps.refl _ _,rfl⟩ | exact⟨Keeps.alloc _ _,rfl⟩
   simp only[addEnt];apply loose_is
   ·intro W vals hW hkn
    simp only[knows]at hkn
    try simp only[and_true]at hkn
    clear hkn;have m1:=MK W hW;refine⟨?_⟩;simp only[fill];go_simp
    first | exact⟨Keeps.refl _ _,rfl⟩ | exact⟨Keeps.alloc _ _,rfl⟩
   iterate 2
    simp only[addEnt];refine ls ?_
   simp only[addEnt];refine loose_nil (fun W vals hW hkn=> ?_);simp only[knowsAll]at hkn
   try simp only[and_true]at hkn
   simp only[fill,Act.put,zsa,zsc,zsz];have HW:=zh hW;clear hkn hW
   go_upto_region 1 with fail
   refine wp_region_keeps _ (by kernel_rfl) rfl (by kernel_rfl) ?_
   iterate 3
    refine ls ?_;simp only[addEnt]
   apply loose_is
   ·intro W vals hW hkn
    simp only[knows]at hkn
    try simp only[and_true]at hkn
    clear hkn;have m1:=MR W (HW.out.then_ hW);refine⟨?_⟩;simp only[fill];go_simp
    first | exact⟨Keeps.refl _ _,rfl⟩ | exact⟨Keeps.alloc _ _,rfl⟩
   iterate 2
    simp only[addEnt];refine ls ?_
   simp only[addEnt];apply loose_is
   ·intro W vals hW hkn
    simp only[knows]at hkn
    try simp only[and_true]at hkn
    clear hkn;have m1:=MX W (HW.out.then_ hW);refine⟨?_⟩;simp only[fill];go_simp
    first | exact⟨Keeps.refl _ _,rfl⟩ | exact⟨Keeps.alloc _ _,rfl⟩
   simp only[addEnt];apply loose_is
   ·intro W vals hW hkn
    simp only[knows]at hkn
    try simp only[and_true]at hkn
    clear hkn;have m1:=MK W (HW.out.then_ hW);refine⟨?_⟩;simp only[fill];go_simp
    first | exact⟨Keeps.refl _ _,rfl⟩ | exact⟨Keeps.alloc _ _,rfl⟩
   simp only[addEnt];refine ls ?_;simp only[addEnt];refine loose_nil (fun W vals hW hkn=> ?_);simp only[knowsAll]at hkn
   try simp only[and_true]at hkn
   simp only[fill,Act.put,zsa,zsc,zsz];have HW2:=zh (HW.out.then_ hW);clear hkn hW HW;have HI:=zh (HIH.out _ HW2.out);clear HIH;obtain⟨A',hA'⟩:∃A',(if c=1 then some ⟨g,o,none⟩else some ⟨g,o+1,none⟩:Option Addr)=A' :=⟨_,rfl⟩;rw[hA']at HI
   go_upto_region 2 with fail
   refine wp_region_lit ?_;refine wpList_val (ptr0 (N (p++ [x])).b) rfl (by kernel_rfl) ?_;refine wpList_val (.slice (some ⟨g,o,none⟩) (q.length+1) c) rfl (by kernel_rfl) ?_;refine wpList_val (.slice A' q.length (c - 1)) rfl (by rw[mtSliceT (x:= .tmp 28) (lo:= .const (.int .i64 1)) (a:=some ⟨g,o,none⟩) (len:=q.length+1) (cap:=c) (l:=1) (kl:= .i64) rfl (by kernel_rfl) (by kernel_rfl) (by omega),←hA'];rfl) ?_;simp only[Act.put,zsa,zsc,zsz];clear hA'
   go_wp2_with fail
   refine HI.out.mono ?_;rintro e w3 ⟨rfl,S1,hpr⟩;have HQ:=zh (hpr.from HW2.out);have HP1:=zh (hpr.pre _ HM.out (List.prefix_refl _));have HP0:=zh (hpr.pre _ HP.out (List.prefix_append _ _));have HXC:=zh (((lies_map (HT.out.keeps HW2.out) hpr.k (xs:= [.string ⟨x.toArray⟩]) (A:=some ⟨g,o,none⟩) (Z:=W.heap.size) (fun _=>⟨g,o,rfl,Nat.lt_of_lt_of_le HGX.out.1 HW2.out.size,fun i u hu=>by
    cases i with
    | zero=>
     rw[←hu];exact(HW2.out.cell (p:=⟨g,o,none⟩) HGX.out.1 (by simp)).trans HGX.out.2
    | succ i=>simp at hu⟩) (Nat.le_refl _)) (by simp)))
   have HK3:=zh hpr.k.size;clear HI hpr MR MX MK;obtain⟨ka,ha0,ha1,ha2⟩:=(HQ.out.tree.here _ HP1.out).lens mtUndStr mtUndHere;obtain⟨kb,hb0,hb1,hb2⟩:=(HQ.out.tree.kids _ HP1.out).lens mtUndStr mtUndKids;have la:ka.length≤100000:=by
    obtain⟨l,h1,h2⟩:=HQ.out.tree.ek (p++ [x]);refine Nat.le_trans (nodup_leS ka l ha0 fun c hc=>h1 c fun e=> ?_) h2;have:=(ha1 c).1 hc;rw[e]at this;exact this rfl
   have lb:kb.length≤2000000:=by
    refine Nat.le_trans (nodup_leS kb (S1.map fun q=>q.getLastD []) hb0 fun y hy=> ?_) (by rw[List.length_map];exact HQ.out.tree.le);have:=(hb1 y).1 hy
    by_cases hm:p++ [x]++ [y]∈S1
    ·exact List.mem_map.2 ⟨_,hm,last_snoc _ y⟩
    ·dsimp only at this
     rw[if_neg hm]at this;exact absurd rfl this
   have HAB:=zh (And.intro ha1 hb1);have HAL:=zh ha2;have HBL:=zh hb2;have HS1:=zh (show IntKind.i64.wrap ((ka.length:Int)+(kb.length:Int))=((ka.length+kb.length:Nat):Int)from by rw[IntWalk.i64_in _ ⟨by omega,by omega⟩];omega);have MR0:=fun(W' :World) (hW:Keeps w3 W' [])=>((HQ.out.tree.row _ HP1.out).keeps hW).cell 0
   have MR1:=fun(W' :World) (hW:Keeps w3 W' [])=>((HQ.out.tree.row _ HP1.out).keeps hW).cell 1
   simp only[ndRow,zga,zgz,zgs]at MR0 MR1;obtain⟨na,hna⟩:∃n,ka.length=n:=⟨_,rfl⟩;obtain⟨nb,hnb⟩:∃n,kb.length=n:=⟨_,rfl⟩;have HNN:=zh (And.intro hna hnb);rw[hna]at HAL HS1;rw[hnb]at HBL HS1;clear ha0 ha1 ha2 hb0 hb1 hb2 la lb hna hnb
   by_cases hz:na=0∧nb=0
   ·have HZ:=zh hz
    obtain⟨rfl,rfl⟩:=hz
    go_upto_region 3 with fail
    refine wp_region_keeps _ (by kernel_rfl) rfl (by kernel_rfl) ?_
    iterate 3
     refine ls ?_;simp only[addEnt]
    apply loose_is
    ·intro W vals hW hkn
     simp only[knows]at hkn
     try simp only[and_true]at hkn
     clear hkn;have m1:=MR0 W hW;refine⟨?_⟩;simp only[fill];go_simp
     first | exact⟨Keeps.refl _ _,rfl⟩ | exact⟨Keeps.alloc _ _,rfl⟩
    simp only[addEnt];apply loose_is
    ·intro W vals hW hkn
     simp only[knows]at hkn
     try simp only[and_true]at hkn
     clear hkn;have m1:=HAL.out W hW;refine⟨?_⟩;simp only[fill];go_simp
     first | exact⟨Keeps.refl _ _,rfl⟩ | exact⟨Keeps.alloc _ _,rfl⟩
    iterate 3
     simp only[addEnt];refine ls ?_
    simp only[addEnt];apply loose_is
    ·intro W vals hW hkn
     simp only[knows]at hkn
     try simp only[and_true]at hkn
     clear hkn;have m1:=MR1 W hW;refine⟨?_⟩;simp only[fill];go_simp
     first | exact⟨Keeps.refl _ _,rfl⟩ | exact⟨Keeps.alloc _ _,rfl⟩
    simp only[addEnt];apply loose_is
    ·intro W vals hW hkn
     simp only[knows]at hkn
     try simp only[and_true]at hkn
     clear hkn;have m1:=HBL.out W hW;refine⟨?_⟩;simp only[fill];go_simp
     first | exact⟨Keeps.refl _ _,rfl⟩ | exact⟨Keeps.alloc _ _,rfl⟩
    simp only[addEnt];refine loose_q (.int .i64 ((0+0:Nat):Int)) (fun _=>by kernel_rfl) (fun W _=>(show _=Result.ok (Next.value (.int .i64 (IntKind.i64.wrap (((0:Nat):Int)+((0:Nat):Int))))) W by kernel_rfl).trans (by rw[HS1.out])) ?_;refine lq (.bool true) ?_;refine loose_nil (fun W vals hW hkn=> ?_);simp only[addEnt,knowsAll]at hkn
    try simp only[and_true]at hkn
    simp only[addEnt,fill,Act.put,zsa,zsc,zsz];have HW3:=zh hW;clear hkn hW MR0 MR1;have MR:=fun(W' :World) (hW:Keeps w3 W' [])=>((HQ.out.tree.row _ HP0.out).keeps hW).cell 1
    simp only[ndRow,zga,zgz,zgs]at MR;have MX:=fun(W' :World) (hW:Keeps w3 W' [])=>show W'.cell? ⟨g,o,none⟩=some (.string ⟨x.toArray⟩)from by
     obtain⟨g',o',e',hb,hc⟩:=HXC.out;injection e' with e'
     injection e' with e1 e2
     subst e1 e2;exact(hW.cell (p:=⟨g,o,none⟩) (Nat.lt_of_lt_of_le hb HK3.out) (by simp)).trans (hc 0 (.string ⟨x.toArray⟩) rfl)
    rw[HX.out]at MX
    go_upto_region 4 with fail
    refine wp_region_tail KeepsAll _ 7 (by kernel_rfl) rfl (by kernel_rfl) (fun _=>Keeps.refl _ _) (fun _ _ _ h k=>h.trans k (by simp)) (Keeps.drew _) ?_;simp only[zts,ztz,zds,zdz]
    iterate 3
     refine ls ?_;simp only[addEnt]
    apply loose_is
    ·intro W vals hW hkn
     simp only[knows]at hkn
     try simp only[and_true]at hkn
     clear hkn;have m1:=MR W (HW3.out.then_ hW);refine⟨?_⟩;simp only[fill];go_simp
     first | exact⟨Keeps.refl _ _,rfl⟩ | exact⟨Keeps.alloc _ _,rfl⟩
    iterate 2
     simp only[addEnt];refine ls ?_
    simp only[addEnt];apply loose_is
    ·intro W vals hW hkn
     simp only[knows]at hkn
     try simp only[and_true]at hkn
     clear hkn;have m1:=MX W (HW3.out.then_ hW);refine⟨?_⟩;simp only[fill];go_simp
     first | exact⟨Keeps.refl _ _,rfl⟩ | exact⟨Keeps.alloc _ _,rfl⟩
    simp only[addEnt];refine loose_nil (fun W vals hW hkn=> ?_);simp only[knowsAll]at hkn
    try simp only[and_true]at hkn
    simp only[fill,Act.put,zsa,zsc,zsz];have HW4:=zh (HW3.out.then_ hW);clear hkn hW MR MX HW3;obtain⟨w6,hrun,hm6,hk6,_⟩:=((HQ.out.tree.kids _ HP0.out).keeps HW4.out).drop mtUndStr mtUndKids (x:=x) (by have:=HXL.out;simp[maxLen];omega) 0;rw[show txk x= .string X by rw[←HX.out]]at hrun;have HF:=zh (show∃S',Pruned V w6 B S E N p S' from⟨_,HQ.out.gone HP.out HES.out (fun c=>by
     cases he:E (p++ [x]) c with
     | none=>rfl
     | some v=>
      have:=(HAB.out.1 c).2 (by rw[he];simp);have hl:=List.length_pos_of_mem this;have:=HNN.out.1;omega) (fun y hy=>by
      have:=(HAB.out.2 y).2 (by rw[if_pos hy];simp);have hl:=List.length_pos_of_mem this;have:=HNN.out.2;omega) (hm6.congr fun y=>by
      unfold updS
      by_cases hy:y=x <;> simp[hy]) ((HW4.out.weaken (by simp)).trans hk6 (fun _ h _=>h))⟩)
    clear hm6 hk6
    go_wp2_with fail
    exact bodyPost_end (results_none rfl _ _ _) rfl ⟨rfl,HF.out⟩
   ·have HZ:=zh (show(((na+nb:Nat):Int)==0)=false by rw[beq_eq_false_iff_ne];omega)
    have HF:=zh (show∀W',Keeps w3 W' []→∃S',Pruned V W' B S E N p S' from fun W' hW=>⟨S1,HQ.out.stay hW (by
     rcases Nat.eq_zero_or_pos na with h | h
     ·obtain⟨y,hy⟩:=List.exists_mem_of_length_pos (l:=kb) (by rw[HNN.out.2];omega)
      right
      refine⟨y, ?_⟩;have h1:=(HAB.out.2 y).1 hy
      by_cases hm:p++ [x]++ [y]∈S1
      ·exact hm
      ·dsimp only at h1
       rw[if_neg hm]at h1;exact absurd rfl h1
     ·obtain⟨y,hy⟩:=List.exists_mem_of_length_pos (l:=ka) (by rw[HNN.out.1];omega)
      left
      refine⟨y,fun e=> ?_⟩;have h1:=(HAB.out.1 y).1 hy;rw[e]at h1;exact h1 rfl)⟩)
    go_upto_region 3 with fail
    refine wp_region_keeps _ (by kernel_rfl) rfl (by kernel_rfl) ?_
    iterate 3
     refine ls ?_;simp only[addEnt]
    apply loose_is
    ·intro W vals hW hkn
     simp only[knows]at hkn
     try simp only[and_true]at hkn
     clear hkn;have m1:=MR0 W hW;refine⟨?_⟩;simp only[fill];go_simp
     first | exact⟨Keeps.refl _ _,rfl⟩ | exact⟨Keeps.alloc _ _,rfl⟩
    simp only[addEnt];apply loose_is
    ·intro W vals hW hkn
     simp only[knows]at hkn
     try simp only[and_true]at hkn
     clear hkn;have m1:=HAL.out W hW;refine⟨?_⟩;simp only[fill];go_simp
     first | exact⟨Keeps.refl _ _,rfl⟩ | exact⟨Keeps.alloc _ _,rfl⟩
    iterate 3
     simp only[addEnt];refine ls ?_
    simp only[addEnt];apply loose_is
    ·intro W vals hW hkn
     simp only[knows]at hkn
     try simp only[and_true]at hkn
     clear hkn;have m1:=MR1 W hW;refine⟨?_⟩;simp only[fill];go_simp
     first | exact⟨Keeps.refl _ _,rfl⟩ | exact⟨Keeps.alloc _ _,rfl⟩
    simp only[addEnt];apply loose_is
    ·intro W vals hW hkn
     simp only[knows]at hkn
     try simp only[and_true]at hkn
     clear hkn;have m1:=HBL.out W hW;refine⟨?_⟩;simp only[fill];go_simp
     first | exact⟨Keeps.refl _ _,rfl⟩ | exact⟨Keeps.alloc _ _,rfl⟩
    simp only[addEnt];refine loose_q (.int .i64 ((na+nb:Nat):Int)) (fun _=>by kernel_rfl) (fun W _=>(show _=Result.ok (Next.value (.int .i64 (IntKind.i64.wrap ((na:Int)+(nb:Int))))) W by kernel_rfl).trans (by rw[HS1.out])) ?_;refine loose_q (.bool false) (fun _=>by kernel_rfl) (fun W _=>(show _=Result.ok (Next.value (.bool ((((na+nb:Nat):Int)==0)))) W by kernel_rfl).trans (by rw[HZ.out])) ?_;refine loose_nil (fun W vals hW hkn=> ?_);simp only[addEnt,knowsAll]at hkn
    try simp only[and_true]at hkn
    simp only[addEnt,fill,Act.put,zsa,zsc,zsz];have HW3:=zh hW;clear hkn hW MR0 MR1
    go_wp2_with fail
    exact bodyPost_end (results_none rfl _ _ _) rfl ⟨rfl,HF.out _ HW3.out⟩
  ·rw[if_neg hm]at MK
   have HPN:=zh (fun(W' :World) (hW:Keeps V W' [])=>Pruned.same (p:=p) HT.out hW fun s hs=>by
    rcases HPR.out s hs with h | h
    ·exact .inl h
    ·obtain⟨u,hu⟩:=h
     by_cases hl:s.length≤p.length
     ·exact .inr (List.prefix_of_prefix_length_le ⟨u,hu⟩ (List.prefix_append _ _) hl)
     ·exfalso
      refine hm (HT.out.le_pre (t:=s) (List.prefix_of_prefix_length_le (l₃:=p++(x::q)) ⟨q,by simp⟩ ⟨u,hu⟩ ?_) hs);rw[List.length_append,List.length_singleton];omega)
   clear hm ih
   go_enter Tryz.func54,Tryz.ntmps54
   go_upto_region 0 with fail
   refine wp_region_keeps _ (by kernel_rfl) rfl (by kernel_rfl) ?_
   iterate 7
    refine ls ?_;simp only[addEnt]
   apply loose_is
   ·intro W vals hW hkn
    simp only[knows]at hkn
    try simp only[and_true]at hkn
    clear hkn;have m1:=MR W hW;refine⟨?_⟩;simp only[fill];go_simp
    first | exact⟨Keeps.refl _ _,rfl⟩ | exact⟨Keeps.alloc _ _,rfl⟩
   iterate 2
    simp only[addEnt];refine ls ?_
   simp only[addEnt];apply loose_is
   ·intro W vals hW hkn
    simp only[knows]at hkn
    try simp only[and_true]at hkn
    clear hkn;have m1:=MX W hW;refine⟨?_⟩;simp only[fill];go_simp
    first | exact⟨Keeps.refl _ _,rfl⟩ | exact⟨Keeps.alloc _ _,rfl⟩
   simp only[addEnt];apply loose_is
   ·intro W vals hW hkn
    simp only[knows]at hkn
    try simp only[and_true]at hkn
    clear hkn;have m1:=MK W hW;refine⟨?_⟩;simp only[fill];go_simp
    first | exact⟨Keeps.refl _ _,rfl⟩ | exact⟨Keeps.alloc _ _,rfl⟩
   iterate 2
    simp only[addEnt];refine ls ?_
   simp only[addEnt];refine loose_nil (fun W vals hW hkn=> ?_);simp only[knowsAll]at hkn
   try simp only[and_true]at hkn
   simp only[fill,Act.put,zsa,zsc,zsz];clear hkn
   go_wp2_with fail
   exact bodyPost_ret (results_none rfl _ _ _) rfl ⟨rfl,S,HPN.out _ hW⟩
end Go.Proofs.YtoadlafdeoklbaaGreatDoor
