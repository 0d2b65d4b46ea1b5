/- Package match: all entries, in order. Package match: a book; New, Len, Nodes; entries set. -/
import Derived.Test.YtoadlafdeoklbaaGreatDoorPa24
import Derived.Test.YtoadlafdeoklbaaGreatDoorPa15

namespace Go.Proofs.YtoadlafdeoklbaaGreatDoor
open Go.RowKit Go.Maps Go.Shelf Go.Sort

theorem OwnN.low {α:Type}{f:α→List Value}{w:World}{B B' :Nat}{e:TypeId}{k:Nat}{v:Value}{l:List α}(h:OwnN w B e k f v l)(hb:B' ≤B):OwnN w B' e k f v l:=
 ⟨h.1,h.2.imp id fun⟨g,c,cur,h1,h2,h3⟩=>⟨g,c,cur,h1,Nat.le_trans hb h2,h3⟩⟩
instance:Inhabited Sb:=⟨sbZ⟩
theorem cmpB_neg (a b:List UInt8):cmpB a b < 0↔Op.bytesLess a b=true:=by
 unfold cmpB
 split
 ·simp_all
 ·split <;> simp_all
theorem cmpB_zero (a b:List UInt8):cmpB a b=0↔a=b:=by
 unfold cmpB
 rcases bl_tri a b with h | rfl | h
 ·rw[if_pos h]
  constructor
  ·intro e
   omega
  ·rintro rfl
   rw[bl_irrefl]at h
   cases h
 ·simp[bl_irrefl]
 ·rw[if_neg (by rw[bl_asymm h];simp),if_pos h]
  constructor
  ·intro e
   omega
  ·rintro rfl
   rw[bl_irrefl]at h
   cases h
theorem ltSub (x y:Sb):ltOf cmpSub x y=sbLt x y:=by
 rw[Bool.eq_iff_iff];unfold ltOf cmpSub sbLt;rw[decide_eq_true_iff,kLt_iff]
 by_cases h:x.f=y.f
 ·rw[if_pos ((cmpB_zero _ _).2 h),cmpB_neg,h,bl_irrefl]
  simp
 ·rw[if_neg (fun e=>h ((cmpB_zero _ _).1 e)),cmpB_neg]
  simp[h]
theorem swoSub:SWO (ltOf cmpSub) where
 irrefl x:=by rw[ltSub];exact kLt_irrefl _ _
 trans x y z h1 h2:=by rw[ltSub]at*;exact kLt_trans h1 h2
 ntrans x y z h1 h2:=by
  rw[ltSub]at*;unfold sbLt at*;rw[←Bool.not_eq_true]at*;intro h3
  rcases kLt_tri x.f x.c y.f y.c with h | h | h
  ·exact h1 h
  ·rw[h.1,h.2]at h3
   exact h2 h3
  ·exact h2 (kLt_trans h h3)
abbrev cmpFnSub:Value:= .func (.func 74) #[] #[]
/-- slices.SortFunc at entries. -/
theorem mtSortSub_any (w:World)(base:Nat)(v:Value)(acc:List Sb)(ho:OwnN w base 25 3 sbC v acc)(hl:acc.length≤1000000):
  Calls Tryz.prog 73 #[v,cmpFnSub] w fun e w' =>e= .returned (.tuple #[])∧∃l,l.Perm acc∧(l.Pairwise fun a b=>sbLt b a=false)∧OwnN w' base 25 3 sbC v l∧Keeps w w' v.ownBlock.toList:=by
 by_cases h0:acc= []
 ·subst h0
  obtain⟨A,c,rfl⟩:=OwnN.slice ho;have h:=AnyF.slices_SortFunc_none Tryz.sortSub A c cmpFnSub w
  change Calls Tryz.prog 73 _ _ _ at h
  refine h.mono ?_;rintro e w' ⟨rfl,rfl⟩;exact⟨rfl, [],List.Perm.refl _,List.Pairwise.nil,ho,Keeps.refl _ _⟩
 ·obtain⟨blk,c,rfl⟩:∃blk c,v= .slice (some ⟨blk,0,none⟩) acc.length c:=by
   obtain⟨h1,⟨h2,h3⟩ | ⟨g,c,cur,h2,_⟩⟩:=ho
   ·exact absurd (List.length_eq_zero_iff.1 h3) h0
   ·exact⟨g,c,h2⟩
  obtain⟨cur,hr,_⟩:=own_row ho;have eg:∀args w,(callFunc 74 args).run Tryz.prog w= .ok (.enter 74 args) w:=enters_of Tryz.func74 (by kernel_rfl) rfl;have hcmp:CmpLays Tryz.prog 74 #[] sbC 3 cmpSub blk 0 acc.toArray.size w:=fun m os dk _ x y=>(mtCmpSub_any x y _).mono fun e w' h=>h
  have h:=AnyQ.slices_SortFunc Tryz.sortSub 3 (fun w=>by kernel_rfl) (fun w=>by kernel_rfl) sbC (fun _=>rfl) (fun x u hu=>encSb.one x u hu) cmpSub swoSub 74 #[] blk 0 c acc.toArray w eg hcmp (own_holds encSb ho) hr.lt (by simp;omega);have e1:acc.toArray.size=acc.length:=by simp
  rw[e1]at h
  change Calls Tryz.prog 73 _ _ _ at h
  refine h.mono ?_;rintro e w' ⟨rfl,d,n,os,hp,hs,rfl⟩;obtain⟨hz,hperm,hup⟩:=sorted_list hp hs;obtain⟨o1,o2⟩:=own_sorted encSb ho hz n os;rw[show d.toList.length=acc.length from hperm.length_eq]at o1;refine⟨rfl,d.toList,hperm,hup.imp fun{a b} hab=>by rw[←ltSub];exact hab, ?_,o2⟩;have e2:d.toList.length=acc.length:=hperm.length_eq;exact o1
theorem up_of_sorted {L l:List Sb}(hL:SbUp L)(hp:l.Perm L)(hs:l.Pairwise fun a b=>sbLt b a=false):l=L:=by
 have hn:l.Nodup:=hp.nodup_iff.2 hL.nodup;refine SbUp.ext ?_ hL fun x=>hp.mem_iff
 unfold SbUp;refine(hs.and hn).imp_of_mem fun{a b} ha hb hab=> ?_
 rcases kLt_tri a.f a.c b.f b.c with h | h | h
 ·exact h
 ·exact absurd (hL.one (hp.mem_iff.1 ha) (hp.mem_iff.1 hb) h.1 h.2) hab.2
 ·have:=hab.1
  unfold sbLt at this;rw[h]at this
  cases this
set_option maxRecDepth 100000 in
set_option maxHeartbeats 2000000 in
theorem mtAll_any (W:World)(B d:Nat)(L:List Sb)(S:List Path)(N:Path→Nd)(h:BookAt W B d L S N):Calls Tryz.prog 52 #[ptr0 d] W fun e w' =>∃v,e= .returned v∧OwnN w' W.heap.size 25 3 sbC v L∧Keeps W w' []:=by
 have HB:=zh h;have HN:=zh (mtNone_at W d _ _ h.row);clear h
 go_enter Tryz.func52,Tryz.ntmps52
 go_wp2_with fail
 refine HN.out.mono ?_;rintro e w1 ⟨rfl,rfl⟩
 go_upto_region 6 with fail
 obtain⟨go,hgo⟩:∃go,w1.heap.size=go:=⟨_,rfl⟩;have r1:Row ((w1.alloc (.cells #[.slice none 0 0] 22)).alloc (.cells #[wkFn w1.heap.size (w1.heap.size+1)] 81)) w1.heap.size 22 #[.slice none 0 0]:=(Row.new _ _ _).alloc _;have r2:Row ((w1.alloc (.cells #[.slice none 0 0] 22)).alloc (.cells #[wkFn w1.heap.size (w1.heap.size+1)] 81)) (w1.heap.size+1) 81 #[wkFn w1.heap.size (w1.heap.size+1)]:=by
  have:=Row.new (w1.alloc (.cells #[.slice none 0 0] 22)) 81 #[wkFn w1.heap.size (w1.heap.size+1)]
  rwa [World.size_alloc]at this
 have k2:Keeps w1 ((w1.alloc (.cells #[.slice none 0 0] 22)).alloc (.cells #[wkFn w1.heap.size (w1.heap.size+1)] 81)) []:=(Keeps.alloc _ _).then_alloc _;obtain⟨W2,hW2⟩:∃W2,(w1.alloc (.cells #[.slice none 0 0] 22)).alloc (.cells #[wkFn w1.heap.size (w1.heap.size+1)] 81)=W2:=⟨_,rfl⟩;rw[hW2]at r1 r2 k2 ⊢
 rw[hgo]at r1 r2 ⊢
 have HGO:=zh (show go < W2.heap.size∧w1.heap.size=go from⟨r1.lt,hgo⟩);have HR1:=zh r1;have HR2:=zh r2;have HK2:=zh k2;have M0:=fun(W' :World) (hW:Keeps W2 W' [])=>(HR2.out.keeps hW).cell 0
 have M1:=fun(W' :World) (hW:Keeps W2 W' [])=>(HB.out.row.keeps (HK2.out.then_ hW)).cell 0
 simp only[zga,zgz]at M0 M1;clear r1 r2 k2 hW2 hgo;refine wp_region_tail KeepsAll _ 5 (by kernel_rfl) rfl (by kernel_rfl) (fun _=>Keeps.refl _ _) (fun _ _ _ h k=>h.trans k (by simp)) (Keeps.drew _) ?_;simp only[zts,ztz,zds,zdz];apply loose_is
 ·intro W vals hW hkn
  simp only[knows]at hkn
  try simp only[and_true]at hkn
  clear hkn;have m:=M0 W hW;refine⟨?_⟩;simp only[fill];go_simp
  first | exact⟨Keeps.refl _ _,rfl⟩ | exact⟨Keeps.alloc _ _,rfl⟩
 iterate 3
  simp only[addEnt];refine ls ?_
 simp only[addEnt];apply loose_is
 ·intro W vals hW hkn
  simp only[knows]at hkn
  try simp only[and_true]at hkn
  clear hkn;have m:=M1 W hW;refine⟨?_⟩;simp only[fill];go_simp
  first | exact⟨Keeps.refl _ _,rfl⟩ | exact⟨Keeps.alloc _ _,rfl⟩
 simp only[addEnt];refine loose_nil (fun W vals hW hkn=> ?_);simp only[knowsAll]at hkn
 try simp only[and_true]at hkn
 simp only[fill,Act.put,zsa,zsc,zsz];have HW:=zh hW;clear hkn hW M0 M1;have HWK:=zh (mtWalk_any B L S N HB.out.ok HB.out.st W (HB.out.tree.keeps (HK2.out.then_ HW.out)) go (go+1) (HR2.out.keeps HW.out) ⟨_,HR1.out.keeps HW.out⟩ 202 [] W (.slice none 0 0) [] HB.out.tree.root (by simp) ⟨HR1.out.keeps HW.out,OwnN.nil _ _ _ _ _,Keeps.refl _ _,by have:=HGO.out.1;have:=HW.out.size;omega⟩ (by rw[mtEnt_root];have:=HB.out.ok.le;simp;omega))
 go_wp2_with fail
 refine HWK.out.mono ?_;rintro e w4 ⟨rfl,v,acc,ho,hp,_⟩;rw[List.nil_append,mtEnt_root]at hp;have HO:=zh ho;have HP:=zh hp;have c0:=ho.row.cell 0;simp only[zga,zgz]at c0;have HS:=zh (mtSortSub_any w4 W.heap.size v acc ho.own (by rw[hp.length_eq];have:=HB.out.ok.le;omega));have HF:=zh (fun(w5:World) (hk:Keeps w4 w5 v.ownBlock.toList)=>(HO.out.row.keep hk (fun e=>by
  obtain⟨_,cs,hc⟩:=HO.out.own.rows _ e;exact HO.out.row.ne_type hc (by decide) rfl)).cell 0)
 simp only[zga,zgz]at HF;clear ho hp HWK
 go_wp2_with fail
 refine HS.out.mono ?_;rintro e w5 ⟨rfl,l,hl1,hl2,ho5,hk5⟩;have c1:=HF.out w5 hk5;obtain rfl:l=L:=up_of_sorted HB.out.ok.up (hl1.trans HP.out) hl2;have HE:=zh ho5;have HK5:=zh (show Keeps w1 w5 []from by
  refine((HK2.out.then_ HW.out).trans HO.out.k (fun y hy hlt=> ?_)).trans hk5 (fun y hy hlt=> ?_)
  ·have:=HGO.out.2
   simp at hy;omega
  ·have h1:=(HO.out.own.rows _ hy).1
   have h2:=(HK2.out.then_ HW.out).size;omega)
 clear hl1 hl2 ho5 hk5 c0 HF
 go_wp2_with fail
 go_ret;exact⟨v,rfl,HE.out.low (by have:=(HK2.out.then_ HW.out).size;exact this),HK5.out⟩
end Go.Proofs.YtoadlafdeoklbaaGreatDoor

namespace Go.Proofs.YtoadlafdeoklbaaGreatDoor
open Go.RowKit Go.Maps Go.Shelf

/-- A book in memory, all of whose blocks are X. -/
def Bk (B:Nat)(W:World)(d:Nat)(L:List Sb)(X:List Nat):Prop:=∃S N,BookAt W B d L S N∧B≤d∧∀s,s∈X↔s=d∨s∈bks S N
theorem Bk.base {B:Nat}{W:World}{d:Nat}{L:List Sb}{X:List Nat}(h:Bk B W d L X):∀x∈X,B≤x∧x < W.heap.size:=by
 obtain⟨S,N,hb,hd,hX⟩:=h;intro x hx
 rcases(hX x).1 hx with rfl | hx
 ·exact⟨hd,hb.row.lt⟩
 ·obtain⟨q,hq,hx⟩:=mem_bks.1 hx
  have h1:=hb.tree.base q hq;have h2:=hb.tree.lt hq
  rcases hx with rfl | rfl | rfl
  ·exact⟨h1.1,h2.1⟩
  ·exact⟨h1.2.1,h2.2.1⟩
  ·exact⟨h1.2.2,h2.2.2⟩
theorem Bk.ok {B:Nat}{W:World}{d:Nat}{L:List Sb}{X:List Nat}(h:Bk B W d L X):MtOk L:=by
 obtain⟨S,N,hb,_,_⟩:=h;exact hb.ok
theorem Bk.row {B:Nat}{W:World}{d:Nat}{L:List Sb}{X:List Nat}(h:Bk B W d L X):∃r,Row W d 64 #[ptr0 r,.int .i64 (L.length:Nat)]:=by
 obtain⟨S,N,hb,_,_⟩:=h;exact⟨_,hb.row⟩
/-- It stays where other blocks turn. -/
theorem Bk.keep {B:Nat}{W W' :World}{d:Nat}{L:List Sb}{X T:List Nat}(h:Bk B W d L X)(hk:Keeps W W' T)(hT:∀x∈X,x∉T):Bk B W' d L X:=by
 obtain⟨S,N,hb,hd,hX⟩:=h;have hm:∀q∈S,∀s,(s=(N q).b∨s=(N q).h∨s=(N q).k)→s∉T:=fun q hq s hs=>hT s ((hX s).2 (.inr (mem_bks.2 ⟨q,hq,hs⟩)))
 exact⟨S,N,⟨hb.row.keep hk (hT d ((hX d).2 (.inl rfl))),hb.tree.keep hk fun p hp=>⟨hm p hp _ (.inl rfl),hm p hp _ (.inr (.inl rfl)),hm p hp _ (.inr (.inr rfl))⟩,hb.ok,hb.st⟩,hd,hX⟩
theorem Bk.keeps {B:Nat}{W W' :World}{d:Nat}{L:List Sb}{X:List Nat}(h:Bk B W d L X)(hk:Keeps W W' []):Bk B W' d L X:=h.keep hk (by simp)
/-- A row of another kind is none of a book's. -/
theorem Bk.far {B:Nat}{W:World}{d:Nat}{L:List Sb}{X:List Nat}(h:Bk B W d L X){g:Nat}{t:TypeId}{cs:Array Value}(hr:Row W g t cs)(h1:t≠64)(h2:t≠75):g∉X:=by
 obtain⟨S,N,hb,hd,hX⟩:=h;intro hg
 rcases(hX g).1 hg with rfl | hg
 ·exact hb.row.ne_type hr (fun e=>h1 e.symm) rfl
 ·obtain⟨q,hq,hx⟩:=mem_bks.1 hg
  rcases hx with rfl | rfl | rfl
  ·exact(hb.tree.row q hq).ne_type hr (fun e=>h2 e.symm) rfl
  ·exact smap_ne_row (hb.tree.here q hq) hr rfl
  ·exact smap_ne_row (hb.tree.kids q hq) hr rfl
theorem BookAt.keeps {B:Nat}{W W' :World}{d:Nat}{L:List Sb}{S:List Path}{N:Path→Nd}(h:BookAt W B d L S N)(hk:Keeps W W' []):BookAt W' B d L S N:=⟨h.row.keeps hk,h.tree.keeps hk,h.ok,h.st⟩
/-- The beginnings as one list. -/
def mtAll (L:List Sb):List Path:= []::mtSeen L
theorem mem_mtAll {L:List Sb}{p:Path}:p∈mtAll L↔Stand L p:=by
 unfold mtAll;rw[List.mem_cons,mem_mtSeen]
 constructor
 ·rintro(h | ⟨_,h⟩)
  ·exact .inl h
  ·exact h
 ·intro h
  by_cases hp:p= []
  ·exact .inl hp
  ·exact .inr ⟨hp,h⟩
theorem mtAll_le {L:List Sb}(h:MtOk L):(mtAll L).length≤900000:=by
 have h1:=mtNodes_le fun x hx=>(h.ok x hx).1
 have h2:=h.le;show(mtSeen L).length+1≤_;unfold mtNodes at h1;omega
theorem bks_congr {S S' :List Path}{N:Path→Nd}(h:∀p,p∈S↔p∈S')(s:Nat):s∈bks S N↔s∈bks S' N:=by
 rw[mem_bks,mem_bks]
 constructor
 ·rintro⟨q,hq,hs⟩
  exact⟨q,(h q).1 hq,hs⟩
 ·rintro⟨q,hq,hs⟩
  exact⟨q,(h q).2 hq,hs⟩
theorem Bk.norm {B:Nat}{W:World}{d:Nat}{L:List Sb}{X:List Nat}(h:Bk B W d L X):∃N,BookAt W B d L (mtAll L) N∧B≤d∧∀s,s∈X↔s=d∨s∈bks (mtAll L) N:=by
 obtain⟨S,N,hb,hd,hX⟩:=h;have hS:∀p,p∈mtAll L↔p∈S:=fun p=>by rw[mem_mtAll,hb.st]
 exact⟨N,⟨hb.row,hb.tree.congr hS (by have:=mtAll_le hb.ok;omega),hb.ok,fun p=>mem_mtAll⟩,hd,fun s=>by rw[hX,bks_congr hS]⟩
/-- How a book goes on. -/
structure BkGo (B:Nat)(W W' :World)(d:Nat)(L' :List Sb)(X X' :List Nat):Prop where
 bk:Bk B W' d L' X'
 k:Keeps W W' X
 x:∀s∈X',s∈X∨W.heap.size≤s
theorem BkGo.same {B:Nat}{W W' :World}{d:Nat}{L:List Sb}{X:List Nat}(h:Bk B W d L X)(hk:Keeps W W' []):BkGo B W W' d L X X:=⟨h.keeps hk,hk.weaken (by simp),fun _ h=> .inl h⟩
theorem stand_nil (p:Path):p∈([[]]:List Path)↔Stand [] p:=by
 unfold Stand
 constructor
 ·intro h
  exact .inl (List.mem_singleton.1 h)
 ·rintro(h | ⟨_,h,_⟩)
  ·simp[h]
  ·cases h
set_option maxRecDepth 100000 in
theorem mtNew_any (W:World)(B:Nat)(hB:B≤W.heap.size):Calls Tryz.prog 11 #[] W fun e w' =>∃d X,e= .returned (ptr0 d)∧Bk B w' d [] X∧Keeps W w' []∧∀x∈X,W.heap.size≤x:=by
 have HF:=zh (mtFresh_any W)
 go_enter Tryz.func11,Tryz.ntmps11
 go_wp2_with fail
 refine HF.out.mono ?_;rintro e w1 ⟨n,rfl,hf⟩;have HN:=zh hf;clear hf HF
 go_wp2_with fail
 go_ret;have hk:Keeps w1 (w1.alloc (.cells #[ptr0 n.b,.int .i64 0] 64)) []:=Keeps.alloc _ _;have hz:=HN.out.k.size;refine⟨w1.heap.size,w1.heap.size::bks [[]] (fun _=>n),rfl,⟨[[]],fun _=>n,⟨Row.new _ _ _,⟨by simp,fun p x hp=> ?_,fun p hp=>HN.out.row.keeps hk,fun p hp=>(HN.out.here.keeps hk).congr fun c=>rfl,fun p hp=>(HN.out.kids.keeps hk).congr fun x=> ?_,fun p hp=> ?_,fun p hp q hq=>HN.out.ne,fun p hp q hq _=> ?_,fun p hp q hq _=> ?_,by simp,fun p=>⟨[],fun c hc=>absurd rfl hc,by simp⟩⟩,MtOk.nil,stand_nil⟩,by omega,fun s=>List.mem_cons⟩,HN.out.k.then_ hk,fun x hx=> ?_⟩
 ·simp at hp
 ·simp
 ·have h1:=HN.out.hb
  have h2:=HN.out.hh;have h3:=HN.out.hk;exact⟨by omega,by omega,by omega⟩
 ·rw[List.mem_singleton.1 hp,List.mem_singleton.1 hq]
 ·rw[List.mem_singleton.1 hp,List.mem_singleton.1 hq]
 ·have h1:=HN.out.hb
  have h2:=HN.out.hh;have h3:=HN.out.hk
  rcases List.mem_cons.1 hx with rfl | hx
  ·exact hz
  ·obtain⟨q,_,hq⟩:=mem_bks.1 hx
   rcases hq with rfl | rfl | rfl <;> omega
set_option maxRecDepth 100000 in
theorem mtLen_any (B:Nat)(W:World)(d:Nat)(L:List Sb)(X:List Nat)(h:Bk B W d L X):Calls Tryz.prog 29 #[ptr0 d] W fun e w' =>e= .returned (.int .i64 (L.length:Nat))∧w' =W:=by
 obtain⟨r,hr⟩:=h.row;have HN:=zh (mtNone_at W d _ _ hr);have c1:=hr.cell 1;simp only[zga,zgz,zgs]at c1;clear h hr
 go_enter Tryz.func29,Tryz.ntmps29
 go_wp2_with fail
 refine HN.out.mono ?_;rintro e w1 ⟨rfl,rfl⟩
 go_wp2_with fail
 go_ret;exact⟨rfl,rfl⟩
set_option maxRecDepth 100000 in
theorem mtNodes_any (B:Nat)(W:World)(d:Nat)(L:List Sb)(X:List Nat)(h:Bk B W d L X):Calls Tryz.prog 18 #[ptr0 d] W fun e w' =>e= .returned (.int .i64 (mtNodes L:Nat))∧Keeps W w' []:=by
 obtain⟨S,N,hb,_,_⟩:=h;have HN:=zh (mtNone_at W d _ _ hb.row);have HC:=zh (mtCount_any B L S N hb.ok hb.st 202 [] W hb.tree hb.tree.root (by simp));rw[mtBelow_root]at HC;have c0:=hb.row.cell 0;simp only[zga,zgz]at c0;clear hb
 go_enter Tryz.func18,Tryz.ntmps18
 go_wp2_with fail
 refine HN.out.mono ?_;rintro e w1 ⟨rfl,rfl⟩
 go_wp2_with fail
 refine HC.out.mono ?_;rintro e w1 ⟨rfl,hk⟩
 go_wp2_with fail
 go_ret;exact⟨rfl,hk⟩
end Go.Proofs.YtoadlafdeoklbaaGreatDoor
