/- Package match: who is told, in order. -/
import Derived.Test.YtoadlafdeoklbaaDoorPa29

namespace Go.Proofs.YtoadlafdeoklbaaDoor
open Go.RowKit Go.Maps Go.Shelf Go.Sort

/-- One that is told, as a value. -/
def tdC (x:List UInt8×Int):List Value:= [.string ⟨x.1.toArray⟩,.int .i64 x.2]
def tdV (x:List UInt8×Int):Value:= .agg #[.string ⟨x.1.toArray⟩,.int .i64 x.2]
theorem encTd:Enc 2 tdC:=⟨by omega,fun _=>rfl,fun a u hu=>by
 simp only[tdC,List.mem_cons,List.not_mem_nil,or_false]at hu
 rcases hu with rfl | rfl <;> rfl⟩
theorem elemTd:ElemN Tryd.prog 33 39 2:=elemN_of (bytes:=24) (z:=tdV ([],0)) (by kernel_rfl) (by kernel_rfl) (by omega) rfl
def cmpTd (x y:List UInt8×Int):Int:=cmpB x.1 y.1
set_option maxRecDepth 100000 in
theorem mtCmpTd_any (x y:List UInt8×Int)(W:World):Calls Tryd.prog 24 #[tdV x,tdV y] W fun e w' =>e= .returned (.int .i64 (cmpTd x y))∧Grows W w' :=by
 have H1:=zh (fun w=>mtCmp_any w x.1 y.1);have HC:=zh (show cmpTd x y=cmpB x.1 y.1 from rfl);obtain⟨k1,hk1⟩:∃k1,cmpB x.1 y.1=k1:=⟨_,rfl⟩;rw[hk1]at H1 HC;obtain⟨xc,xq⟩:=x;obtain⟨yc,yq⟩:=y;unfold tdV;simp only at H1 ⊢
 obtain⟨X,hX⟩:∃S:ByteArray,(⟨xc.toArray⟩:ByteArray)=S:=⟨_,rfl⟩;obtain⟨Y,hY⟩:∃S:ByteArray,(⟨yc.toArray⟩:ByteArray)=S:=⟨_,rfl⟩;rw[hX,hY]at H1;rw[hX,hY];clear hX hY hk1;obtain⟨W2,hW2⟩:∃W2,(W.alloc (.cells #[.string X,.int .i64 xq] 39)).alloc (.cells #[.string Y,.int .i64 yq] 39)=W2:=⟨_,rfl⟩;have ra:Row W2 W.heap.size 39 #[.string X,.int .i64 xq]:=by rw[←hW2];exact(Row.new _ _ _).alloc _
 have rb:Row W2 (W.heap.size+1) 39 #[.string Y,.int .i64 yq]:=by
  rw[←hW2];have:=Row.new (W.alloc (.cells #[.string X,.int .i64 xq] 39)) 39 #[.string Y,.int .i64 yq]
  rwa [World.size_alloc]at this
 have HG:=zh (show Grows W W2 by rw[←hW2];exact(Grows.alloc _ _).trans (Grows.alloc _ _));have A0:=ra.cell 0;have B0:=rb.cell 0;simp only[zga,zgz]at A0 B0;clear ra rb
 go_enter Tryd.func24,Tryd.ntmps24
 go_upto_region 1 with fail
 try rw[hW2]
 clear hW2
 go_wp2_with fail
 refine(H1.out _).mono ?_;rintro e w2 ⟨rfl,rfl⟩
 go_wp2_with fail
 go_ret;exact⟨by rw[HC.out];rfl,HG.out⟩
theorem ltTd (x y:List UInt8×Int):ltOf cmpTd x y=Op.bytesLess x.1 y.1:=by
 rw[Bool.eq_iff_iff];unfold ltOf cmpTd;rw[decide_eq_true_iff,cmpB_neg]
theorem swoTd:SWO (ltOf cmpTd) where
 irrefl x:=by rw[ltTd];exact bl_irrefl _
 trans x y z h1 h2:=by rw[ltTd]at*;exact bl_trans h1 h2
 ntrans x y z h1 h2:=by
  rw[ltTd]at*;rw[←Bool.not_eq_true]at*;intro h3
  rcases bl_tri x.1 y.1 with h | h | h
  ·exact h1 h
  ·rw[h]at h3
   exact h2 h3
  ·exact h2 (bl_trans h h3)
abbrev cmpFnTd:Value:= .func (.func 24) #[] #[]
/-- slices.SortFunc at those that are told. -/
theorem mtSortTd_any (w:World)(base:Nat)(v:Value)(acc:List (List UInt8×Int))(ho:OwnN w base 39 2 tdC v acc)(hl:acc.length≤1000000):
  Calls Tryd.prog 23 #[v,cmpFnTd] w fun e w' =>e= .returned (.tuple #[])∧∃l,l.Perm acc∧(l.Pairwise fun a b=>Op.bytesLess b.1 a.1=false)∧OwnN w' base 39 2 tdC v l∧Keeps w w' v.ownBlock.toList:=by
 by_cases h0:acc= []
 ·subst h0
  obtain⟨A,c,rfl⟩:=OwnN.slice ho;have h:=AnyF.slices_SortFunc_none Tryd.sortTold A c cmpFnTd w
  change Calls Tryd.prog 23 _ _ _ at h
  refine h.mono ?_;rintro e w' ⟨rfl,rfl⟩;exact⟨rfl, [],List.Perm.refl _,List.Pairwise.nil,ho,Keeps.refl _ _⟩
 ·obtain⟨blk,c,rfl⟩:∃blk c,v= .slice (some ⟨blk,0,none⟩) acc.length c:=by
   obtain⟨h1,⟨h2,h3⟩ | ⟨g,c,cur,h2,_⟩⟩:=ho
   ·exact absurd (List.length_eq_zero_iff.1 h3) h0
   ·exact⟨g,c,h2⟩
  obtain⟨cur,hr,_⟩:=own_row ho;have eg:∀args w,(callFunc 24 args).run Tryd.prog w= .ok (.enter 24 args) w:=enters_of Tryd.func24 (by kernel_rfl) rfl;have hcmp:CmpLays Tryd.prog 24 #[] tdC 2 cmpTd blk 0 acc.toArray.size w:=fun m os dk _ x y=>(mtCmpTd_any x y _).mono fun e w' h=>h
  have h:=AnyQ.slices_SortFunc Tryd.sortTold 2 (fun w=>by kernel_rfl) (fun w=>by kernel_rfl) tdC (fun _=>rfl) (fun x u hu=>encTd.one x u hu) cmpTd swoTd 24 #[] blk 0 c acc.toArray w eg hcmp (own_holds encTd ho) hr.lt (by simp;omega);have e1:acc.toArray.size=acc.length:=by simp
  rw[e1]at h
  change Calls Tryd.prog 23 _ _ _ at h
  refine h.mono ?_;rintro e w' ⟨rfl,d,n,os,hp,hs,rfl⟩;obtain⟨hz,hperm,hup⟩:=sorted_list hp hs;obtain⟨o1,o2⟩:=own_sorted encTd ho hz n os;rw[show d.toList.length=acc.length from hperm.length_eq]at o1;exact⟨rfl,d.toList,hperm,hup.imp fun{a b} hab=>by rw[←ltTd];exact hab,o1,o2⟩
/-- What stands in the map, as a list. -/
def byL (g:List UInt8→Option Int)(ks:List (List UInt8)):List (List UInt8×Int):=ks.filterMap fun c=>(g c).map fun q=>(c,q)
theorem mem_byL {g:List UInt8→Option Int}{ks:List (List UInt8)}(h:∀c,c∈ks↔g c≠none){c:List UInt8}{q:Int}:(c,q)∈byL g ks↔g c=some q:=by
 unfold byL;rw[List.mem_filterMap]
 constructor
 ·rintro⟨d,_,hd⟩
  rw[Option.map_eq_some_iff]at hd;obtain⟨r,hr,e⟩:=hd;injection e with e1 e2
  subst e1 e2;exact hr
 ·intro hg
  exact⟨c,(h c).2 (by rw[hg];simp),by rw[hg];rfl⟩
theorem byL_step {g:List UInt8→Option Int}{left:List (List UInt8)}{c:List UInt8}{q:Int}(hc:c∈left)(hg:g c=some q)(acc:List (List UInt8×Int)):((acc++ [(c,q)])++byL g (left.erase c)).Perm (acc++byL g left):=by
 have h1:=(List.perm_cons_erase hc).filterMap fun c=>(g c).map fun q=>(c,q)
 rw[List.filterMap_cons,hg]at h1;rw[List.append_assoc];exact(List.Perm.append_left acc h1).symm
theorem byL_up {g:List UInt8→Option Int}{ks:List (List UInt8)}{l:List (List UInt8×Int)}(hn:ks.Nodup)(hp:l.Perm (byL g ks))(hs:l.Pairwise fun a b=>Op.bytesLess b.1 a.1=false):TdUp l:=by
 have h1:(byL g ks).Pairwise fun a b=>a.1≠b.1:=by
  unfold byL;rw[List.pairwise_filterMap];refine hn.imp fun{a b} hab=> ?_
  intro y hy z hz e;rw[Option.map_eq_some_iff]at hy hz;obtain⟨_,_,rfl⟩:=hy;obtain⟨_,_,rfl⟩:=hz;exact hab e
 have h2:l.Pairwise fun a b=>a.1≠b.1:=(hp.pairwise_iff (fun{a b} h e=>h e.symm)).2 h1
 unfold TdUp;refine(hs.and h2).imp fun{a b} h=> ?_
 rcases bl_tri a.1 b.1 with h3 | h3 | h3
 ·exact h3
 ·exact absurd h3 h.2
 ·rw[h3]at h
  cases h.1
theorem byL_is {V:Sb→Prop}{g:List UInt8→Option Int}{ks:List (List UInt8)}{l:List (List UInt8×Int)}(hb:ByIs V g)(hk:∀c,c∈ks↔g c≠none)(hn:ks.Nodup)(hp:l.Perm (byL g ks))(hs:l.Pairwise fun a b=>Op.bytesLess b.1 a.1=false):TdIs V l:=by
 refine⟨byL_up hn hp hs,fun c q=> ?_⟩;rw[hp.mem_iff,mem_byL hk]
 constructor
 ·exact(hb c).1 q
 ·intro h
  cases hg:g c with
  | none=>
   obtain⟨⟨x,h1,h2,_⟩,_⟩:=h;exact absurd h2 ((hb c).2 hg x h1)
  | some r=>rw[((hb c).1 r hg).one h]
theorem met_told {L:List Sb}(hL:MtOk L){n:List UInt8}(hn:tName n=true)(x:Sb):(False∨Met L [] (tLev n) (!pre1 36 n) x)↔x∈mtMet L n:=by
 unfold Met mtMet;rw[List.mem_filter,false_or]
 constructor
 ·rintro⟨h,r,h1,h2⟩
  rw[List.nil_append]at h1;rw[←h1,mm_meets (hL.ok x h).1 hn]at h2;exact⟨h,h2⟩
 ·rintro⟨h,h2⟩
  exact⟨h,tLev x.f,rfl,by rw[mm_meets (hL.ok x h).1 hn];exact h2⟩
/-- Where the loop is that lists who is told. -/
structure TdAt (W wr:World)(bm r:Nat)(g:List UInt8→Option Int)(v:Value)(acc:List (List UInt8×Int))(left ks:List (List UInt8)):Prop where
 rg:SRange wr Tryd.prog 9 bm r (fun c=>(g c).map (.int .i64)) left
 own:OwnN wr W.heap.size 39 2 tdC v acc
 perm:(acc++byL g left).Perm (byL g ks)
 k:Keeps W wr []
 r:W.heap.size≤r
 b:bm < W.heap.size
theorem byL_len (g:List UInt8→Option Int)(ks:List (List UInt8)):(byL g ks).length≤ks.length:=List.length_filterMap_le _ _
end Go.Proofs.YtoadlafdeoklbaaDoor
