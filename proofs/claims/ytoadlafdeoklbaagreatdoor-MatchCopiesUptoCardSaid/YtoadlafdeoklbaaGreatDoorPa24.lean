/- Package match: how many beginnings go on from one. Package match: all entries are gathered. Package match: the closure that goes over all entries. Package match: entries held against each other. Package match: the two closures that hold entries, and who is told, against each other. A slice of one's own, sorted by slices.SortFunc: the list behind it. -/
import Derived.Test.YtoadlafdeoklbaaGreatDoorPa23
import Derived.Test.YtoadlafdeoklbaaGreatDoorLays
import Derived.Test.YtoadlafdeoklbaaGreatDoorPa7
import Derived.Shelf.SlSortCmp.NoneTotal

namespace Go.Proofs.YtoadlafdeoklbaaGreatDoor
open Go.RowKit Go.Maps

theorem sum_erase {l:List (List UInt8)}{x:List UInt8}(h:x∈l)(v:List UInt8→Nat):(l.map v).sum=v x+((l.erase x).map v).sum:=by
 have:=((List.perm_cons_erase h).map v).sum_nat;rw[this,List.map_cons,List.sum_cons]
/-- Where the loop of count is. -/
structure CoAt (W wr:World)(B:Nat)(L:List Sb)(S:List Path)(N:Path→Nd)(p:Path)(r s:Nat)(left:List (List UInt8)):Prop where
 rg:SRange wr Tryz.prog 9 (N p).k r (fun x=>(if p++ [x]∈S then some (N (p++ [x])).b else none).map ptr0) left
 sum:s+(left.map fun x=>1+mtBelow L (p++ [x])).sum=mtBelow L p
 k:Keeps W wr []
 r:W.heap.size≤r
theorem below_le {L:List Sb}(h:MtOk L)(p:Path):mtBelow L p≤900000:=by
 have h1:=mtNodes_le fun x hx=>(h.ok x hx).1
 have h2:=h.le;have h3:mtBelow L p≤mtNodes L:=List.length_filter_le _ _;omega
set_option maxRecDepth 100000 in
set_option maxHeartbeats 1000000 in
theorem mtCount_any (B:Nat)(L:List Sb)(S:List Path)(N:Path→Nd)(hok:MtOk L)(hS:∀p,p∈S↔Stand L p):∀(m:Nat) (p:Path) (W:World),TreeAt W B S (hereF L) N→p∈S→202≤p.length+m→
  Calls Tryz.prog 53 #[ptr0 (N p).b] W fun e w' =>e= .returned (.int .i64 (mtBelow L p:Nat))∧Keeps W w' []:=by
 intro m
 induction m with
 | zero=>
  intro p W T hp hm;have:=((hS p).1 hp).len fun x hx=>(hok.ok x hx).1
  omega
 | succ m ih=>
  intro p W T hp hm;have HT:=zh T;have HP:=zh hp;have HLE:=zh (below_le hok p);have HI:=zh (fun x (hx:p++ [x]∈S) (W' :World) (hW:Keeps W W' [])=>ih (p++ [x]) W' (T.keeps hW) hx (by simp;omega));have c1:=(T.row p hp).cell 1;simp only[ndRow,zga,zgz,zgs]at c1;obtain⟨w1,ks,hrun,hrg,hks,hk1,_⟩:=(T.kids p hp).range mtUndStr mtUndKids;have HST:=zh (show CoAt W w1 B L S N p W.heap.size 0 ks from⟨hrg,by
   rw[Nat.zero_add];refine(below_kids ?_ fun x=> ?_).symm
   ·obtain⟨_,_,_,_,_,_,h,_⟩:=hrg
    exact h
   ·rw[hks,←hS]
    by_cases hx:p++ [x]∈S <;> simp[hx],hk1,Nat.le_refl _⟩)
  obtain⟨r,hr⟩:∃r,W.heap.size=r:=⟨_,rfl⟩;rw[hr]at hrun HST;clear T hp hrg hks hk1 ih hr
  go_enter Tryz.func53,Tryz.ntmps53
  go_wp2_with fail
  clear hrun c1
  go_loopw [3] (fun t wr=>∃(s:Nat) (left:List (List UInt8)),t= .int .i64 s∧Hid (CoAt W wr B L S N p r s left)) (fun _ wr=>wr.rangeLeft (N p).k r)
  case atStart=>exact⟨0,ks,rfl,HST⟩
  case round=>
   clear HST;obtain⟨s,left,rfl,HR⟩:=hrel
   rcases HR.out.rg.next mtUndStr with⟨rfl,hrun⟩ | ⟨x,v,w5,hx,hv,hxl,hrun,hrg,hlt,hk5,_,hen⟩
   ·have HE:=zh (show s=mtBelow L p from by have:=HR.out.sum;simpa using this)
    go_wp2_with fail
    go_ret;exact⟨by rw[HE.out];rfl,HR.out.k⟩
   ·obtain⟨hm2,rfl⟩:p++ [x]∈S∧v=ptr0 (N (p++ [x])).b:=by
     by_cases hx:p++ [x]∈S
     ·rw[if_pos hx]at hv
      exact⟨hx,(Option.some.inj hv).symm⟩
     ·rw[if_neg hx]at hv
      cases hv
    have HK5:=zh (HR.out.k.trans hk5 (fun y hy hl=>by have:=HR.out.r;simp at hy;omega));have HC:=zh (HI.out x hm2 w5 HK5.out);have hsum:=HR.out.sum;rw[sum_erase hx]at hsum;have HSU:=zh hsum;have HRG:=zh hrg;have HLT:=zh hlt;have hb:s+(1+mtBelow L (p++ [x]))≤900000:=by have:=HLE.out;omega
    clear hrg hlt hk5 hv hm2 hxl hsum
    go_wp2_with fail
    refine HC.out.mono ?_;rintro e w6 ⟨rfl,hk6⟩;obtain⟨b1,hb1⟩:∃b1,mtBelow L (p++ [x])=b1:=⟨_,rfl⟩;rw[hb1]at hb;have HB1:=zh hb1;rw[hb1];clear hb1
    go_wp2_with fail
    refine⟨⟨s+(1+b1),left.erase x,by go_num,zh ⟨HRG.out.keeps hk6, ?_,HK5.out.then_ hk6,HR.out.r⟩⟩, ?_⟩
    ·rw[←HB1.out,Nat.add_assoc]
     exact HSU.out
    ·rw[HRG.out.left_keep hk6 (by simp) (by simp)]
     exact HLT.out

theorem elemSub:ElemN Tryz.prog 22 25 3:=elemN_of (bytes:=40) (z:=sbV sbZ) (by kernel_rfl) (by kernel_rfl) (by omega) rfl
/-- Blocks that are no cells stay. -/
structure NcKeeps (w w' :World):Prop where
 z:w.heap.size≤w'.heap.size
 b:∀i,i < w.heap.size→(∀cs t fr,w.heap[i]?≠some (.cells cs t fr))→w'.heap[i]? =w.heap[i]?
theorem NcKeeps.trans {w w' w'' :World}(h:NcKeeps w w')(k:NcKeeps w' w''):NcKeeps w w'' :=⟨Nat.le_trans h.z k.z,fun i hi hn=>by
 have e:=h.b i hi hn;rw[←e];exact k.b i (Nat.lt_of_lt_of_le hi h.z) fun cs t fr=>by rw[e];exact hn cs t fr⟩
theorem Keeps.nc {w w' :World}{S:List Nat}(h:Keeps w w' S)(hS:∀s∈S,∃t cs,Row w s t cs):NcKeeps w w' :=⟨h.size,fun i hi hn=>h.block i hi fun hm=>by
 obtain⟨t,cs,hr⟩:=hS i hm;exact hn _ _ _ hr⟩
theorem SRange.nc {P:Program}{k:TypeId}{w w' :World}{b r:Nat}{f:List UInt8→Option Value}{L:List (List UInt8)}(h:SRange w P k b r f L)(hk:NcKeeps w w'):SRange w' P k b r f L∧w'.rangeLeft b r=w.rangeLeft b r:=by
 obtain⟨n,D,lf,cnt,hrg,h2⟩:=h;have hlr:=World.ranges.lt hrg;have hlb:=World.ownsMap.lt (World.ranges.owns hrg);obtain⟨es,clock,since,seen,c0,e1,F,e2,e3,e4,e5⟩:=hrg;have q1:=hk.b b hlb (fun cs t fr=>by rw[e1];simp);have q2:=hk.b r hlr (fun cs t fr=>by rw[e4];simp);refine⟨⟨n,D,lf,cnt,⟨es,clock,since,seen,c0,q1.trans e1,F,e2,e3,q2.trans e4,e5⟩,h2⟩, ?_⟩;unfold World.rangeLeft;rw[q1,q2]
/-- What is gathered so far. -/
structure OutAt (W0 W:World)(go:Nat)(v:Value)(acc:List Sb):Prop where
 row:Row W go 22 #[v]
 own:OwnN W W0.heap.size 25 3 sbC v acc
 k:Keeps W0 W [go]
 lt:go < W0.heap.size
theorem OutAt.keeps {W0 W W' :World}{go:Nat}{v:Value}{acc:List Sb}(h:OutAt W0 W go v acc)(hk:Keeps W W' []):OutAt W0 W' go v acc:=⟨h.row.keeps hk,h.own.keeps hk,h.k.then_ hk,h.lt⟩
/-- An iterator goes on. -/
theorem OutAt.iter {W0 W W' :World}{go r:Nat}{v:Value}{acc:List Sb}(h:OutAt W0 W go v acc)(hk:Keeps W W' [r])(hr:∀t cs,¬Row W r t cs)(hl:W0.heap.size≤r):OutAt W0 W' go v acc:=
 ⟨h.row.keep hk (fun e=>hr _ _ (by rw[←List.mem_singleton.1 e];exact h.row)),h.own.keep hk (fun x hx=> .inr fun cs=>by rw[List.mem_singleton.1 hx];exact hr _ cs),h.k.trans hk (fun y hy hlt=>by simp at hy;omega),h.lt⟩
theorem SRange.noRow {P:Program}{k:TypeId}{w:World}{b r:Nat}{f:List UInt8→Option Value}{L:List (List UInt8)}(h:SRange w P k b r f L):∀t cs,¬Row w r t cs:=by
 intro t cs hr;obtain⟨n,D,lf,cnt,⟨es,clock,since,seen,c0,e1,F,e2,e3,e4,e5⟩,h2⟩:=h;rw[hr]at e4
 cases e4
/-- Where the walk's loops are. -/
structure WkAt (W0 W1 wr:World)(bm go r:Nat)(f:List UInt8→Option Value)(v:Value)(acc:List Sb)(left:List (List UInt8))(rest:List Sb)(all:List Sb):Prop where
 rg:SRange wr Tryz.prog 9 bm r f left
 out:OutAt W0 wr go v acc
 perm:(acc++rest).Perm all
 nc:NcKeeps W1 wr
 r:W1.heap.size≤r
 w1:W0.heap.size≤W1.heap.size
def sliceOf (v:Value):Nat:=match v with
 | .slice _ n _=>n
 | _=>0

theorem here_perm {L:List Sb}(hL:SbUp L){p:Path}{ks:List (List UInt8)}(hn:ks.Nodup)(hk:∀c,c∈ks↔hereF L p c≠none):(ks.filterMap (hereF L p)).Perm (mtHere L p):=by
 refine(List.perm_ext_iff_of_nodup ?_ (hL.filter _).nodup).2 fun x=> ?_
 ·unfold List.Nodup
  rw[List.pairwise_filterMap];refine hn.imp fun{a b} hab=> ?_
  intro y hy z hz e;subst e;have h1:=((hereF_iff hL).1 hy).2.2;have h2:=((hereF_iff hL).1 hz).2.2;exact hab (h1.symm.trans h2)
 ·rw[List.mem_filterMap,List.mem_filter,beq_iff_eq]
  constructor
  ·rintro⟨c,_,h⟩
   have:=(hereF_iff hL).1 h;exact⟨this.1,this.2.1⟩
  ·rintro⟨h1,h2⟩
   have h3:=(hereF_iff hL (p:=p) (c:=x.c)).2 ⟨h1,h2,rfl⟩;exact⟨x.c,(hk _).2 (by rw[h3];simp),h3⟩
theorem here_step {L:List Sb}{p:Path}{left:List (List UInt8)}{c:List UInt8}(hc:c∈left){y:Sb}(hy:hereF L p c=some y)(acc:List Sb):((acc++ [y])++(left.erase c).filterMap (hereF L p)).Perm (acc++left.filterMap (hereF L p)):=by
 have h1:=(List.perm_cons_erase hc).filterMap (hereF L p);rw[List.filterMap_cons,hy]at h1;rw[List.append_assoc];exact(List.Perm.append_left acc h1).symm
theorem kid_step {g:List UInt8→List Sb}{left:List (List UInt8)}{x:List UInt8}(hx:x∈left)(acc acc' :List Sb)(h:acc'.Perm (acc++g x)):(acc' ++(left.erase x).flatMap g).Perm (acc++left.flatMap g):=by
 have h1:(left.flatMap g).Perm ((x::left.erase x).flatMap g):=(List.perm_cons_erase hx).flatMap_right g;rw[List.flatMap_cons]at h1;refine(List.Perm.append_right _ h).trans ?_;rw[List.append_assoc];exact(List.Perm.append_left acc h1).symm
/-- One more is laid behind. -/
theorem OutAt.app {W0 w w1 w7:World}{go:Nat}{v v7:Value}{a l7:List Sb}(h:OutAt W0 w go v a)(hk:Keeps w w1 [])(ho:OwnN w7 W0.heap.size 25 3 sbC v7 l7)(hk7:Keeps w1 w7 v.ownBlock.toList):
  OutAt W0 (w7.setCell ⟨go,0,none⟩ v7) go v7 l7∧NcKeeps w (w7.setCell ⟨go,0,none⟩ v7)∧Row w7 go 22 #[v]:=by
 have hown:∀g∈v.ownBlock.toList,W0.heap.size≤g∧∃cs,Row w1 g 25 cs:=(h.own.keeps hk).rows;have hr1:=h.row.keeps hk;have hne:go∉v.ownBlock.toList:=fun e=>by
  obtain⟨cs,hc⟩:=(hown go e).2;exact hr1.ne_type hc (by decide) rfl
 have hr7:=hr1.keep hk7 hne;have k8:Keeps w7 (w7.setCell ⟨go,0,none⟩ v7) [go]:=Keeps.setCell _ _ _;refine⟨⟨hr7.store 0 v7,ho.keep k8 (fun x hx=> .inr fun cs hc=> ?_), ?_,h.lt⟩, ?_,hr7⟩
 ·rw[List.mem_singleton.1 hx]at hc
  exact hr7.ne_type hc (by decide) rfl
 ·refine((h.k.then_ hk).trans hk7 (fun y hy hlt=> ?_)).trans k8 (fun y hy _=>hy)
  have:=(hown y hy).1;omega
 ·exact((hk.nc (by simp)).trans (hk7.nc fun s hs=>by
   obtain⟨cs,hc⟩:=(hown s hs).2;exact⟨_,cs,hc⟩)).trans (k8.nc fun s hs=>by
   rw[List.mem_singleton.1 hs];exact⟨_,_,hr7⟩)
theorem NcKeeps.step {W wr w5:World}{r:Nat}(h:NcKeeps W wr)(hk:Keeps wr w5 [r])(hr:W.heap.size≤r):NcKeeps W w5:=
 ⟨Nat.le_trans h.z hk.size,fun i hi hn=>(hk.block i (Nat.lt_of_lt_of_le hi h.z) (by simp;omega)).trans (h.b i hi hn)⟩
theorem here_le (L:List Sb)(p:Path):(mtHere L p).length≤(mtEnt L p).length:=by
 unfold mtHere mtEnt;rw[←List.countP_eq_length_filter,←List.countP_eq_length_filter];refine List.countP_mono_left fun x _ h=> ?_
 rw[eq_of_beq h];simp
abbrev wkFn (go gw:Nat):Value:= .func (.func 72) #[] #[ptr0 go,ptr0 gw]
/-- What the closure answers. -/
def WkPost (W0 W:World)(go:Nat)(acc:List Sb)(es:List Sb)(e:Ending)(w' :World):Prop:=
 e= .returned (.tuple #[])∧∃v' acc',OutAt W0 w' go v' acc' ∧acc'.Perm (acc++es)∧NcKeeps W w'
set_option maxRecDepth 100000 in
set_option maxHeartbeats 4000000 in
theorem mtWalk_any (B:Nat)(L:List Sb)(S:List Path)(N:Path→Nd)(hok:MtOk L)(hS:∀p,p∈S↔Stand L p)(W0:World)(T:TreeAt W0 B S (hereF L) N)(go gw:Nat)(hgw:Row W0 gw 81 #[wkFn go gw])(hgo:∃v,Row W0 go 22 #[v]):
  ∀(m:Nat) (p:Path) (W:World) (v:Value) (acc:List Sb),p∈S→202≤p.length+m→OutAt W0 W go v acc→acc.length+(mtEnt L p).length≤100000→
  Calls Tryz.prog 72 #[ptr0 (N p).b,ptr0 go,ptr0 gw] W (WkPost W0 W go acc (mtEnt L p)):=by
 intro m
 induction m with
 | zero=>
  intro p W v acc hp hm;have:=((hS p).1 hp).len fun x hx=>(hok.ok x hx).1
  omega
 | succ m ih=>
  intro p W v acc hp hm ho hle;have HTW:=zh (show∀W',Keeps W0 W' [go]→TreeAt W' B S (hereF L) N from fun W' hW=>by
   obtain⟨u,hu⟩:=hgo;exact T.box hW hu (by decide))
  have HGW:=zh (show∀W',Keeps W0 W' [go]→W'.cell? ⟨gw,0,none⟩=some (wkFn go gw)from fun W' hW=>by
   obtain⟨u,hu⟩:=hgo;exact(hgw.keep hW (fun e=>hu.ne_type hgw (by decide) (List.mem_singleton.1 e).symm)).cell 0)
  have HP:=zh hp;have HL:=zh hle;have HO:=zh ho;have HI:=zh (fun x (hx:p++ [x]∈S)=>ih (p++ [x]));have HM:=zh hm;have c0:=((HTW.out W ho.k).row p hp).cell 0;simp only[ndRow,zga,zgz]at c0;obtain⟨w1,ks,hrun,hrg,hks,hk1,hz1⟩:=((HTW.out W ho.k).here p hp).range mtUndStr mtUndHere;have hks2:∀c,c∈ks↔hereF L p c≠none:=fun c=>by
   rw[hks]
   cases hereF L p c <;> simp
  have hnd:ks.Nodup:=by
   obtain⟨_,_,_,_,_,_,h,_⟩:=hrg;exact h
  have HST:=zh (show WkAt W0 W w1 (N p).h go W.heap.size (fun c=>(hereF L p c).map sbV) v acc ks (ks.filterMap (hereF L p)) (acc++mtHere L p)from
   ⟨hrg,ho.keeps hk1,List.Perm.append_left acc (here_perm hok.up hnd hks2),hk1.nc (by simp),Nat.le_refl _,ho.k.size⟩)
  obtain⟨r,hr⟩:∃r,W.heap.size=r:=⟨_,rfl⟩;rw[hr]at hrun HST;clear hrg hks hk1 hz1 hks2 hnd ih hp hm ho hle hgw hgo T
  go_enter Tryz.func72,Tryz.ntmps72
  go_wp2_with fail
  clear hrun c0
  go_loopw [] (fun wr=>∃(v:Value) (a1:List Sb) (left:List (List UInt8)),Hid (WkAt W0 W wr (N p).h go r (fun c=>(hereF L p c).map sbV) v a1 left (left.filterMap (hereF L p)) (acc++mtHere L p))) (fun wr=>wr.rangeLeft (N p).h r)
  case atStart=>exact⟨v,acc,ks,HST⟩
  case round=>
   clear HST;obtain⟨v1,a1,left,HR⟩:=hrel
   rcases HR.out.rg.next mtUndStr with⟨rfl,hrun⟩ | ⟨x,u,w5,hx,hv,hxl,hrun,hrg,hlt,hk5,hz5,hen⟩
   ·have HO1:=zh HR.out.out
    have HN1:=zh HR.out.nc;have HP1:=zh (show a1.Perm (acc++mtHere L p)from by have:=HR.out.perm;simpa using this);have HT1:=zh (HTW.out wr HR.out.out.k);have c1:=(HT1.out.row p HP.out).cell 1;simp only[ndRow,zga,zgz,zgs]at c1;obtain⟨w2,ks2,hrun2,hrg2,hks2,hk2,_⟩:=(HT1.out.kids p HP.out).range mtUndStr mtUndKids;have hks3:∀x,x∈ks2↔Stand L (p++ [x]):=fun x=>by
     rw[hks2,←hS]
     by_cases hx:p++ [x]∈S <;> simp[hx]
    have hnd2:ks2.Nodup:=by
     obtain⟨_,_,_,_,_,_,h,_⟩:=hrg2;exact h
    have HEK:=zh (ent_kids hok.up hnd2 hks3);obtain⟨r2,hr2⟩:∃r2,wr.heap.size=r2:=⟨_,rfl⟩;rw[hr2]at hrun2 hrg2;have HST2:=zh (show WkAt W0 wr w2 (N p).k go r2 (fun x=>(if p++ [x]∈S then some (N (p++ [x])).b else none).map ptr0) v1 a1 ks2 (ks2.flatMap fun x=>mtEnt L (p++ [x])) (a1++ks2.flatMap fun x=>mtEnt L (p++ [x]))from
     ⟨hrg2,HO1.out.keeps hk2,List.Perm.refl _,hk2.nc (by simp),by omega,HO1.out.k.size⟩)
    clear hrg2 hks2 hk2 hks3 hnd2 hr2;obtain⟨wo,hwo⟩:∃wo:World,wo=wr:=⟨_,rfl⟩;rw[←hwo]at HST2 HN1
    go_wp2_with fail
    clear hrun hrun2 c1;have HLA:=zh (show(a1++ks2.flatMap fun x=>mtEnt L (p++ [x])).length≤100000 from by
     have h1:=HP1.out.length_eq;have h2:=HEK.out.length_eq;have h3:=HL.out;simp only[List.length_append]at h1 h2 ⊢
     omega)
    go_loopw [] (fun wq=>∃(v:Value) (a2:List Sb) (left:List (List UInt8)),Hid (WkAt W0 wo wq (N p).k go r2 (fun x=>(if p++ [x]∈S then some (N (p++ [x])).b else none).map ptr0) v a2 left (left.flatMap fun x=>mtEnt L (p++ [x])) (a1++ks2.flatMap fun x=>mtEnt L (p++ [x])))) (fun wq=>wq.rangeLeft (N p).k r2)
    case atStart=>exact⟨v1,a1,ks2,HST2⟩
    case round=>
     clear HST2;obtain⟨v2,a2,left,HQ⟩:=hrel
     rcases HQ.out.rg.next mtUndStr with⟨rfl,hrun⟩ | ⟨x,u,w5,hx,hv,hxl,hrun,hrg,hlt,hk5,hz5,hen⟩
     ·have HF:=zh (show a2.Perm (acc++mtEnt L p)from by
       have h1:=HQ.out.perm;rw[List.flatMap_nil,List.append_nil]at h1;refine h1.trans ((List.Perm.append_right _ HP1.out).trans ?_);rw[List.append_assoc];exact List.Perm.append_left acc HEK.out)
      go_wp2_with fail
      exact bodyPost_end (results_none rfl _ _ _) rfl ⟨rfl,v2,a2,HQ.out.out,HF.out,HN1.out.trans HQ.out.nc⟩
     ·obtain⟨hm2,rfl⟩:p++ [x]∈S∧u=ptr0 (N (p++ [x])).b:=by
       by_cases hx:p++ [x]∈S
       ·rw[if_pos hx]at hv
        exact⟨hx,(Option.some.inj hv).symm⟩
       ·rw[if_neg hx]at hv
        cases hv
      have HO5:=zh (HQ.out.out.iter hk5 HQ.out.rg.noRow (Nat.le_trans HQ.out.w1 HQ.out.r));have HN5:=zh (HQ.out.nc.step hk5 HQ.out.r);have HX:=zh hx;have HRG:=zh hrg;have HLT:=zh hlt;have HC:=zh (HI.out x hm2 w5 v2 a2 hm2 (by have:=HM.out;simp;omega) HO5.out (by
       have h1:=HQ.out.perm.length_eq;have h2:=HLA.out;have h3:(mtEnt L (p++ [x])).length≤(left.flatMap fun x=>mtEnt L (p++ [x])).length:=by
        have:=((List.perm_cons_erase hx).flatMap_right fun x=>mtEnt L (p++ [x])).length_eq;rw[List.flatMap_cons,List.length_append]at this;omega
       rw[List.length_append]at h1;omega))
      have cw:=HGW.out w5 HO5.out.k;clear hrg hlt hk5 hv hm2 hxl hx hz5
      go_wp2_with fail
      refine HC.out.mono ?_;rintro e w6 ⟨rfl,v3,a3,ho3,hp3,hn3⟩;have HO3:=zh ho3;have HP3:=zh (kid_step (g:=fun x=>mtEnt L (p++ [x])) HX.out a2 a3 hp3);have HN3:=zh hn3;clear ho3 hp3 hn3 hen hrun cw
      go_wp2_with fail
      refine⟨⟨v3,a3,left.erase x,zh ⟨(HRG.out.nc HN3.out).1,HO3.out,HP3.out.trans HQ.out.perm,HN5.out.trans HN3.out,HQ.out.r,HQ.out.w1⟩⟩, ?_⟩;rw[(HRG.out.nc HN3.out).2];exact HLT.out
   ·obtain⟨y,hy,rfl⟩:∃y,hereF L p x=some y∧sbV y=u:=by
     simp only[Option.map_eq_some_iff]at hv;exact hv
    have HO5:=zh (HR.out.out.iter hk5 HR.out.rg.noRow (Nat.le_trans HR.out.w1 HR.out.r));have HN5:=zh (HR.out.nc.step hk5 HR.out.r);have HPM:=zh ((here_step hx hy a1).trans HR.out.perm);have HRG:=zh hrg;have HLT:=zh hlt;have HAL:=zh (show a1.length+1≤1000000 from by
     have h1:=HPM.out.length_eq;have h2:=HL.out;have h3:=here_le L p;simp at h1;omega)
    obtain⟨A1,c1,rfl⟩:=OwnN.slice HO5.out.own;have cg:=HO5.out.row.cell 0;simp only[zga,zgz]at cg;rw[sbV]at hrun hen;obtain⟨yf,yc,yq⟩:=y;simp only at hrun hen;obtain⟨X,hX⟩:∃S:ByteArray,(⟨yf.toArray⟩:ByteArray)=S:=⟨_,rfl⟩;obtain⟨Y,hY⟩:∃S:ByteArray,(⟨yc.toArray⟩:ByteArray)=S:=⟨_,rfl⟩;rw[hX,hY]at hrun hen;have HXY:=zh (And.intro hX hY);obtain⟨Wb,hWb⟩:∃Wb,w5.alloc (.cells #[.string X,.string Y,.int .i64 yq] 25)=Wb:=⟨_,rfl⟩;obtain⟨Wc,hWc⟩:∃Wc,Wb.alloc (.cells #[.string X,.string Y,.int .i64 yq] 25)=Wc:=⟨_,rfl⟩;have kb:Keeps w5 Wb []:=by rw[←hWb];exact Keeps.alloc _ _
    have kc:Keeps Wb Wc []:=by rw[←hWc];exact Keeps.alloc _ _
    have rb:Row Wb w5.heap.size 25 #[.string X,.string Y,.int .i64 yq]:=by rw[←hWb];exact Row.new _ _ _
    have cgb:=(kb.cell (p:=⟨go,0,none⟩) HO5.out.row.lt (by simp)).trans cg;have b0:=rb.cell 0;have b1:=rb.cell 1;have b2:=rb.cell 2;simp only[zga,zgz,zgs]at b0 b1 b2;have HLa:=zh (show Lies Wc Wc.heap.size (some ⟨Wb.heap.size,0,none⟩) (([⟨yf,yc,yq⟩]:List Sb).flatMap sbC)from lies_of_row (cs:= #[.string X,.string Y,.int .i64 yq]) (by rw[←hWc];exact Row.new _ _ _) (by rw[←hX,←hY];rfl));have HA:=zh (HO5.out.own.keeps (kb.then_ kc));have HKC:=zh (kb.then_ kc);have hbs:W0.heap.size≤Wc.heap.size:=by
     have h1:=(kb.then_ kc).size;have h2:=HO5.out.k.size;omega
    clear hrg hlt hk5 hv hxl hz5 hX hY kb kc rb hx hy
    go_upto_region 3 with fail
    go_wp2_with (at_builtin;refine wpList_append_N elemSub encSb rfl (.tmp 17) (.tmp 19) rfl W0.heap.size (.slice A1 a1.length c1) (some ⟨Wb.heap.size,0,none⟩) 1 1 a1 [⟨yf,yc,yq⟩] rfl rfl rfl HA.out HLa.out (by have:=HAL.out;simp;omega) hbs ?_;intro A7 c7 w7 l7 hl7 hlen7 ho7 hk7 hb7;refine Hid.out ?_)
    refine zh ?_;have HAP:=zh (HO5.out.app HKC.out ho7 hk7);have HL7:=zh hl7.out;have HLX:=zh hl7;have e0:=HAP.out.2.2.cell 0;have e1:=HAP.out.2.2.frozen 0;simp only[zga,zgz]at e0;clear ho7 hk7 hb7 hl7 cg cgb b0 b1 b2 hWb hWc hbs hen hrun
    go_wp2_with fail
    refine⟨⟨_,l7,left.erase x,zh ⟨(HRG.out.nc HAP.out.2.1).1,HAP.out.1, ?_,HN5.out.trans HAP.out.2.1,HR.out.r,HR.out.w1⟩⟩, ?_⟩
    ·rw[HL7.out]
     exact HPM.out
    ·rw[(HRG.out.nc HAP.out.2.1).2]
     exact HLT.out
end Go.Proofs.YtoadlafdeoklbaaGreatDoor

namespace Go.Proofs.YtoadlafdeoklbaaGreatDoor
open Go.RowKit Go.Maps Go.Shelf Go.Sort

/-- Go's cmp.Compare at texts. -/
def cmpB (a b:List UInt8):Int:=if Op.bytesLess a b=true then -1 else if Op.bytesLess b a=true then 1 else 0
theorem gtB (x y:List UInt8):(!(Op.bytesLess x y || x==y))=Op.bytesLess y x:=by
 rcases bl_tri x y with h | rfl | h
 ·rw[h,bl_asymm h]
  rfl
 ·simp[bl_irrefl]
 ·rw[h,bl_asymm h]
  have:(x==y)=false:=by
   rw[←Bool.not_eq_true];intro e;rw[eq_of_beq e,bl_irrefl]at h
   cases h
  rw[this];rfl
set_option maxRecDepth 100000 in
theorem mtNaN_any (w:World)(s:List UInt8):Calls Tryz.prog 70 #[.string ⟨s.toArray⟩] w fun e w' =>e= .returned (.bool false)∧w' =w:=by
 obtain⟨S,hS⟩:∃S:ByteArray,(⟨s.toArray⟩:ByteArray)=S:=⟨_,rfl⟩;rw[hS];clear hS;have h1:(S.toList==S.toList)=true:=by simp
 go_enter Tryz.func70,Tryz.ntmps70
 go_wp2
 go_ret;exact⟨rfl,rfl⟩
set_option maxRecDepth 100000 in
theorem mtCmp_any (w:World)(a b:List UInt8):Calls Tryz.prog 45 #[.string ⟨a.toArray⟩,.string ⟨b.toArray⟩] w fun e w' =>e= .returned (.int .i64 (cmpB a b))∧w' =w:=by
 have H1:=zh (mtNaN_any w a);have H2:=zh (mtNaN_any w b);obtain⟨X,hX⟩:∃S:ByteArray,(⟨a.toArray⟩:ByteArray)=S:=⟨_,rfl⟩;obtain⟨Y,hY⟩:∃S:ByteArray,(⟨b.toArray⟩:ByteArray)=S:=⟨_,rfl⟩;have eX:X.toList=a:=by rw[←hX,Lib.toList_data]
 have eY:Y.toList=b:=by rw[←hY,Lib.toList_data]
 rw[hX]at H1 ⊢
 rw[hY]at H2 ⊢
 by_cases h1:Op.bytesLess a b=true
 ·have HC:=zh (show cmpB a b= -1 by unfold cmpB;rw[if_pos h1])
  have f1:Op.bytesLess X.toList Y.toList=true:=by rw[eX,eY];exact h1
  clear hX hY eX eY h1
  go_enter Tryz.func45,Tryz.ntmps45
  go_wp2_with fail
  refine H1.out.mono ?_;rintro e w1 ⟨rfl,rfl⟩
  go_wp2_with fail
  refine H2.out.mono ?_;rintro e w1 ⟨rfl,rfl⟩
  go_wp2_with fail
  go_ret;exact⟨by rw[HC.out];rfl,rfl⟩
 ·have f1:Op.bytesLess X.toList Y.toList=false:=by rw[eX,eY];simpa using h1
  by_cases h2:Op.bytesLess b a=true
  ·have HC:=zh (show cmpB a b=1 by unfold cmpB;rw[if_neg h1,if_pos h2])
   have f2:(!(Op.bytesLess X.toList Y.toList || X.toList==Y.toList))=true:=by rw[eX,eY,gtB];exact h2
   have f3:(X.toList==Y.toList)=false:=by rw[f1]at f2;simpa using f2
   clear hX hY eX eY h1 h2 f2
   go_enter Tryz.func45,Tryz.ntmps45
   go_wp2_with fail
   refine H1.out.mono ?_;rintro e w1 ⟨rfl,rfl⟩
   go_wp2_with fail
   refine H2.out.mono ?_;rintro e w1 ⟨rfl,rfl⟩
   go_wp2_with fail
   go_ret;exact⟨by rw[HC.out];rfl,rfl⟩
  ·have HC:=zh (show cmpB a b=0 by unfold cmpB;rw[if_neg h1,if_neg h2])
   have f2:(!(Op.bytesLess X.toList Y.toList || X.toList==Y.toList))=false:=by rw[eX,eY,gtB];simpa using h2
   have f3:(X.toList==Y.toList)=true:=by rw[f1]at f2;simpa using f2
   clear hX hY eX eY h1 h2 f2
   go_enter Tryz.func45,Tryz.ntmps45
   go_wp2_with fail
   refine H1.out.mono ?_;rintro e w1 ⟨rfl,rfl⟩
   go_wp2_with fail
   refine H2.out.mono ?_;rintro e w1 ⟨rfl,rfl⟩
   go_wp2_with fail
   go_ret;exact⟨by rw[HC.out];rfl,rfl⟩
structure OrAt (w wr:World)(a b:Int)(k:Nat):Prop where
 z1:1≤k→a=0
 z2:2≤k→b=0
 eq:wr=w
set_option maxRecDepth 100000 in
theorem mtOr_any (w:World)(g:Nat)(a b:Int)(hr:Row w g 3 #[.int .i64 a,.int .i64 b]):Calls Tryz.prog 75 #[.slice (some ⟨g,0,none⟩) 2 2] w fun e w' =>e= .returned (.int .i64 (if a=0 then b else a))∧w' =w:=by
 have c0:=hr.cell 0;have c1:=hr.cell 1;simp only[zga,zgz,zgs]at c0 c1;have HC:=zh (And.intro c0 c1);clear hr c0 c1
 go_enter Tryz.func75,Tryz.ntmps75
 go_wp2_with fail
 have HZ:=zh (show OrAt w w a b 0 from⟨fun h=>absurd h (by omega),fun h=>absurd h (by omega),rfl⟩)
 go_loopw [8] (fun i wr=>∃k:Nat,k≤2∧i= .int .i64 k∧Hid (OrAt w wr a b k)) (fun i _=>2 - (intOf i).toNat)
 case atStart=>exact⟨0,by omega,rfl,HZ⟩
 case round=>
  clear HZ;obtain⟨k,hk,rfl,HR⟩:=hrel;obtain rfl:=HR.out.eq;obtain rfl | rfl | rfl:k=0∨k=1∨k=2:=by omega
  ·obtain⟨c0,c1⟩:=HC.out
   by_cases ha:a=0
   ·have n1:(a !=0)=false:=by simpa using ha
    have HA:=zh ha;clear ha
    go_wp2_with fail
    exact⟨⟨1,by omega,by go_num,zh ⟨fun _=>HA.out,fun h=>absurd h (by omega),rfl⟩⟩,by simp[intOf]⟩
   ·have n1:(a !=0)=true:=by simpa using ha
    have HA:=zh ha;clear ha
    go_wp2_with fail
    go_ret;exact⟨by first | rfl | (rw[if_neg HA.out];rfl),rfl⟩
  ·obtain⟨c0,c1⟩:=HC.out
   have HA:=zh (HR.out.z1 (by omega))
   by_cases hb:b=0
   ·have n1:(b !=0)=false:=by simpa using hb
    have HB:=zh hb;clear hb
    go_wp2_with fail
    exact⟨⟨2,by omega,by go_num,zh ⟨fun _=>HA.out,fun _=>HB.out,rfl⟩⟩,by simp[intOf]⟩
   ·have n1:(b !=0)=true:=by simpa using hb
    clear hb
    go_wp2_with fail
    go_ret;exact⟨by first | rfl | (rw[if_pos HA.out];rfl),rfl⟩
  ·have HA:=zh (HR.out.z1 (by omega))
   have HB:=zh (HR.out.z2 (by omega))
   go_wp2_with fail
   go_ret;exact⟨by first | rfl | (rw[if_pos HA.out,HB.out];rfl) | (rw[HB.out];rfl),rfl⟩

/-- A world grows: draws, and new blocks. -/
def Grows (w w' :World):Prop:=∃(q:Nat) (os:Array Obj),w' =grow (w.drewN q) os
theorem Grows.refl (w:World):Grows w w:=⟨0, #[],by rw[grow_empty];rfl⟩
theorem Grows.trans {a b c:World}(h:Grows a b)(k:Grows b c):Grows a c:=by
 obtain⟨q,os,rfl⟩:=h;obtain⟨r,ot,rfl⟩:=k;refine⟨q+r,os++ot, ?_⟩;rw[←grow_grow];have:(grow (a.drewN q) os).drewN r=grow (a.drewN (q+r)) os:=by
  show grow ((a.drewN q).drewN r) os=_
  congr 1
  show({a with drawn:=a.drawn+q+r}:World)= {a with drawn:=a.drawn+(q+r)};rw[Nat.add_assoc]
 rw[this]
theorem Grows.alloc (w:World)(o:Obj):Grows w (w.alloc o):=⟨0, #[o],by rw[alloc_eq_grow];rfl⟩
theorem Grows.drew (w:World):Grows w w.drew:=⟨1, #[],by rw[grow_empty];rfl⟩
theorem Grows.keeps {w w' :World}(h:Grows w w'):Keeps w w' []:=by
 obtain⟨q,os,rfl⟩:=h;refine⟨rfl,rfl,rfl, ?_,fun k hk _=> ?_⟩
 ·show w.heap.size≤(w.heap++os).size
  rw[Array.size_append];omega
 ·show(w.heap++os)[k]? =w.heap[k]?
  rw[Array.getElem?_append_left hk]
theorem grows_calls {P:Program}{W:World}{φ:Value→World→Prop}{f:FuncId}{args:Array Value}(h:Calls P f args W (fun e w'' =>∃v,e= .returned v∧Grows W w'' ∧φ v w'')):
  looseUpon P Grows W φ (.ok (.enter f args) W):=⟨Grows.refl _,h⟩
/-- Entries held against each other: by filter, then by client. -/
def cmpSub (x y:Sb):Int:=if cmpB x.f y.f=0 then cmpB x.c y.c else cmpB x.f y.f
set_option maxRecDepth 100000 in
set_option maxHeartbeats 1000000 in
theorem mtCmpSub_any (x y:Sb)(W:World):Calls Tryz.prog 74 #[sbV x,sbV y] W fun e w' =>e= .returned (.int .i64 (cmpSub x y))∧Grows W w' :=by
 have H1:=zh (fun w=>mtCmp_any w x.f y.f);have H2:=zh (fun w=>mtCmp_any w x.c y.c);have HC:=zh (show cmpSub x y=if cmpB x.f y.f=0 then cmpB x.c y.c else cmpB x.f y.f from rfl);obtain⟨k1,hk1⟩:∃k1,cmpB x.f y.f=k1:=⟨_,rfl⟩;obtain⟨k2,hk2⟩:∃k2,cmpB x.c y.c=k2:=⟨_,rfl⟩;rw[hk1]at H1;rw[hk2]at H2;rw[hk1,hk2]at HC;have HO:=zh (fun w g=>mtOr_any w g k1 k2);obtain⟨k3,hk3⟩:∃k3,(if k1=0 then k2 else k1)=k3:=⟨_,rfl⟩;rw[hk3]at HC HO;obtain⟨xf,xc,xq⟩:=x;obtain⟨yf,yc,yq⟩:=y;unfold sbV;simp only at H1 H2 ⊢
 obtain⟨X1,hX1⟩:∃S:ByteArray,(⟨xf.toArray⟩:ByteArray)=S:=⟨_,rfl⟩;obtain⟨X2,hX2⟩:∃S:ByteArray,(⟨xc.toArray⟩:ByteArray)=S:=⟨_,rfl⟩;obtain⟨Y1,hY1⟩:∃S:ByteArray,(⟨yf.toArray⟩:ByteArray)=S:=⟨_,rfl⟩;obtain⟨Y2,hY2⟩:∃S:ByteArray,(⟨yc.toArray⟩:ByteArray)=S:=⟨_,rfl⟩;rw[hX1,hY1]at H1;rw[hX2,hY2]at H2;rw[hX1,hX2,hY1,hY2];clear hX1 hX2 hY1 hY2 hk1 hk2 hk3;obtain⟨W2,hW2⟩:∃W2,(W.alloc (.cells #[.string X1,.string X2,.int .i64 xq] 25)).alloc (.cells #[.string Y1,.string Y2,.int .i64 yq] 25)=W2:=⟨_,rfl⟩;have ra:Row W2 W.heap.size 25 #[.string X1,.string X2,.int .i64 xq]:=by rw[←hW2];exact(Row.new _ _ _).alloc _
 have rb:Row W2 (W.heap.size+1) 25 #[.string Y1,.string Y2,.int .i64 yq]:=by
  rw[←hW2];have:=Row.new (W.alloc (.cells #[.string X1,.string X2,.int .i64 xq] 25)) 25 #[.string Y1,.string Y2,.int .i64 yq]
  rwa [World.size_alloc]at this
 have HG:=zh (show Grows W W2 by rw[←hW2];exact(Grows.alloc _ _).trans (Grows.alloc _ _));have MA:=fun(W' :World) (hW:Grows W2 W') (i:Nat)=>(ra.keeps hW.keeps).cell i
 have MB:=fun(W' :World) (hW:Grows W2 W') (i:Nat)=>(rb.keeps hW.keeps).cell i
 have A0:=fun(W' :World) (hW:Grows W2 W')=>MA W' hW 0
 have A1:=fun(W' :World) (hW:Grows W2 W')=>MA W' hW 1
 have B0:=fun(W' :World) (hW:Grows W2 W')=>MB W' hW 0
 have B1:=fun(W' :World) (hW:Grows W2 W')=>MB W' hW 1
 simp only[zga,zgz,zgs]at A0 A1 B0 B1;clear MA MB ra rb
 go_enter Tryz.func74,Tryz.ntmps74
 go_upto_region 1 with fail
 try rw[hW2]
 clear hW2;refine wp_region_loose Grows _ _ (by kernel_rfl) rfl (by kernel_rfl) Grows.refl (fun _ _ _ h k=>h.trans k) (Grows.drew _) ?_;apply loose_is
 ·intro W vals hW hkn
  clear hkn
  skip
  refine⟨?_⟩;simp only[fill];go_simp;exact⟨Grows.refl _,rfl⟩
 simp only[addEnt];apply loose_is
 ·intro W vals hW hkn
  clear hkn;have m:=A0 W hW;refine⟨?_⟩;simp only[fill];go_simp;exact⟨Grows.refl _,rfl⟩
 simp only[addEnt];apply loose_is
 ·intro W vals hW hkn
  clear hkn
  skip
  refine⟨?_⟩;simp only[fill];go_simp;exact⟨Grows.refl _,rfl⟩
 simp only[addEnt];apply loose_is
 ·intro W vals hW hkn
  clear hkn;have m:=B0 W hW;refine⟨?_⟩;simp only[fill];go_simp;exact⟨Grows.refl _,rfl⟩
 simp only[addEnt];apply loose_is
 ·intro W vals hW hkn
  clear hkn;refine⟨?_⟩;simp only[fill];go_simp;refine grows_calls ?_
  (refine(H1.out _).mono ?_;rintro e w2 ⟨rfl,rfl⟩;exact⟨_,rfl,Grows.refl _,rfl⟩)
 simp only[addEnt];apply loose_is
 ·intro W vals hW hkn
  clear hkn
  skip
  refine⟨?_⟩;simp only[fill];go_simp;exact⟨Grows.refl _,rfl⟩
 simp only[addEnt];apply loose_is
 ·intro W vals hW hkn
  clear hkn;have m:=A1 W hW;refine⟨?_⟩;simp only[fill];go_simp;exact⟨Grows.refl _,rfl⟩
 simp only[addEnt];apply loose_is
 ·intro W vals hW hkn
  clear hkn
  skip
  refine⟨?_⟩;simp only[fill];go_simp;exact⟨Grows.refl _,rfl⟩
 simp only[addEnt];apply loose_is
 ·intro W vals hW hkn
  clear hkn;have m:=B1 W hW;refine⟨?_⟩;simp only[fill];go_simp;exact⟨Grows.refl _,rfl⟩
 simp only[addEnt];apply loose_is
 ·intro W vals hW hkn
  clear hkn;refine⟨?_⟩;simp only[fill];go_simp;refine grows_calls ?_
  (refine(H2.out _).mono ?_;rintro e w2 ⟨rfl,rfl⟩;exact⟨_,rfl,Grows.refl _,rfl⟩)
 simp only[addEnt];refine loose_has (fun v W' =>∃g,v= .slice (some ⟨g,0,none⟩) 2 2∧Row W' g 3 #[.int .i64 k1,.int .i64 k2]) (fun W vals hW hkn φ' hφ=> ?_) ?_
 ·clear hkn
  refine⟨?_⟩;simp only[fill];go_simp;exact⟨Grows.alloc _ _,hφ.out _ _ ⟨_,rfl,Row.new _ _ _⟩⟩
 simp only[addEnt];apply loose_is
 ·intro W vals hW hkn
  simp only[knows]at hkn
  try simp only[and_true]at hkn
  obtain⟨W1,h0,h1,g,hv,hr⟩:=hkn (by decide);have hr2:=hr.keeps h1.keeps;clear hkn;refine⟨?_⟩;simp only[fill];go_simp;refine grows_calls ?_;refine(HO.out _ g hr2).mono ?_;rintro e w2 ⟨rfl,rfl⟩;exact⟨_,rfl,Grows.refl _,rfl⟩
 simp only[addEnt];apply loose_is
 ·intro W vals hW hkn
  clear hkn
  skip
  refine⟨?_⟩;simp only[fill];go_simp;exact⟨Grows.refl _,rfl⟩
 simp only[addEnt];refine loose_nil (fun W9 vals hW hkn=> ?_);clear hkn;simp only[fill,Act.put,zsa,zsc,zsz];have HF:=zh (HG.out.trans hW);clear hW
 go_wp2_with fail
 go_ret;exact⟨by rw[HC.out];rfl,HF.out⟩
end Go.Proofs.YtoadlafdeoklbaaGreatDoor

namespace Go.Proofs.YtoadlafdeoklbaaGreatDoor
open Go.RowKit Go.Shelf Go.Sort

section
variable {α:Type} [Inhabited α] {f:α→List Value} {k:Nat} {w:World} {B:Nat} {e:TypeId} {l:List α} {blk cap:Nat}
omit [Inhabited α] in
theorem own_row (h:OwnN w B e k f (.slice (some ⟨blk,0,none⟩) l.length cap) l):∃cur:Array Value,Row w blk e cur∧B≤blk∧l.length≤cap∧cap≤maxLen∧cur.size=cap*k∧cur.toList.take (l.length*k)=l.flatMap f:=by
 obtain⟨h1,⟨h2,_⟩ | ⟨g,c,cur,h2,h3,h4,h5,h6,h7,h8⟩⟩:=h
 ·cases h2
 ·injection h2 with e1 e2 e3
  injection e1 with e1
  injection e1 with e1
  subst e1 e3;exact⟨cur,h4,h3,h5,h6,h7,h8⟩
theorem getBang {l:List Value}{i:Nat}(h:i < l.length):l[i]! =l[i]:=by simp[h]
theorem own_holds (E:Enc k f)(h:OwnN w B e k f (.slice (some ⟨blk,0,none⟩) l.length cap) l):HoldsK f k w blk 0 l.toArray:=by
 obtain⟨cur,hr,_,h5,_,h7,h8⟩:=own_row h;intro t ht;have ht2:t < l.length*k:=by simpa [flatK]using ht
 have hk:=E.pos;have h1:t / k < l.length:=Nat.div_lt_of_lt_mul (by rw[Nat.mul_comm];exact ht2);have h2:t % k < k:=Nat.mod_lt _ hk;have et:t / k*k+t % k=t:=by rw[Nat.mul_comm];exact Nat.div_add_mod t k
 refine⟨?_,hr.frozen _⟩;rw[Nat.zero_add,hr.cell,get_flatK _ _ _ _ (by simpa using ht2)];have h9:cur[t]? =(l.flatMap f)[t]? :=by
  rw[←h8,List.getElem?_take,if_pos ht2,Array.getElem?_toList]
 rw[h9,←et,flat_get E h1 h2,et];have e1:l.toArray[t / k]! =l[t / k]:=by simp[h1]
 rw[e1,id,List.getElem?_eq_getElem (by rw[E.len];exact h2),getBang (by rw[E.len];exact h2)]
theorem own_sorted (E:Enc k f)(h:OwnN w B e k f (.slice (some ⟨blk,0,none⟩) l.length cap) l){d:Array α}(hd:d.size=l.length)(m:Nat)(os:Array Obj):
  OwnN (sortWorldK f k w blk 0 m d os) B e k f (.slice (some ⟨blk,0,none⟩) d.toList.length cap) d.toList∧Keeps w (sortWorldK f k w blk 0 m d os) [blk]:=by
 obtain⟨cur,hr,hB,h5,h6,h7,h8⟩:=own_row h;have hlt:=hr.lt;have hz:(putRowK f k (Sort.ahead w m) blk 0 d).heap.size=w.heap.size:=size_putRowK f k (Sort.ahead w m) blk 0 d;have hb:(sortWorldK f k w blk 0 m d os).heap[blk]? =some (.cells (putCells id 0 (flatK f k d) cur) e (0,0)):=by
  show((putRowK f k (Sort.ahead w m) blk 0 d).heap++os)[blk]? =_;rw[Array.getElem?_append_left (by rw[hz];exact hlt)];show((w.heap.modify blk (onCells (putCells id 0 (flatK f k d)))))[blk]? =_;unfold Row at hr;rw[Array.getElem?_modify,if_pos rfl,hr];rfl
 have hk:=E.pos;refine⟨⟨by rw[flat_length E],.inr ⟨blk,cap,_,rfl,hB,hb,by rw[Array.length_toList,hd];exact h5,h6,by simp[putCells,h7], ?_⟩⟩, ?_⟩
 ·rw[Array.length_toList,hd]
  have hle:l.length*k≤cap*k:=Nat.mul_le_mul_right k h5;refine List.ext_getElem? fun t=> ?_
  rw[List.getElem?_take]
  by_cases ht:t < l.length*k
  ·rw[if_pos ht,Array.getElem?_toList]
   have h1:t / k < d.toList.length:=by rw[Array.length_toList,hd];exact Nat.div_lt_of_lt_mul (by rw[Nat.mul_comm];exact ht)
   have h2:t % k < k:=Nat.mod_lt _ hk;have et:t / k*k+t % k=t:=by rw[Nat.mul_comm];exact Nat.div_add_mod t k
   have e2:(d.toList.flatMap f)[t]? =(f d.toList[t / k])[t % k]? :=by
    have:=flat_get E (l:=d.toList) h1 h2
    rwa [et]at this
   rw[e2];unfold putCells;rw[Array.getElem?_mapIdx];have h3:t < cur.size:=by omega
   have h4:t < d.size*k:=by rw[hd];exact ht
   rw[Array.getElem?_eq_getElem h3,Option.map_some,if_pos ⟨Nat.zero_le _,by simp;exact h4⟩,Nat.sub_zero,get_flatK _ _ _ _ h4];have e1:d[t / k]! =d.toList[t / k]:=by
    have:t / k < d.size:=by simpa using h1
    simp[this]
   rw[e1,id,List.getElem?_eq_getElem (by rw[E.len];exact h2),getBang (by rw[E.len];exact h2)]
  ·rw[if_neg ht,List.getElem?_eq_none (by rw[flat_length E,Array.length_toList,hd];omega)]
 ·refine⟨rfl,rfl,rfl, ?_,fun i hi hn=> ?_⟩
  ·show w.heap.size≤((putRowK f k (Sort.ahead w m) blk 0 d).heap++os).size
   rw[Array.size_append,hz];omega
  ·show((putRowK f k (Sort.ahead w m) blk 0 d).heap++os)[i]? =_
   rw[Array.getElem?_append_left (by rw[hz];exact hi)];show((w.heap.modify blk (onCells (putCells id 0 (flatK f k d)))))[i]? =_;rw[Array.getElem?_modify,if_neg (fun e=>hn (by simp[e]))]
end
/-- What a sort leaves, as a list. -/
theorem sorted_list {α:Type} [Inhabited α] {lt:α→α→Bool}{l:List α}{d:Array α}(hp:PermIn 0 l.length l.toArray d)(hs:SortedIn lt 0 l.length d):d.size=l.length∧d.toList.Perm l∧d.toList.Pairwise fun a b=>lt b a=false:=by
 obtain⟨h1,_,h2⟩:=hp;have hz:d.size=l.length:=by simpa using h1
 have e1:d.extract 0 l.length=d:=by rw[←hz];simp
 have e2:l.toArray.extract 0 l.length=l.toArray:=by simp
 rw[e1,e2]at h2;refine⟨hz,by simpa using h2, ?_⟩;rw[List.pairwise_iff_getElem];intro i j hi hj hij;have hi' :i < d.size:=by simpa using hi
 have hj' :j < d.size:=by simpa using hj
 have:=hs i j (Nat.zero_le _) hij (by omega);rw[getElem!_pos d i hi',getElem!_pos d j hj']at this
 simpa using this
end Go.Proofs.YtoadlafdeoklbaaGreatDoor
