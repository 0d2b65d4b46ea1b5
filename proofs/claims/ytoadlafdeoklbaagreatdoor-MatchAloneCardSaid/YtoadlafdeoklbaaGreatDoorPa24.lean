/- Package match: how many beginnings go on from one. Package match: all entries are gathered. Package match: the closure that goes over all entries. Package match: entries held against each other. Package match: the two closures that hold entries, and who is told, against each other. A slice of one's own, sorted by slices.SortFunc: the list behind it. -/
import Derived.Test.YtoadlafdeoklbaaGreatDoorPa23
import Derived.Test.YtoadlafdeoklbaaGreatDoorLays
import Derived.Test.YtoadlafdeoklbaaGreatDoorPa7
import Derived.Shelf.SlSortCmp.NoneTotal

namespace Go.Proofs.YtoadlafdeoklbaaGreatDoor
open Go.RowKit Go.Maps

theorem sum_erase {l:List (List UInt8)}{x:List UInt8}(h:x∈l)(v:List UInt8→Nat):(l.map v).sum=v x+((l.erase x).map v).sum:=by
 have:=((List.perm_cons_erase h).map v).sum_nat;rw[this,List.map_cons,List.sum_cons]
/-- Where the loop of count is. -/
structure CoAt (W wr:World)(B:Nat)(L:List Sb)(S:List Path)(N:Path→Nd)(p:Path)(r s:Nat)(left:List (List UInt8)):Prop where
 rg:SRange wr Tryz.prog 9 (N p).k r (fun x=>(if p++ [x]∈S then some (N (p++ [x])).b else none).map ptr0) left
 sum:s+(left.map fun x=>1+mtBelow L (p++ [x])).sum=mtBelow L p
 k:Keeps W wr []
 r:W.heap.size≤r
theorem below_le {L:List Sb}(h:MtOk L)(p:Path):mtBelow L p≤900000:=by
 have h1:=mtNodes_le fun x hx=>(h.ok x hx).1
 have h2:=h.le;have h3:mtBelow L p≤mtNodes L:=List.length_filter_le _ _;omega
set_option maxRecDepth 100000 in
set_option maxHeartbeats 1000000 in
theorem mtCount_any (B:Nat)(L:List Sb)(S:List Path)(N:Path→Nd)(hok:MtOk L)(hS:∀p,p∈S↔Stand L p):∀(m:Nat) (p:Path) (W:World),TreeAt W B S (hereF L) N→p∈S→202≤p.length+m→
  Calls Tryz.prog 53 #[ptr0 (N p).b] W fun e w' =>e= .returned (.int .i64 (mtBelow L p:Nat))∧Keeps W w' []:=by
 intro m
 induction m with
 | zero=>
  intro p W T hp hm;have:=((hS p).1 hp).len fun x hx=>(hok.ok x hx).1
  omega
 | succ m ih=>
  intro p W T hp hm;have HT:=zh T;have HP:=zh hp;have HLE:=zh (below_le hok p);have HI:=zh (fun x (hx:p++ [x]∈S) (W' :World) (hW:Keeps W W' [])=>ih (p++ [x]) W' (T.keeps hW) hx (by simp;omega));have c1:=(T.row p hp).cell 1;simp only[ndRow,zga,zgz,zgs]at c1;obtain⟨w1,ks,hrun,hrg,hks,hk1,_⟩:=(T.kids p hp).range mtUndStr mtUndKids;have HST:=zh (show CoAt W w1 B L S N p W.heap.size 0 ks from⟨hrg,by
   rw[Nat.zero_add];refine(below_kids ?_ fun x=> ?_).symm
   ·obtain⟨_,_,_,_,_,_,h,_⟩:=hrg
    exact h
   ·rw[hks,←hS]
    by_cases hx:p++ [x]∈S <;> simp[hx],hk1,Nat.le_refl _⟩)
  obtain⟨r,hr⟩:∃r,W.heap.size=r:=⟨_,rfl⟩;rw[hr]at hrun HST;clear T hp hrg hks hk1 ih hr
  go_enter Tryz.func53,Tryz.ntmps53
  go_wp2_with fail
  clear hrun c1
  go_loopw [3] (fun t wr=>∃(s:Nat) (left:List (List UInt8)),t= .int .i64 s∧Hid (CoAt W wr B L S N p r s left)) (fun _ wr=>wr.rangeLeft (N p).k r)
  case atStart=>exact⟨0,ks,rfl,HST⟩
  case round=>
   clear HST;obtain⟨s,left,rfl,HR⟩:=hrel
   rcases HR.out.rg.next mtUndStr with⟨rfl,hrun⟩ | ⟨x,v,w5,hx,hv,hxl,hrun,hrg,hlt,hk5,_,hen⟩
   ·have HE:=zh (show s=mtBelow L p from by have:=HR.out.sum;simpa using this)
    go_wp2_with fail
    go_ret;exact⟨by rw[HE.out];rfl,HR.out.k⟩
   ·obtain⟨hm2,rfl⟩:p++ [x]∈S∧v=ptr0 (N (p++ [x])).b:=by
     by_cases hx:p++ [x]∈S
     ·rw[if_pos hx]at hv
      exact⟨hx,(Option.some.inj hv).symm⟩
     ·rw[if_neg hx]at hv
      cases hv
    have HK5:=zh (HR.out.k.trans hk5 (fun y hy hl=>by have:=HR.out.r;simp at hy;omega));have HC:=zh (HI.out x hm2 w5 HK5.out);have hsum:=HR.out.sum;rw[sum_erase hx]at hsum;have HSU:=zh hsum;have HRG:=zh hrg;have HLT:=zh hlt;have hb:s+(1+mtBelow L (p++ [x]))≤900000:=by have:=HLE.out;omega
    clear hrg hlt hk5 hv hm2 hxl hsum
    go_wp2_with fail
    refine HC.out.mono ?_;rintro e w6 ⟨rfl,hk6⟩;obtain⟨b1,hb1⟩:∃b1,mtBelow L (p++ [x])=b1:=⟨_,rfl⟩;rw[hb1]at hb;have HB1:=zh hb1;rw[hb1];clear hb1
    go_wp2_with fail
    refine⟨⟨s+(1+b1),left.erase x,by go_num,zh ⟨HRG.out.keeps hk6, ?_,HK5.out.then_ hk6,HR.out.r⟩⟩, ?_⟩
    ·rw[←HB1.out,Nat.add_assoc]
     exact HSU.out
    ·rw[HRG.out.left_keep hk6 (by simp) (by simp)]
     exact HLT.out

theorem elemSub:ElemN Tryz.prog 22 25 3:=elemN_of (bytes:=40) (z:=sbV sbZ) (by kernel_rfl) (by kernel_rfl) (by omega) rfl
/-- Blocks that are no cells stay. -/
structure NcKeeps (w w' :World):Prop where
 z:w.heap.size≤w'.heap.size
 b:∀i,i < w.heap.size→(∀cs t fr,w.heap[i]?≠some (.cells cs t fr))→w'.heap[i]? =w.heap[i]?
/-- What is gathered so far. -/
structure OutAt (W0 W:World)(go:Nat)(v:Value)(acc:List Sb):Prop where
 row:Row W go 22 #[v]
 own:OwnN W W0.heap.size 25 3 sbC v acc
 k:Keeps W0 W [go]
 lt:go < W0.heap.size
theorem SRange.noRow {P:Program}{k:TypeId}{w:World}{b r:Nat}{f:List UInt8→Option Value}{L:List (List UInt8)}(h:SRange w P k b r f L):∀t cs,¬Row w r t cs:=by
 intro t cs hr;obtain⟨n,D,lf,cnt,⟨es,clock,since,seen,c0,e1,F,e2,e3,e4,e5⟩,h2⟩:=h;rw[hr]at e4
 cases e4
/-- Where the walk's loops are. -/
structure WkAt (W0 W1 wr:World)(bm go r:Nat)(f:List UInt8→Option Value)(v:Value)(acc:List Sb)(left:List (List UInt8))(rest:List Sb)(all:List Sb):Prop where
 rg:SRange wr Tryz.prog 9 bm r f left
 out:OutAt W0 wr go v acc
 perm:(acc++rest).Perm all
 nc:NcKeeps W1 wr
 r:W1.heap.size≤r
 w1:W0.heap.size≤W1.heap.size
def sliceOf (v:Value):Nat:=match v with
 | .slice _ n _=>n
 | _=>0

abbrev wkFn (go gw:Nat):Value:= .func (.func 72) #[] #[ptr0 go,ptr0 gw]
/-- What the closure answers. -/
def WkPost (W0 W:World)(go:Nat)(acc:List Sb)(es:List Sb)(e:Ending)(w' :World):Prop:=
 e= .returned (.tuple #[])∧∃v' acc',OutAt W0 w' go v' acc' ∧acc'.Perm (acc++es)∧NcKeeps W w'
end Go.Proofs.YtoadlafdeoklbaaGreatDoor

namespace Go.Proofs.YtoadlafdeoklbaaGreatDoor
open Go.RowKit Go.Maps Go.Shelf Go.Sort

/-- Go's cmp.Compare at texts. -/
def cmpB (a b:List UInt8):Int:=if Op.bytesLess a b=true then -1 else if Op.bytesLess b a=true then 1 else 0
theorem gtB (x y:List UInt8):(!(Op.bytesLess x y || x==y))=Op.bytesLess y x:=by
 rcases bl_tri x y with h | rfl | h
 ·rw[h,bl_asymm h]
  rfl
 ·simp[bl_irrefl]
 ·rw[h,bl_asymm h]
  have:(x==y)=false:=by
   rw[←Bool.not_eq_true];intro e;rw[eq_of_beq e,bl_irrefl]at h
   cases h
  rw[this];rfl
set_option maxRecDepth 100000 in
theorem mtNaN_any (w:World)(s:List UInt8):Calls Tryz.prog 70 #[.string ⟨s.toArray⟩] w fun e w' =>e= .returned (.bool false)∧w' =w:=by
 obtain⟨S,hS⟩:∃S:ByteArray,(⟨s.toArray⟩:ByteArray)=S:=⟨_,rfl⟩;rw[hS];clear hS;have h1:(S.toList==S.toList)=true:=by simp
 go_enter Tryz.func70,Tryz.ntmps70
 go_wp2
 go_ret;exact⟨rfl,rfl⟩
set_option maxRecDepth 100000 in
theorem mtCmp_any (w:World)(a b:List UInt8):Calls Tryz.prog 45 #[.string ⟨a.toArray⟩,.string ⟨b.toArray⟩] w fun e w' =>e= .returned (.int .i64 (cmpB a b))∧w' =w:=by
 have H1:=zh (mtNaN_any w a);have H2:=zh (mtNaN_any w b);obtain⟨X,hX⟩:∃S:ByteArray,(⟨a.toArray⟩:ByteArray)=S:=⟨_,rfl⟩;obtain⟨Y,hY⟩:∃S:ByteArray,(⟨b.toArray⟩:ByteArray)=S:=⟨_,rfl⟩;have eX:X.toList=a:=by rw[←hX,Lib.toList_data]
 have eY:Y.toList=b:=by rw[←hY,Lib.toList_data]
 rw[hX]at H1 ⊢
 rw[hY]at H2 ⊢
 by_cases h1:Op.bytesLess a b=true
 ·have HC:=zh (show cmpB a b= -1 by unfold cmpB;rw[if_pos h1])
  have f1:Op.bytesLess X.toList Y.toList=true:=by rw[eX,eY];exact h1
  clear hX hY eX eY h1
  go_enter Tryz.func45,Tryz.ntmps45
  go_wp2_with fail
  refine H1.out.mono ?_;rintro e w1 ⟨rfl,rfl⟩
  go_wp2_with fail
  refine H2.out.mono ?_;rintro e w1 ⟨rfl,rfl⟩
  go_wp2_with fail
  go_ret;exact⟨by rw[HC.out];rfl,rfl⟩
 ·have f1:Op.bytesLess X.toList Y.toList=false:=by rw[eX,eY];simpa using h1
  by_cases h2:Op.bytesLess b a=true
  ·have HC:=zh (show cmpB a b=1 by unfold cmpB;rw[if_neg h1,if_pos h2])
   have f2:(!(Op.bytesLess X.toList Y.toList || X.toList==Y.toList))=true:=by rw[eX,eY,gtB];exact h2
   have f3:(X.toList==Y.toList)=false:=by rw[f1]at f2;simpa using f2
   clear hX hY eX eY h1 h2 f2
   go_enter Tryz.func45,Tryz.ntmps45
   go_wp2_with fail
   refine H1.out.mono ?_;rintro e w1 ⟨rfl,rfl⟩
   go_wp2_with fail
   refine H2.out.mono ?_;rintro e w1 ⟨rfl,rfl⟩
   go_wp2_with fail
   go_ret;exact⟨by rw[HC.out];rfl,rfl⟩
  ·have HC:=zh (show cmpB a b=0 by unfold cmpB;rw[if_neg h1,if_neg h2])
   have f2:(!(Op.bytesLess X.toList Y.toList || X.toList==Y.toList))=false:=by rw[eX,eY,gtB];simpa using h2
   have f3:(X.toList==Y.toList)=true:=by rw[f1]at f2;simpa using f2
   clear hX hY eX eY h1 h2 f2
   go_enter Tryz.func45,Tryz.ntmps45
   go_wp2_with fail
   refine H1.out.mono ?_;rintro e w1 ⟨rfl,rfl⟩
   go_wp2_with fail
   refine H2.out.mono ?_;rintro e w1 ⟨rfl,rfl⟩
   go_wp2_with fail
   go_ret;exact⟨by rw[HC.out];rfl,rfl⟩
structure OrAt (w wr:World)(a b:Int)(k:Nat):Prop where
 z1:1≤k→a=0
 z2:2≤k→b=0
 eq:wr=w

/-- A world grows: draws, and new blocks. -/
def Grows (w w' :World):Prop:=∃(q:Nat) (os:Array Obj),w' =grow (w.drewN q) os
theorem Grows.trans {a b c:World}(h:Grows a b)(k:Grows b c):Grows a c:=by
 obtain⟨q,os,rfl⟩:=h;obtain⟨r,ot,rfl⟩:=k;refine⟨q+r,os++ot, ?_⟩;rw[←grow_grow];have:(grow (a.drewN q) os).drewN r=grow (a.drewN (q+r)) os:=by
  show grow ((a.drewN q).drewN r) os=_
  congr 1
  show({a with drawn:=a.drawn+q+r}:World)= {a with drawn:=a.drawn+(q+r)};rw[Nat.add_assoc]
 rw[this]
theorem Grows.alloc (w:World)(o:Obj):Grows w (w.alloc o):=⟨0, #[o],by rw[alloc_eq_grow];rfl⟩
/-- Entries held against each other: by filter, then by client. -/
def cmpSub (x y:Sb):Int:=if cmpB x.f y.f=0 then cmpB x.c y.c else cmpB x.f y.f
end Go.Proofs.YtoadlafdeoklbaaGreatDoor

namespace Go.Proofs.YtoadlafdeoklbaaGreatDoor
open Go.RowKit Go.Shelf Go.Sort

section
variable {α:Type} [Inhabited α] {f:α→List Value} {k:Nat} {w:World} {B:Nat} {e:TypeId} {l:List α} {blk cap:Nat}
omit [Inhabited α] in
theorem own_row (h:OwnN w B e k f (.slice (some ⟨blk,0,none⟩) l.length cap) l):∃cur:Array Value,Row w blk e cur∧B≤blk∧l.length≤cap∧cap≤maxLen∧cur.size=cap*k∧cur.toList.take (l.length*k)=l.flatMap f:=by
 obtain⟨h1,⟨h2,_⟩ | ⟨g,c,cur,h2,h3,h4,h5,h6,h7,h8⟩⟩:=h
 ·cases h2
 ·injection h2 with e1 e2 e3
  injection e1 with e1
  injection e1 with e1
  subst e1 e3;exact⟨cur,h4,h3,h5,h6,h7,h8⟩
theorem getBang {l:List Value}{i:Nat}(h:i < l.length):l[i]! =l[i]:=by simp[h]
theorem own_holds (E:Enc k f)(h:OwnN w B e k f (.slice (some ⟨blk,0,none⟩) l.length cap) l):HoldsK f k w blk 0 l.toArray:=by
 obtain⟨cur,hr,_,h5,_,h7,h8⟩:=own_row h;intro t ht;have ht2:t < l.length*k:=by simpa [flatK]using ht
 have hk:=E.pos;have h1:t / k < l.length:=Nat.div_lt_of_lt_mul (by rw[Nat.mul_comm];exact ht2);have h2:t % k < k:=Nat.mod_lt _ hk;have et:t / k*k+t % k=t:=by rw[Nat.mul_comm];exact Nat.div_add_mod t k
 refine⟨?_,hr.frozen _⟩;rw[Nat.zero_add,hr.cell,get_flatK _ _ _ _ (by simpa using ht2)];have h9:cur[t]? =(l.flatMap f)[t]? :=by
  rw[←h8,List.getElem?_take,if_pos ht2,Array.getElem?_toList]
 rw[h9,←et,flat_get E h1 h2,et];have e1:l.toArray[t / k]! =l[t / k]:=by simp[h1]
 rw[e1,id,List.getElem?_eq_getElem (by rw[E.len];exact h2),getBang (by rw[E.len];exact h2)]
theorem own_sorted (E:Enc k f)(h:OwnN w B e k f (.slice (some ⟨blk,0,none⟩) l.length cap) l){d:Array α}(hd:d.size=l.length)(m:Nat)(os:Array Obj):
  OwnN (sortWorldK f k w blk 0 m d os) B e k f (.slice (some ⟨blk,0,none⟩) d.toList.length cap) d.toList∧Keeps w (sortWorldK f k w blk 0 m d os) [blk]:=by
 obtain⟨cur,hr,hB,h5,h6,h7,h8⟩:=own_row h;have hlt:=hr.lt;have hz:(putRowK f k (Sort.ahead w m) blk 0 d).heap.size=w.heap.size:=size_putRowK f k (Sort.ahead w m) blk 0 d;have hb:(sortWorldK f k w blk 0 m d os).heap[blk]? =some (.cells (putCells id 0 (flatK f k d) cur) e (0,0)):=by
  show((putRowK f k (Sort.ahead w m) blk 0 d).heap++os)[blk]? =_;rw[Array.getElem?_append_left (by rw[hz];exact hlt)];show((w.heap.modify blk (onCells (putCells id 0 (flatK f k d)))))[blk]? =_;unfold Row at hr;rw[Array.getElem?_modify,if_pos rfl,hr];rfl
 have hk:=E.pos;refine⟨⟨by rw[flat_length E],.inr ⟨blk,cap,_,rfl,hB,hb,by rw[Array.length_toList,hd];exact h5,h6,by simp[putCells,h7], ?_⟩⟩, ?_⟩
 ·rw[Array.length_toList,hd]
  have hle:l.length*k≤cap*k:=Nat.mul_le_mul_right k h5;refine List.ext_getElem? fun t=> ?_
  rw[List.getElem?_take]
  by_cases ht:t < l.length*k
  ·rw[if_pos ht,Array.getElem?_toList]
   have h1:t / k < d.toList.length:=by rw[Array.length_toList,hd];exact Nat.div_lt_of_lt_mul (by rw[Nat.mul_comm];exact ht)
   have h2:t % k < k:=Nat.mod_lt _ hk;have et:t / k*k+t % k=t:=by rw[Nat.mul_comm];exact Nat.div_add_mod t k
   have e2:(d.toList.flatMap f)[t]? =(f d.toList[t / k])[t % k]? :=by
    have:=flat_get E (l:=d.toList) h1 h2
    rwa [et]at this
   rw[e2];unfold putCells;rw[Array.getElem?_mapIdx];have h3:t < cur.size:=by omega
   have h4:t < d.size*k:=by rw[hd];exact ht
   rw[Array.getElem?_eq_getElem h3,Option.map_some,if_pos ⟨Nat.zero_le _,by simp;exact h4⟩,Nat.sub_zero,get_flatK _ _ _ _ h4];have e1:d[t / k]! =d.toList[t / k]:=by
    have:t / k < d.size:=by simpa using h1
    simp[this]
   rw[e1,id,List.getElem?_eq_getElem (by rw[E.len];exact h2),getBang (by rw[E.len];exact h2)]
  ·rw[if_neg ht,List.getElem?_eq_none (by rw[flat_length E,Array.length_toList,hd];omega)]
 ·refine⟨rfl,rfl,rfl, ?_,fun i hi hn=> ?_⟩
  ·show w.heap.size≤((putRowK f k (Sort.ahead w m) blk 0 d).heap++os).size
   rw[Array.size_append,hz];omega
  ·show((putRowK f k (Sort.ahead w m) blk 0 d).heap++os)[i]? =_
   rw[Array.getElem?_append_left (by rw[hz];exact hi)];show((w.heap.modify blk (onCells (putCells id 0 (flatK f k d)))))[i]? =_;rw[Array.getElem?_modify,if_neg (fun e=>hn (by simp[e]))]
end
/-- What a sort leaves, as a list. -/
theorem sorted_list {α:Type} [Inhabited α] {lt:α→α→Bool}{l:List α}{d:Array α}(hp:PermIn 0 l.length l.toArray d)(hs:SortedIn lt 0 l.length d):d.size=l.length∧d.toList.Perm l∧d.toList.Pairwise fun a b=>lt b a=false:=by
 obtain⟨h1,_,h2⟩:=hp;have hz:d.size=l.length:=by simpa using h1
 have e1:d.extract 0 l.length=d:=by rw[←hz];simp
 have e2:l.toArray.extract 0 l.length=l.toArray:=by simp
 rw[e1,e2]at h2;refine⟨hz,by simpa using h2, ?_⟩;rw[List.pairwise_iff_getElem];intro i j hi hj hij;have hi' :i < d.size:=by simpa using hi
 have hj' :j < d.size:=by simpa using hj
 have:=hs i j (Nat.zero_le _) hij (by omega);rw[getElem!_pos d i hi',getElem!_pos d j hj']at this
 simpa using this
end Go.Proofs.YtoadlafdeoklbaaGreatDoor
