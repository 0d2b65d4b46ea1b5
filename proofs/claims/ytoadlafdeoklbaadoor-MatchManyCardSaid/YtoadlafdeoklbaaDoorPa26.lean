/- Package match: the two closures that hold entries, and who is told, against each other. A slice of one's own, sorted by slices.SortFunc: the list behind it. Package match: all entries, in order. Package match: a book; New, Len, Nodes; entries set. -/
import Derived.Test.YtoadlafdeoklbaaDoorPa25
import Derived.Test.YtoadlafdeoklbaaDoorPa12
import Derived.Shelf.SlSortCmp.NoneTotal
import Derived.Test.YtoadlafdeoklbaaDoorPa21

namespace Go.Proofs.YtoadlafdeoklbaaDoor
open Go.RowKit Go.Maps Go.Shelf Go.Sort

/-- A world grows: draws, and new blocks. -/
def Grows (w w' :World):Prop:=∃(q:Nat) (os:Array Obj),w' =grow (w.drewN q) os
theorem Grows.trans {a b c:World}(h:Grows a b)(k:Grows b c):Grows a c:=by
 obtain⟨q,os,rfl⟩:=h;obtain⟨r,ot,rfl⟩:=k;refine⟨q+r,os++ot, ?_⟩;rw[←grow_grow];have:(grow (a.drewN q) os).drewN r=grow (a.drewN (q+r)) os:=by
  show grow ((a.drewN q).drewN r) os=_
  congr 1
  show({a with drawn:=a.drawn+q+r}:World)= {a with drawn:=a.drawn+(q+r)};rw[Nat.add_assoc]
 rw[this]
theorem Grows.alloc (w:World)(o:Obj):Grows w (w.alloc o):=⟨0, #[o],by rw[alloc_eq_grow];rfl⟩
/-- Entries held against each other: by filter, then by client. -/
def cmpSub (x y:Sb):Int:=if cmpB x.f y.f=0 then cmpB x.c y.c else cmpB x.f y.f
end Go.Proofs.YtoadlafdeoklbaaDoor

namespace Go.Proofs.YtoadlafdeoklbaaDoor
open Go.RowKit Go.Shelf Go.Sort

section
variable {α:Type} [Inhabited α] {f:α→List Value} {k:Nat} {w:World} {B:Nat} {e:TypeId} {l:List α} {blk cap:Nat}
omit [Inhabited α] in
theorem own_row (h:OwnN w B e k f (.slice (some ⟨blk,0,none⟩) l.length cap) l):∃cur:Array Value,Row w blk e cur∧B≤blk∧l.length≤cap∧cap≤maxLen∧cur.size=cap*k∧cur.toList.take (l.length*k)=l.flatMap f:=by
 obtain⟨h1,⟨h2,_⟩ | ⟨g,c,cur,h2,h3,h4,h5,h6,h7,h8⟩⟩:=h
 ·cases h2
 ·injection h2 with e1 e2 e3
  injection e1 with e1
  injection e1 with e1
  subst e1 e3;exact⟨cur,h4,h3,h5,h6,h7,h8⟩
theorem getBang {l:List Value}{i:Nat}(h:i < l.length):l[i]! =l[i]:=by simp[h]
theorem own_holds (E:Enc k f)(h:OwnN w B e k f (.slice (some ⟨blk,0,none⟩) l.length cap) l):HoldsK f k w blk 0 l.toArray:=by
 obtain⟨cur,hr,_,h5,_,h7,h8⟩:=own_row h;intro t ht;have ht2:t < l.length*k:=by simpa [flatK]using ht
 have hk:=E.pos;have h1:t / k < l.length:=Nat.div_lt_of_lt_mul (by rw[Nat.mul_comm];exact ht2);have h2:t % k < k:=Nat.mod_lt _ hk;have et:t / k*k+t % k=t:=by rw[Nat.mul_comm];exact Nat.div_add_mod t k
 refine⟨?_,hr.frozen _⟩;rw[Nat.zero_add,hr.cell,get_flatK _ _ _ _ (by simpa using ht2)];have h9:cur[t]? =(l.flatMap f)[t]? :=by
  rw[←h8,List.getElem?_take,if_pos ht2,Array.getElem?_toList]
 rw[h9,←et,flat_get E h1 h2,et];have e1:l.toArray[t / k]! =l[t / k]:=by simp[h1]
 rw[e1,id,List.getElem?_eq_getElem (by rw[E.len];exact h2),getBang (by rw[E.len];exact h2)]
theorem own_sorted (E:Enc k f)(h:OwnN w B e k f (.slice (some ⟨blk,0,none⟩) l.length cap) l){d:Array α}(hd:d.size=l.length)(m:Nat)(os:Array Obj):
  OwnN (sortWorldK f k w blk 0 m d os) B e k f (.slice (some ⟨blk,0,none⟩) d.toList.length cap) d.toList∧Keeps w (sortWorldK f k w blk 0 m d os) [blk]:=by
 obtain⟨cur,hr,hB,h5,h6,h7,h8⟩:=own_row h;have hlt:=hr.lt;have hz:(putRowK f k (Sort.ahead w m) blk 0 d).heap.size=w.heap.size:=size_putRowK f k (Sort.ahead w m) blk 0 d;have hb:(sortWorldK f k w blk 0 m d os).heap[blk]? =some (.cells (putCells id 0 (flatK f k d) cur) e (0,0)):=by
  show((putRowK f k (Sort.ahead w m) blk 0 d).heap++os)[blk]? =_;rw[Array.getElem?_append_left (by rw[hz];exact hlt)];show((w.heap.modify blk (onCells (putCells id 0 (flatK f k d)))))[blk]? =_;unfold Row at hr;rw[Array.getElem?_modify,if_pos rfl,hr];rfl
 have hk:=E.pos;refine⟨⟨by rw[flat_length E],.inr ⟨blk,cap,_,rfl,hB,hb,by rw[Array.length_toList,hd];exact h5,h6,by simp[putCells,h7], ?_⟩⟩, ?_⟩
 ·rw[Array.length_toList,hd]
  have hle:l.length*k≤cap*k:=Nat.mul_le_mul_right k h5;refine List.ext_getElem? fun t=> ?_
  rw[List.getElem?_take]
  by_cases ht:t < l.length*k
  ·rw[if_pos ht,Array.getElem?_toList]
   have h1:t / k < d.toList.length:=by rw[Array.length_toList,hd];exact Nat.div_lt_of_lt_mul (by rw[Nat.mul_comm];exact ht)
   have h2:t % k < k:=Nat.mod_lt _ hk;have et:t / k*k+t % k=t:=by rw[Nat.mul_comm];exact Nat.div_add_mod t k
   have e2:(d.toList.flatMap f)[t]? =(f d.toList[t / k])[t % k]? :=by
    have:=flat_get E (l:=d.toList) h1 h2
    rwa [et]at this
   rw[e2];unfold putCells;rw[Array.getElem?_mapIdx];have h3:t < cur.size:=by omega
   have h4:t < d.size*k:=by rw[hd];exact ht
   rw[Array.getElem?_eq_getElem h3,Option.map_some,if_pos ⟨Nat.zero_le _,by simp;exact h4⟩,Nat.sub_zero,get_flatK _ _ _ _ h4];have e1:d[t / k]! =d.toList[t / k]:=by
    have:t / k < d.size:=by simpa using h1
    simp[this]
   rw[e1,id,List.getElem?_eq_getElem (by rw[E.len];exact h2),getBang (by rw[E.len];exact h2)]
  ·rw[if_neg ht,List.getElem?_eq_none (by rw[flat_length E,Array.length_toList,hd];omega)]
 ·refine⟨rfl,rfl,rfl, ?_,fun i hi hn=> ?_⟩
  ·show w.heap.size≤((putRowK f k (Sort.ahead w m) blk 0 d).heap++os).size
   rw[Array.size_append,hz];omega
  ·show((putRowK f k (Sort.ahead w m) blk 0 d).heap++os)[i]? =_
   rw[Array.getElem?_append_left (by rw[hz];exact hi)];show((w.heap.modify blk (onCells (putCells id 0 (flatK f k d)))))[i]? =_;rw[Array.getElem?_modify,if_neg (fun e=>hn (by simp[e]))]
end
/-- What a sort leaves, as a list. -/
theorem sorted_list {α:Type} [Inhabited α] {lt:α→α→Bool}{l:List α}{d:Array α}(hp:PermIn 0 l.length l.toArray d)(hs:SortedIn lt 0 l.length d):d.size=l.length∧d.toList.Perm l∧d.toList.Pairwise fun a b=>lt b a=false:=by
 obtain⟨h1,_,h2⟩:=hp;have hz:d.size=l.length:=by simpa using h1
 have e1:d.extract 0 l.length=d:=by rw[←hz];simp
 have e2:l.toArray.extract 0 l.length=l.toArray:=by simp
 rw[e1,e2]at h2;refine⟨hz,by simpa using h2, ?_⟩;rw[List.pairwise_iff_getElem];intro i j hi hj hij;have hi' :i < d.size:=by simpa using hi
 have hj' :j < d.size:=by simpa using hj
 have:=hs i j (Nat.zero_le _) hij (by omega);rw[getElem!_pos d i hi',getElem!_pos d j hj']at this
 simpa using this
end Go.Proofs.YtoadlafdeoklbaaDoor

namespace Go.Proofs.YtoadlafdeoklbaaDoor
open Go.RowKit Go.Maps Go.Shelf Go.Sort

theorem OwnN.low {α:Type}{f:α→List Value}{w:World}{B B' :Nat}{e:TypeId}{k:Nat}{v:Value}{l:List α}(h:OwnN w B e k f v l)(hb:B' ≤B):OwnN w B' e k f v l:=
 ⟨h.1,h.2.imp id fun⟨g,c,cur,h1,h2,h3⟩=>⟨g,c,cur,h1,Nat.le_trans hb h2,h3⟩⟩
instance:Inhabited Sb:=⟨sbZ⟩
theorem cmpB_neg (a b:List UInt8):cmpB a b < 0↔Op.bytesLess a b=true:=by
 unfold cmpB
 split
 ·simp_all
 ·split <;> simp_all
end Go.Proofs.YtoadlafdeoklbaaDoor

namespace Go.Proofs.YtoadlafdeoklbaaDoor
open Go.RowKit Go.Maps Go.Shelf

/-- A book in memory, all of whose blocks are X. -/
def Bk (B:Nat)(W:World)(d:Nat)(L:List Sb)(X:List Nat):Prop:=∃S N,BookAt W B d L S N∧B≤d∧∀s,s∈X↔s=d∨s∈bks S N
theorem Bk.base {B:Nat}{W:World}{d:Nat}{L:List Sb}{X:List Nat}(h:Bk B W d L X):∀x∈X,B≤x∧x < W.heap.size:=by
 obtain⟨S,N,hb,hd,hX⟩:=h;intro x hx
 rcases(hX x).1 hx with rfl | hx
 ·exact⟨hd,hb.row.lt⟩
 ·obtain⟨q,hq,hx⟩:=mem_bks.1 hx
  have h1:=hb.tree.base q hq;have h2:=hb.tree.lt hq
  rcases hx with rfl | rfl | rfl
  ·exact⟨h1.1,h2.1⟩
  ·exact⟨h1.2.1,h2.2.1⟩
  ·exact⟨h1.2.2,h2.2.2⟩
theorem Bk.ok {B:Nat}{W:World}{d:Nat}{L:List Sb}{X:List Nat}(h:Bk B W d L X):MtOk L:=by
 obtain⟨S,N,hb,_,_⟩:=h;exact hb.ok
theorem Bk.row {B:Nat}{W:World}{d:Nat}{L:List Sb}{X:List Nat}(h:Bk B W d L X):∃r,Row W d 43 #[ptr0 r,.int .i64 (L.length:Nat)]:=by
 obtain⟨S,N,hb,_,_⟩:=h;exact⟨_,hb.row⟩
/-- It stays where other blocks turn. -/
theorem Bk.keep {B:Nat}{W W' :World}{d:Nat}{L:List Sb}{X T:List Nat}(h:Bk B W d L X)(hk:Keeps W W' T)(hT:∀x∈X,x∉T):Bk B W' d L X:=by
 obtain⟨S,N,hb,hd,hX⟩:=h;have hm:∀q∈S,∀s,(s=(N q).b∨s=(N q).h∨s=(N q).k)→s∉T:=fun q hq s hs=>hT s ((hX s).2 (.inr (mem_bks.2 ⟨q,hq,hs⟩)))
 exact⟨S,N,⟨hb.row.keep hk (hT d ((hX d).2 (.inl rfl))),hb.tree.keep hk fun p hp=>⟨hm p hp _ (.inl rfl),hm p hp _ (.inr (.inl rfl)),hm p hp _ (.inr (.inr rfl))⟩,hb.ok,hb.st⟩,hd,hX⟩
theorem Bk.keeps {B:Nat}{W W' :World}{d:Nat}{L:List Sb}{X:List Nat}(h:Bk B W d L X)(hk:Keeps W W' []):Bk B W' d L X:=h.keep hk (by simp)
/-- A row of another kind is none of a book's. -/
theorem Bk.far {B:Nat}{W:World}{d:Nat}{L:List Sb}{X:List Nat}(h:Bk B W d L X){g:Nat}{t:TypeId}{cs:Array Value}(hr:Row W g t cs)(h1:t≠43)(h2:t≠49):g∉X:=by
 obtain⟨S,N,hb,hd,hX⟩:=h;intro hg
 rcases(hX g).1 hg with rfl | hg
 ·exact hb.row.ne_type hr (fun e=>h1 e.symm) rfl
 ·obtain⟨q,hq,hx⟩:=mem_bks.1 hg
  rcases hx with rfl | rfl | rfl
  ·exact(hb.tree.row q hq).ne_type hr (fun e=>h2 e.symm) rfl
  ·exact smap_ne_row (hb.tree.here q hq) hr rfl
  ·exact smap_ne_row (hb.tree.kids q hq) hr rfl
theorem BookAt.keeps {B:Nat}{W W' :World}{d:Nat}{L:List Sb}{S:List Path}{N:Path→Nd}(h:BookAt W B d L S N)(hk:Keeps W W' []):BookAt W' B d L S N:=⟨h.row.keeps hk,h.tree.keeps hk,h.ok,h.st⟩
/-- The beginnings as one list. -/
def mtAll (L:List Sb):List Path:= []::mtSeen L
theorem mem_mtAll {L:List Sb}{p:Path}:p∈mtAll L↔Stand L p:=by
 unfold mtAll;rw[List.mem_cons,mem_mtSeen]
 constructor
 ·rintro(h | ⟨_,h⟩)
  ·exact .inl h
  ·exact h
 ·intro h
  by_cases hp:p= []
  ·exact .inl hp
  ·exact .inr ⟨hp,h⟩
theorem mtAll_le {L:List Sb}(h:MtOk L):(mtAll L).length≤900000:=by
 have h1:=mtNodes_le fun x hx=>(h.ok x hx).1
 have h2:=h.le;show(mtSeen L).length+1≤_;unfold mtNodes at h1;omega
theorem bks_congr {S S' :List Path}{N:Path→Nd}(h:∀p,p∈S↔p∈S')(s:Nat):s∈bks S N↔s∈bks S' N:=by
 rw[mem_bks,mem_bks]
 constructor
 ·rintro⟨q,hq,hs⟩
  exact⟨q,(h q).1 hq,hs⟩
 ·rintro⟨q,hq,hs⟩
  exact⟨q,(h q).2 hq,hs⟩
theorem Bk.norm {B:Nat}{W:World}{d:Nat}{L:List Sb}{X:List Nat}(h:Bk B W d L X):∃N,BookAt W B d L (mtAll L) N∧B≤d∧∀s,s∈X↔s=d∨s∈bks (mtAll L) N:=by
 obtain⟨S,N,hb,hd,hX⟩:=h;have hS:∀p,p∈mtAll L↔p∈S:=fun p=>by rw[mem_mtAll,hb.st]
 exact⟨N,⟨hb.row,hb.tree.congr hS (by have:=mtAll_le hb.ok;omega),hb.ok,fun p=>mem_mtAll⟩,hd,fun s=>by rw[hX,bks_congr hS]⟩
/-- How a book goes on. -/
structure BkGo (B:Nat)(W W' :World)(d:Nat)(L' :List Sb)(X X' :List Nat):Prop where
 bk:Bk B W' d L' X'
 k:Keeps W W' X
 x:∀s∈X',s∈X∨W.heap.size≤s
theorem BkGo.same {B:Nat}{W W' :World}{d:Nat}{L:List Sb}{X:List Nat}(h:Bk B W d L X)(hk:Keeps W W' []):BkGo B W W' d L X X:=⟨h.keeps hk,hk.weaken (by simp),fun _ h=> .inl h⟩
theorem stand_nil (p:Path):p∈([[]]:List Path)↔Stand [] p:=by
 unfold Stand
 constructor
 ·intro h
  exact .inl (List.mem_singleton.1 h)
 ·rintro(h | ⟨_,h,_⟩)
  ·simp[h]
  ·cases h
set_option maxRecDepth 100000 in
theorem mtNew_any (W:World)(B:Nat)(hB:B≤W.heap.size):Calls Tryd.prog 5 #[] W fun e w' =>∃d X,e= .returned (ptr0 d)∧Bk B w' d [] X∧Keeps W w' []∧∀x∈X,W.heap.size≤x:=by
 have HF:=zh (mtFresh_any W)
 go_enter Tryd.func5,Tryd.ntmps5
 go_wp2_with fail
 refine HF.out.mono ?_;rintro e w1 ⟨n,rfl,hf⟩;have HN:=zh hf;clear hf HF
 go_wp2_with fail
 go_ret;have hk:Keeps w1 (w1.alloc (.cells #[ptr0 n.b,.int .i64 0] 43)) []:=Keeps.alloc _ _;have hz:=HN.out.k.size;refine⟨w1.heap.size,w1.heap.size::bks [[]] (fun _=>n),rfl,⟨[[]],fun _=>n,⟨Row.new _ _ _,⟨by simp,fun p x hp=> ?_,fun p hp=>HN.out.row.keeps hk,fun p hp=>(HN.out.here.keeps hk).congr fun c=>rfl,fun p hp=>(HN.out.kids.keeps hk).congr fun x=> ?_,fun p hp=> ?_,fun p hp q hq=>HN.out.ne,fun p hp q hq _=> ?_,fun p hp q hq _=> ?_,by simp,fun p=>⟨[],fun c hc=>absurd rfl hc,by simp⟩⟩,MtOk.nil,stand_nil⟩,by omega,fun s=>List.mem_cons⟩,HN.out.k.then_ hk,fun x hx=> ?_⟩
 ·simp at hp
 ·simp
 ·have h1:=HN.out.hb
  have h2:=HN.out.hh;have h3:=HN.out.hk;exact⟨by omega,by omega,by omega⟩
 ·rw[List.mem_singleton.1 hp,List.mem_singleton.1 hq]
 ·rw[List.mem_singleton.1 hp,List.mem_singleton.1 hq]
 ·have h1:=HN.out.hb
  have h2:=HN.out.hh;have h3:=HN.out.hk
  rcases List.mem_cons.1 hx with rfl | hx
  ·exact hz
  ·obtain⟨q,_,hq⟩:=mem_bks.1 hx
   rcases hq with rfl | rfl | rfl <;> omega
set_option maxRecDepth 100000 in
theorem mtLen_any (B:Nat)(W:World)(d:Nat)(L:List Sb)(X:List Nat)(h:Bk B W d L X):Calls Tryd.prog 7 #[ptr0 d] W fun e w' =>e= .returned (.int .i64 (L.length:Nat))∧w' =W:=by
 obtain⟨r,hr⟩:=h.row;have HN:=zh (mtNone_at W d _ _ hr);have c1:=hr.cell 1;simp only[zga,zgz,zgs]at c1;clear h hr
 go_enter Tryd.func7,Tryd.ntmps7
 go_wp2_with fail
 refine HN.out.mono ?_;rintro e w1 ⟨rfl,rfl⟩
 go_wp2_with fail
 go_ret;exact⟨rfl,rfl⟩
set_option maxRecDepth 100000 in
theorem mtNodes_any (B:Nat)(W:World)(d:Nat)(L:List Sb)(X:List Nat)(h:Bk B W d L X):Calls Tryd.prog 9 #[ptr0 d] W fun e w' =>e= .returned (.int .i64 (mtNodes L:Nat))∧Keeps W w' []:=by
 obtain⟨S,N,hb,_,_⟩:=h;have HN:=zh (mtNone_at W d _ _ hb.row);have HC:=zh (mtCount_any B L S N hb.ok hb.st 202 [] W hb.tree hb.tree.root (by simp));rw[mtBelow_root]at HC;have c0:=hb.row.cell 0;simp only[zga,zgz]at c0;clear hb
 go_enter Tryd.func9,Tryd.ntmps9
 go_wp2_with fail
 refine HN.out.mono ?_;rintro e w1 ⟨rfl,rfl⟩
 go_wp2_with fail
 refine HC.out.mono ?_;rintro e w1 ⟨rfl,hk⟩
 go_wp2_with fail
 go_ret;exact⟨rfl,hk⟩
end Go.Proofs.YtoadlafdeoklbaaDoor
