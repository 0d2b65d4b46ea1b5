/- Package match: all entries, in order. Package match: a book; New, Len, Nodes; entries set. -/
import Derived.Test.YtoadlafdeoklbaaGreatDoorPa24
import Derived.Test.YtoadlafdeoklbaaGreatDoorPa15

namespace Go.Proofs.YtoadlafdeoklbaaGreatDoor
open Go.RowKit Go.Maps Go.Shelf Go.Sort

theorem OwnN.low {α:Type}{f:α→List Value}{w:World}{B B' :Nat}{e:TypeId}{k:Nat}{v:Value}{l:List α}(h:OwnN w B e k f v l)(hb:B' ≤B):OwnN w B' e k f v l:=
 ⟨h.1,h.2.imp id fun⟨g,c,cur,h1,h2,h3⟩=>⟨g,c,cur,h1,Nat.le_trans hb h2,h3⟩⟩
instance:Inhabited Sb:=⟨sbZ⟩
theorem cmpB_neg (a b:List UInt8):cmpB a b < 0↔Op.bytesLess a b=true:=by
 unfold cmpB
 split
 ·simp_all
 ·split <;> simp_all
abbrev cmpFnSub:Value:= .func (.func 74) #[] #[]
end Go.Proofs.YtoadlafdeoklbaaGreatDoor

namespace Go.Proofs.YtoadlafdeoklbaaGreatDoor
open Go.RowKit Go.Maps Go.Shelf

/-- A book in memory, all of whose blocks are X. -/
def Bk (B:Nat)(W:World)(d:Nat)(L:List Sb)(X:List Nat):Prop:=∃S N,BookAt W B d L S N∧B≤d∧∀s,s∈X↔s=d∨s∈bks S N
theorem Bk.base {B:Nat}{W:World}{d:Nat}{L:List Sb}{X:List Nat}(h:Bk B W d L X):∀x∈X,B≤x∧x < W.heap.size:=by
 obtain⟨S,N,hb,hd,hX⟩:=h;intro x hx
 rcases(hX x).1 hx with rfl | hx
 ·exact⟨hd,hb.row.lt⟩
 ·obtain⟨q,hq,hx⟩:=mem_bks.1 hx
  have h1:=hb.tree.base q hq;have h2:=hb.tree.lt hq
  rcases hx with rfl | rfl | rfl
  ·exact⟨h1.1,h2.1⟩
  ·exact⟨h1.2.1,h2.2.1⟩
  ·exact⟨h1.2.2,h2.2.2⟩
theorem Bk.row {B:Nat}{W:World}{d:Nat}{L:List Sb}{X:List Nat}(h:Bk B W d L X):∃r,Row W d 64 #[ptr0 r,.int .i64 (L.length:Nat)]:=by
 obtain⟨S,N,hb,_,_⟩:=h;exact⟨_,hb.row⟩
/-- It stays where other blocks turn. -/
theorem Bk.keep {B:Nat}{W W' :World}{d:Nat}{L:List Sb}{X T:List Nat}(h:Bk B W d L X)(hk:Keeps W W' T)(hT:∀x∈X,x∉T):Bk B W' d L X:=by
 obtain⟨S,N,hb,hd,hX⟩:=h;have hm:∀q∈S,∀s,(s=(N q).b∨s=(N q).h∨s=(N q).k)→s∉T:=fun q hq s hs=>hT s ((hX s).2 (.inr (mem_bks.2 ⟨q,hq,hs⟩)))
 exact⟨S,N,⟨hb.row.keep hk (hT d ((hX d).2 (.inl rfl))),hb.tree.keep hk fun p hp=>⟨hm p hp _ (.inl rfl),hm p hp _ (.inr (.inl rfl)),hm p hp _ (.inr (.inr rfl))⟩,hb.ok,hb.st⟩,hd,hX⟩
theorem Bk.keeps {B:Nat}{W W' :World}{d:Nat}{L:List Sb}{X:List Nat}(h:Bk B W d L X)(hk:Keeps W W' []):Bk B W' d L X:=h.keep hk (by simp)
/-- A row of another kind is none of a book's. -/
theorem Bk.far {B:Nat}{W:World}{d:Nat}{L:List Sb}{X:List Nat}(h:Bk B W d L X){g:Nat}{t:TypeId}{cs:Array Value}(hr:Row W g t cs)(h1:t≠64)(h2:t≠75):g∉X:=by
 obtain⟨S,N,hb,hd,hX⟩:=h;intro hg
 rcases(hX g).1 hg with rfl | hg
 ·exact hb.row.ne_type hr (fun e=>h1 e.symm) rfl
 ·obtain⟨q,hq,hx⟩:=mem_bks.1 hg
  rcases hx with rfl | rfl | rfl
  ·exact(hb.tree.row q hq).ne_type hr (fun e=>h2 e.symm) rfl
  ·exact smap_ne_row (hb.tree.here q hq) hr rfl
  ·exact smap_ne_row (hb.tree.kids q hq) hr rfl
theorem BookAt.keeps {B:Nat}{W W' :World}{d:Nat}{L:List Sb}{S:List Path}{N:Path→Nd}(h:BookAt W B d L S N)(hk:Keeps W W' []):BookAt W' B d L S N:=⟨h.row.keeps hk,h.tree.keeps hk,h.ok,h.st⟩
/-- The beginnings as one list. -/
def mtAll (L:List Sb):List Path:= []::mtSeen L
theorem mem_mtAll {L:List Sb}{p:Path}:p∈mtAll L↔Stand L p:=by
 unfold mtAll;rw[List.mem_cons,mem_mtSeen]
 constructor
 ·rintro(h | ⟨_,h⟩)
  ·exact .inl h
  ·exact h
 ·intro h
  by_cases hp:p= []
  ·exact .inl hp
  ·exact .inr ⟨hp,h⟩
theorem mtAll_le {L:List Sb}(h:MtOk L):(mtAll L).length≤900000:=by
 have h1:=mtNodes_le fun x hx=>(h.ok x hx).1
 have h2:=h.le;show(mtSeen L).length+1≤_;unfold mtNodes at h1;omega
theorem bks_congr {S S' :List Path}{N:Path→Nd}(h:∀p,p∈S↔p∈S')(s:Nat):s∈bks S N↔s∈bks S' N:=by
 rw[mem_bks,mem_bks]
 constructor
 ·rintro⟨q,hq,hs⟩
  exact⟨q,(h q).1 hq,hs⟩
 ·rintro⟨q,hq,hs⟩
  exact⟨q,(h q).2 hq,hs⟩
theorem Bk.norm {B:Nat}{W:World}{d:Nat}{L:List Sb}{X:List Nat}(h:Bk B W d L X):∃N,BookAt W B d L (mtAll L) N∧B≤d∧∀s,s∈X↔s=d∨s∈bks (mtAll L) N:=by
 obtain⟨S,N,hb,hd,hX⟩:=h;have hS:∀p,p∈mtAll L↔p∈S:=fun p=>by rw[mem_mtAll,hb.st]
 exact⟨N,⟨hb.row,hb.tree.congr hS (by have:=mtAll_le hb.ok;omega),hb.ok,fun p=>mem_mtAll⟩,hd,fun s=>by rw[hX,bks_congr hS]⟩
/-- How a book goes on. -/
structure BkGo (B:Nat)(W W' :World)(d:Nat)(L' :List Sb)(X X' :List Nat):Prop where
 bk:Bk B W' d L' X'
 k:Keeps W W' X
 x:∀s∈X',s∈X∨W.heap.size≤s
theorem BkGo.same {B:Nat}{W W' :World}{d:Nat}{L:List Sb}{X:List Nat}(h:Bk B W d L X)(hk:Keeps W W' []):BkGo B W W' d L X X:=⟨h.keeps hk,hk.weaken (by simp),fun _ h=> .inl h⟩
theorem stand_nil (p:Path):p∈([[]]:List Path)↔Stand [] p:=by
 unfold Stand
 constructor
 ·intro h
  exact .inl (List.mem_singleton.1 h)
 ·rintro(h | ⟨_,h,_⟩)
  ·simp[h]
  ·cases h
set_option maxRecDepth 100000 in
theorem mtNew_any (W:World)(B:Nat)(hB:B≤W.heap.size):Calls Tryz.prog 11 #[] W fun e w' =>∃d X,e= .returned (ptr0 d)∧Bk B w' d [] X∧Keeps W w' []∧∀x∈X,W.heap.size≤x:=by
 have HF:=zh (mtFresh_any W)
 go_enter Tryz.func11,Tryz.ntmps11
 go_wp2_with fail
 refine HF.out.mono ?_;rintro e w1 ⟨n,rfl,hf⟩;have HN:=zh hf;clear hf HF
 go_wp2_with fail
 go_ret;have hk:Keeps w1 (w1.alloc (.cells #[ptr0 n.b,.int .i64 0] 64)) []:=Keeps.alloc _ _;have hz:=HN.out.k.size;refine⟨w1.heap.size,w1.heap.size::bks [[]] (fun _=>n),rfl,⟨[[]],fun _=>n,⟨Row.new _ _ _,⟨by simp,fun p x hp=> ?_,fun p hp=>HN.out.row.keeps hk,fun p hp=>(HN.out.here.keeps hk).congr fun c=>rfl,fun p hp=>(HN.out.kids.keeps hk).congr fun x=> ?_,fun p hp=> ?_,fun p hp q hq=>HN.out.ne,fun p hp q hq _=> ?_,fun p hp q hq _=> ?_,by simp,fun p=>⟨[],fun c hc=>absurd rfl hc,by simp⟩⟩,MtOk.nil,stand_nil⟩,by omega,fun s=>List.mem_cons⟩,HN.out.k.then_ hk,fun x hx=> ?_⟩
 ·simp at hp
 ·simp
 ·have h1:=HN.out.hb
  have h2:=HN.out.hh;have h3:=HN.out.hk;exact⟨by omega,by omega,by omega⟩
 ·rw[List.mem_singleton.1 hp,List.mem_singleton.1 hq]
 ·rw[List.mem_singleton.1 hp,List.mem_singleton.1 hq]
 ·have h1:=HN.out.hb
  have h2:=HN.out.hh;have h3:=HN.out.hk
  rcases List.mem_cons.1 hx with rfl | hx
  ·exact hz
  ·obtain⟨q,_,hq⟩:=mem_bks.1 hx
   rcases hq with rfl | rfl | rfl <;> omega
set_option maxRecDepth 100000 in
theorem mtLen_any (B:Nat)(W:World)(d:Nat)(L:List Sb)(X:List Nat)(h:Bk B W d L X):Calls Tryz.prog 29 #[ptr0 d] W fun e w' =>e= .returned (.int .i64 (L.length:Nat))∧w' =W:=by
 obtain⟨r,hr⟩:=h.row;have HN:=zh (mtNone_at W d _ _ hr);have c1:=hr.cell 1;simp only[zga,zgz,zgs]at c1;clear h hr
 go_enter Tryz.func29,Tryz.ntmps29
 go_wp2_with fail
 refine HN.out.mono ?_;rintro e w1 ⟨rfl,rfl⟩
 go_wp2_with fail
 go_ret;exact⟨rfl,rfl⟩
set_option maxRecDepth 100000 in
theorem mtNodes_any (B:Nat)(W:World)(d:Nat)(L:List Sb)(X:List Nat)(h:Bk B W d L X):Calls Tryz.prog 18 #[ptr0 d] W fun e w' =>e= .returned (.int .i64 (mtNodes L:Nat))∧Keeps W w' []:=by
 obtain⟨S,N,hb,_,_⟩:=h;have HN:=zh (mtNone_at W d _ _ hb.row);have HC:=zh (mtCount_any B L S N hb.ok hb.st 202 [] W hb.tree hb.tree.root (by simp));rw[mtBelow_root]at HC;have c0:=hb.row.cell 0;simp only[zga,zgz]at c0;clear hb
 go_enter Tryz.func18,Tryz.ntmps18
 go_wp2_with fail
 refine HN.out.mono ?_;rintro e w1 ⟨rfl,rfl⟩
 go_wp2_with fail
 refine HC.out.mono ?_;rintro e w1 ⟨rfl,hk⟩
 go_wp2_with fail
 go_ret;exact⟨rfl,hk⟩
end Go.Proofs.YtoadlafdeoklbaaGreatDoor
