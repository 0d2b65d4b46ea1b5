/- Package match: the beginning of so many levels on. A region of a fixed order, met as one that draws its order: each operation once, at any world that keeps what lay. A whole row is read, in a drawn region. Operations of a region whose values are named: the kernel checks each. -/
import Derived.Test.YtoadlafdeoklbaaGreatDoorPa14
import Derived.Test.YtoadlafdeoklbaaGreatDoorPa15
import Derived.Test.YtoadlafdeoklbaaGreatDoorPa6
import Derived.Test.YtoadlafdeoklbaaGreatDoorPa0
import Derived.Test.YtoadlafdeoklbaaGreatDoorPa2
import Derived.Deep.MidRow
import Derived.Laws.StructEq
import Derived.KernelRfl

namespace Go.Proofs.YtoadlafdeoklbaaGreatDoor
open Go.RowKit Go.Maps

/-- All blocks of a tree. -/
def bks (S:List Path)(N:Path→Nd):List Nat:=S.flatMap fun q=> [(N q).b,(N q).h,(N q).k]
theorem mem_bks {S:List Path}{N:Path→Nd}{s:Nat}:s∈bks S N↔∃q∈S,s=(N q).b∨s=(N q).h∨s=(N q).k:=by simp[bks]
/-- Its maps. -/
def mks (S:List Path)(N:Path→Nd):List Nat:=S.flatMap fun q=> [(N q).h,(N q).k]
theorem mem_mks {S:List Path}{N:Path→Nd}{s:Nat}:s∈mks S N↔∃q∈S,s=(N q).h∨s=(N q).k:=by simp[mks]
theorem mks_bks {S:List Path}{N:Path→Nd}{s:Nat}(h:s∈mks S N):s∈bks S N:=by
 obtain⟨q,hq,h⟩:=mem_mks.1 h;exact mem_bks.2 ⟨q,hq,.inr h⟩
section
variable {W W' W1 W2:World} {B:Nat} {S:List Path} {E:Path→List UInt8→Option Sb} {N:Path→Nd}
theorem TreeAt.pre (h:TreeAt W B S E N){p:Path}:∀q:Path,p++q∈S→p∈S:=by
 intro q
 induction q generalizing p with
 | nil=>intro hq;simpa using hq
 | cons x q ih=>
  intro hq;refine h.up p x (ih (p:=p++ [x]) ?_)
  simpa using hq
theorem TreeAt.congr {S' :List Path}(h:TreeAt W B S E N)(hS:∀p,p∈S' ↔p∈S)(hl:S'.length≤2000000):TreeAt W B S' E N:=by
 refine⟨(hS _).2 h.root,fun p x hp=>(hS _).2 (h.up p x ((hS _).1 hp)),fun p hp=>h.row p ((hS _).1 hp),fun p hp=>h.here p ((hS _).1 hp),fun p hp=>(h.kids p ((hS _).1 hp)).congr fun x=> ?_,fun p hp=>h.base p ((hS _).1 hp),fun p hp q hq=>h.hk p ((hS _).1 hp) q ((hS _).1 hq),fun p hp q hq=>h.hh p ((hS _).1 hp) q ((hS _).1 hq),fun p hp q hq=>h.kk p ((hS _).1 hp) q ((hS _).1 hq),hl,h.ek⟩
 by_cases hx:p++ [x]∈S
 ·simp[hx,(hS _).2 hx]
 ·have:p++ [x]∉S' :=fun e=>hx ((hS _).1 e)
  simp[hx,this]
theorem snoc_inj {p q:Path}{x y:List UInt8}(h:p++ [x]=q++ [y]):p=q∧x=y:=by simpa using h
theorem last_snoc (p:Path)(x:List UInt8):(p++ [x]).getLastD []=x:=by simp
/-- The keys of a node's kids. -/
theorem TreeAt.kidKeys (h:TreeAt W B S E N)(p:Path):∃l:List (List UInt8),(∀x,((if p++ [x]∈S then some (N (p++ [x])).b else none).map ptr0)≠none→x∈l)∧l.length < maxLen:=by
 refine⟨S.map fun q=>q.getLastD [],fun x hx=> ?_, ?_⟩
 ·by_cases hm:p++ [x]∈S
  ·exact List.mem_map.2 ⟨_,hm,last_snoc p x⟩
  ·rw[if_neg hm]at hx
   exact absurd rfl hx
 ·rw[List.length_map]
  have:=h.le;simp[maxLen];omega
/-- One more node, below one that is there. -/
def putN (N:Path→Nd)(p:Path)(n:Nd):Path→Nd:=fun q=>if q=p then n else N q
theorem putN_same (N:Path→Nd)(p:Path)(n:Nd):putN N p n p=n:=if_pos rfl
theorem putN_other {N:Path→Nd}{p q:Path}(n:Nd)(h:q≠p):putN N p n q=N q:=if_neg h
theorem TreeAt.grow (h:TreeAt W B S E N){p:Path}(hp:p∈S){x:List UInt8}(hx:p++ [x]∉S){n:Nd}(hf:FreshNd W W1 n)(hB:B≤W.heap.size)(hE:∀c,E (p++ [x]) c=none)(hl:S.length+1≤2000000)
  (hm:KidsM W2 (N p).k (fun y=>if y=x then some n.b else if p++ [y]∈S then some (N (p++ [y])).b else none)) (hk:Keeps W1 W2 [(N p).k]):
  TreeAt W2 B ((p++ [x])::S) E (putN N (p++ [x]) n):=by
 have hne:∀q∈S,q≠p++ [x]:=fun q hq e=>hx (e▸hq)
 have hno:∀y,(p++ [x])++ [y]∉S:=fun y e=>hx (h.up _ _ e)
 have hnx:∀y,(p++ [x])++ [y]≠p++ [x]:=fun y e=>by
  have:=congrArg List.length e;simp at this
 have olt:∀q∈S,(N q).b < n.b∧(N q).b < n.h∧(N q).b < n.k∧(N q).h < n.h∧(N q).h < n.k∧(N q).k < n.h∧(N q).k < n.k∧(N q).k < n.b:=fun q hq=>by
  have h1:=h.lt hq;have h2:=hf.hb;have h3:=hf.hh;have h4:=hf.hk;exact⟨by omega,by omega,by omega,by omega,by omega,by omega,by omega,by omega⟩
 have hrow:∀q∈S,Row W2 (N q).b 75 (ndRow (N q)):=fun q hq=>((h.row q hq).keeps hf.k).keep hk (fun e=>by
  have h1:=smap_ne_row (h.kids p hp) (h.row q hq);exact h1 (List.mem_singleton.1 e).symm)
 have hhere:∀q∈S,HereM W2 (N q).h (E q):=fun q hq=>((h.here q hq).keeps hf.k).keep hk (fun e=>h.hk q hq p hp (List.mem_singleton.1 e))
 have hpl:=olt p hp;refine⟨List.mem_cons_of_mem _ h.root,fun q y hq=> ?_,fun q hq=> ?_,fun q hq=> ?_,fun q hq=> ?_,fun q hq=> ?_,fun q hq r hr=> ?_,fun q hq r hr e=> ?_,fun q hq r hr e=> ?_,by simp;omega,h.ek⟩
 ·rcases List.mem_cons.1 hq with e | hq
  ·rw[(snoc_inj e).1]
   exact List.mem_cons_of_mem _ hp
  ·exact List.mem_cons_of_mem _ (h.up q y hq)
 ·rcases List.mem_cons.1 hq with rfl | hq
  ·rw[putN_same]
   exact hf.row.keep hk (by simp;omega)
  ·rw[putN_other _ (hne q hq)]
   exact hrow q hq
 ·rcases List.mem_cons.1 hq with rfl | hq
  ·rw[putN_same]
   exact(hf.here.keep hk (by simp;omega)).congr fun c=>by simp[hE c]
  ·rw[putN_other _ (hne q hq)]
   exact hhere q hq
 ·rcases List.mem_cons.1 hq with rfl | hq
  ·rw[putN_same]
   refine(hf.kids.keep hk (by simp;omega)).congr fun y=> ?_
   have:(p++ [x])++ [y]∉(p++ [x])::S:=fun e=>by
    rcases List.mem_cons.1 e with e | e
    ·exact hnx y e
    ·exact hno y e
   dsimp only
   rw[if_neg this]
  ·rw[putN_other _ (hne q hq)]
   by_cases e:q=p
   ·subst e
    refine hm.congr fun y=> ?_
    by_cases ey:y=x
    ·subst ey
     dsimp only
     rw[if_pos rfl,if_pos (by simp),putN_same]
    ·have h1:q++ [y]≠q++ [x]:=fun e=>ey (snoc_inj e).2
     have h2:q++ [y]∈(q++ [x])::S↔q++ [y]∈S:=by simp[h1]
     dsimp only
     rw[if_neg ey,putN_other _ h1]
     by_cases h3:q++ [y]∈S
     ·rw[if_pos h3,if_pos (h2.2 h3)]
     ·rw[if_neg h3,if_neg (fun e=>h3 (h2.1 e))]
   ·refine(((h.kids q hq).keeps hf.k).keep hk (fun e2=>e (h.kk q hq p hp (List.mem_singleton.1 e2)))).congr fun y=> ?_
    have h1:q++ [y]≠p++ [x]:=fun e2=>e (snoc_inj e2).1
    have h2:q++ [y]∈(p++ [x])::S↔q++ [y]∈S:=by
     rw[List.mem_cons];exact⟨fun e=>e.resolve_left h1,.inr⟩
    dsimp only
    rw[putN_other _ h1]
    by_cases h3:q++ [y]∈S
    ·rw[if_pos h3,if_pos (h2.2 h3)]
    ·rw[if_neg h3,if_neg (fun e=>h3 (h2.1 e))]
 ·rcases List.mem_cons.1 hq with rfl | hq
  ·rw[putN_same]
   have h2:=hf.hb;have h3:=hf.hh;have h4:=hf.hk;exact⟨by omega,by omega,by omega⟩
  ·rw[putN_other _ (hne q hq)]
   exact h.base q hq
 ·rcases List.mem_cons.1 hq with rfl | hq <;> rcases List.mem_cons.1 hr with rfl | hr
  ·rw[putN_same]
   exact hf.ne
  ·rw[putN_same,putN_other _ (hne r hr)]
   have:=olt r hr;omega
  ·rw[putN_same,putN_other _ (hne q hq)]
   have:=olt q hq;omega
  ·rw[putN_other _ (hne q hq),putN_other _ (hne r hr)]
   exact h.hk q hq r hr
 ·rcases List.mem_cons.1 hq with rfl | hq <;> rcases List.mem_cons.1 hr with rfl | hr
  ·rfl
  ·rw[putN_same,putN_other _ (hne r hr)]at e
   have:=olt r hr;omega
  ·rw[putN_same,putN_other _ (hne q hq)]at e
   have:=olt q hq;omega
  ·rw[putN_other _ (hne q hq),putN_other _ (hne r hr)]at e
   exact h.hh q hq r hr e
 ·rcases List.mem_cons.1 hq with rfl | hq <;> rcases List.mem_cons.1 hr with rfl | hr
  ·rfl
  ·rw[putN_same,putN_other _ (hne r hr)]at e
   have:=olt r hr;omega
  ·rw[putN_same,putN_other _ (hne q hq)]at e
   have:=olt q hq;omega
  ·rw[putN_other _ (hne q hq),putN_other _ (hne r hr)]at e
   exact h.kk q hq r hr e
end
/-- Where the loop of at is. -/
structure AtIn (S:List Path)(p:Path)(W wr:World):Prop where
 mem:p∈S
 eq:wr=W
theorem take_snoc {p:Path}{k:Nat}(h:k < p.length):p.take (k+1)=p.take k++ [p[k]]:=List.take_succ_eq_append_getElem h
set_option maxRecDepth 100000 in
set_option maxHeartbeats 1000000 in
theorem mtAt_no (W:World)(B:Nat)(S:List Path)(E:Path→List UInt8→Option Sb)(N:Path→Nd)(T:TreeAt W B S E N)(p:Path)(A:Option Addr)(c:Nat)(hL:Lies W W.heap.size A (txL p))(hs:∀x∈p,x.length≤100000)(hl:p.length≤100000):
  Calls Tryz.prog 36 #[ptr0 (N []).b,.slice A p.length c,.bool false] W fun e w' =>∃n,e= .returned (ptr0 n.b)∧((p∈S∧n=N p∧w' =W)∨(p∉S∧FreshNd W w' n)):=by
 have HT:=zh T;have HL:=zh hL;have HS:=zh hs;have HP:=zh (show AtIn S (p.take 0) W W from⟨T.root,rfl⟩);clear T hL hs
 go_enter Tryz.func36,Tryz.ntmps36
 go_wp2_with fail
 go_loopw [0,12] (fun n i wr=>∃k:Nat,k≤p.length∧i= .int .i64 k∧n=ptr0 (N (p.take k)).b∧Hid (AtIn S (p.take k) W wr)) (fun _ i _=>p.length - (intOf i).toNat)
 case atStart=>exact⟨0,by omega,rfl,rfl,HP⟩
 case round=>
  clear HP;obtain⟨k,hk,rfl,rfl,HR⟩:=hrel;obtain⟨hin,rfl⟩:=HR.out;have HI:=zh hin;clear HR hin
  by_cases hlt:k < p.length
  ·obtain⟨g,o,rfl,hb,hcx⟩:=HL.out.at_ (k:=k) (by simpa using hlt)
   rw[List.getElem_map]at hcx;have HX:=zh (take_snoc hlt);have HXL:=zh (HS.out p[k] (List.getElem_mem hlt))
   generalize p[k]=x at*
   have c1:=(HT.out.row _ HI.out).cell 1;simp only[ndRow,zga,zgz,zgs]at c1;have hlk:=HT.out.kid HI.out HXL.out;obtain⟨X,hX⟩:∃S:ByteArray,(⟨x.toArray⟩:ByteArray)=S:=⟨_,rfl⟩;rw[hX]at hcx hlk;clear hX
   by_cases hm:p.take k++ [x]∈S
   ·rw[if_pos hm]at hlk
    have HM:=zh hm;clear hm
    go_wp2_with fail
    refine⟨⟨k+1,by omega,by go_num,by rw[HX.out],zh ⟨by rw[HX.out];exact HM.out,rfl⟩⟩,by simp[intOf];omega⟩
   ·rw[if_neg hm]at hlk
    have HM:=zh (show p∉S from fun e=>hm (by
     rw[←HX.out];refine HT.out.pre (p.drop (k+1)) ?_;rw[List.take_append_drop];exact e))
    clear hm
    go_wp2_with fail
    refine(mtFresh_any wr).mono ?_;rintro e w1 ⟨n,rfl,hf⟩
    go_wp2_with fail
    go_ret;exact⟨n,rfl,.inr ⟨HM.out,hf⟩⟩
  ·obtain rfl:k=p.length:=by omega
   have HI2:=zh (show p∈S by have:=HI.out;rwa [List.take_length]at this)
   go_wp2_with fail
   go_ret;exact⟨N p,by rw[List.take_length];rfl,.inl ⟨HI2.out,rfl,rfl⟩⟩
/-- What the way that makes has made so far. -/
structure AtUp (W wr:World)(B:Nat)(S:List Path)(E:Path→List UInt8→Option Sb)(N:Path→Nd)(p:Path)(S' :List Path)(N' :Path→Nd):Prop where
 tree:TreeAt wr B S' E N'
 mem:∀q,q∈S' ↔q∈S∨q <+:p
 old:∀q∈S,N' q=N q
 new:∀q∈S',q∉S→W.heap.size≤(N' q).b∧W.heap.size≤(N' q).h∧W.heap.size≤(N' q).k
 k:Keeps W wr (mks S N)
 le:S'.length≤S.length+p.length
theorem AtUp.here {W wr:World}{B:Nat}{S S' :List Path}{E:Path→List UInt8→Option Sb}{N N' :Path→Nd}{p:Path}(h:AtUp W wr B S E N p S' N'):p∈S' :=(h.mem p).2 (.inr (List.prefix_refl p))
theorem AtUp.base {W wr:World}{B:Nat}{S S' :List Path}{E:Path→List UInt8→Option Sb}{N N' :Path→Nd}{p:Path}(h:AtUp W wr B S E N p S' N'):∀s∈bks S' N',s∈bks S N∨W.heap.size≤s:=by
 intro s hs;obtain⟨q,hq,hs⟩:=mem_bks.1 hs
 by_cases hm:q∈S
 ·left
  rw[h.old q hm]at hs;exact mem_bks.2 ⟨q,hm,hs⟩
 ·right
  have:=h.new q hq hm
  rcases hs with rfl | rfl | rfl <;> omega
theorem pre_snoc_iff {q p:Path}{x:List UInt8}:q <+:p++ [x]↔q <+:p∨q=p++ [x]:=by
 constructor
 ·intro h
  rcases List.prefix_concat_iff.1 (by simpa [List.concat_eq_append]using h)with h | h
  ·exact .inr (by simpa [List.concat_eq_append]using h)
  ·exact .inl h
 ·rintro(h | rfl)
  ·exact h.trans (List.prefix_append _ _)
  ·exact List.prefix_refl _
theorem AtUp.kid {W wr:World}{B:Nat}{S S' :List Path}{E:Path→List UInt8→Option Sb}{N N' :Path→Nd}{p:Path}(h:AtUp W wr B S E N p S' N'){x:List UInt8}(hx:p++ [x]∈S'):AtUp W wr B S E N (p++ [x]) S' N' :=by
 have hS:p++ [x]∈S:=by
  rcases(h.mem _).1 hx with h1 | h1
  ·exact h1
  ·have:=h1.length_le
   rw[List.length_append,List.length_singleton]at this;omega
 refine⟨h.tree,fun q=> ?_,h.old,h.new,h.k,by have:=h.le;simp;omega⟩;rw[h.mem,pre_snoc_iff]
 constructor
 ·rintro(h1 | h1)
  ·exact .inl h1
  ·exact .inr (.inl h1)
 ·rintro(h1 | h1 | rfl)
  ·exact .inl h1
  ·exact .inr h1
  ·exact .inl hS
section
variable {W W' :World} {B:Nat} {S:List Path} {E:Path→List UInt8→Option Sb} {N:Path→Nd}
theorem mks_row (h:TreeAt W B S E N)(hk:Keeps W W' (mks S N)){g:Nat}{t:TypeId}{cs:Array Value}(hr:Row W g t cs):Row W' g t cs:=hr.keep hk fun e=>by
 obtain⟨q,hq,e | e⟩:=mem_mks.1 e
 ·exact smap_ne_row (h.here q hq) hr e.symm
 ·exact smap_ne_row (h.kids q hq) hr e.symm
/-- Values in a row of cells stay where only maps turn. -/
theorem lies_map {Z:Nat}(h:TreeAt W B S E N)(hk:Keeps W W' (mks S N)){A:Option Addr}{xs:List Value}(hL:Lies W Z A xs)(hZ:Z≤W.heap.size):Lies W' Z A xs:=fun hp=>by
 obtain⟨b,o,e,hb,hc⟩:=hL hp;refine⟨b,o,e,hb,fun i u hu=> ?_⟩;have h0:=hc i u hu;rw[←h0];refine hk.cell (p:=⟨b,o+i,none⟩) (by show b < _;omega) fun hm=> ?_
 have:∀f,SMap W Tryz.prog 9 b f→False:=fun f hf=>by
  obtain⟨D,⟨es,clock,hb',_⟩,_⟩:=hf;unfold World.cell? at h0;simp[hb']at h0
 obtain⟨q,hq,e | e⟩:=mem_mks.1 hm
 ·exact this _ (e▸h.here q hq)
 ·exact this _ (e▸h.kids q hq)
end
theorem AtUp.grow {W wr w1 w2:World}{B:Nat}{S S' :List Path}{E:Path→List UInt8→Option Sb}{N N' :Path→Nd}{p:Path}(h:AtUp W wr B S E N p S' N'){x:List UInt8}(hx:p++ [x]∉S'){n:Nd}(hf:FreshNd wr w1 n)(hB:B≤W.heap.size)(hE:∀q,q∉S→∀c,E q c=none)(hl:S'.length+1≤2000000)
  (hm:KidsM w2 (N' p).k (fun y=>if y=x then some n.b else if p++ [y]∈S' then some (N' (p++ [y])).b else none)) (hk:Keeps w1 w2 [(N' p).k]):
  AtUp W w2 B S E N (p++ [x]) ((p++ [x])::S') (putN N' (p++ [x]) n):=by
 have hxS:p++ [x]∉S:=fun e=>hx ((h.mem _).2 (.inl e))
 have hsz:=h.k.size;refine⟨h.tree.grow h.here hx hf (by omega) (hE _ hxS) hl hm hk,fun q=> ?_,fun q hq=> ?_,fun q hq hn=> ?_, ?_, ?_⟩
 ·rw[List.mem_cons,h.mem,pre_snoc_iff]
  constructor
  ·rintro(h1 | h1 | h1)
   ·exact .inr (.inr h1)
   ·exact .inl h1
   ·exact .inr (.inl h1)
  ·rintro(h1 | h1 | h1)
   ·exact .inr (.inl h1)
   ·exact .inr (.inr h1)
   ·exact .inl h1
 ·rw[putN_other _ (fun e=>hxS (by rw[←e];exact hq))]
  exact h.old q hq
 ·rcases List.mem_cons.1 hq with rfl | hq
  ·rw[putN_same]
   have h2:=hf.hb;have h3:=hf.hh;have h4:=hf.hk;exact⟨by omega,by omega,by omega⟩
  ·rw[putN_other _ (fun e=>hx (by rw[←e];exact hq))]
   exact h.new q hq hn
 ·refine(h.k.then_ hf.k).trans hk fun y hy hlt=> ?_
  obtain rfl:=List.mem_singleton.1 hy
  by_cases hp:p∈S
  ·rw[h.old p hp]
   exact mem_mks.2 ⟨p,hp,.inr rfl⟩
  ·have:=(h.new p h.here hp).2.2
   omega
 ·have:=h.le
  simp;omega
set_option maxRecDepth 100000 in
set_option maxHeartbeats 1000000 in
theorem mtAt_yes (W:World)(B:Nat)(S:List Path)(E:Path→List UInt8→Option Sb)(N:Path→Nd)(T:TreeAt W B S E N)(hB:B≤W.heap.size)(hE:∀q,q∉S→∀c,E q c=none)(p:Path)(A:Option Addr)(c:Nat)(hL:Lies W W.heap.size A (txL p))(hs:∀x∈p,x.length≤100000)(hl:p.length≤100000)(hsl:S.length≤1000000):
  Calls Tryz.prog 36 #[ptr0 (N []).b,.slice A p.length c,.bool true] W fun e w' =>∃S' N',e= .returned (ptr0 (N' p).b)∧AtUp W w' B S E N p S' N' :=by
 have HE:=zh hE;have HL:=zh hL;have HS:=zh hs;have HB:=zh (And.intro hB hsl);have HT:=zh T;have HP:=zh (show AtUp W W B S E N (p.take 0) S N from⟨T,fun q=>⟨.inl,fun h=>h.elim id fun h=>by rw[ztz,List.prefix_nil]at h;rw[h];exact T.root⟩,fun _ _=>rfl,fun _ h1 h2=>absurd h1 h2,Keeps.refl _ _,by omega⟩);clear T hL hs hE hB hsl
 go_enter Tryz.func36,Tryz.ntmps36
 go_wp2_with fail
 go_loopw [0,12] (fun n i wr=>∃(k:Nat) (S' :List Path) (N' :Path→Nd),k≤p.length∧i= .int .i64 k∧n=ptr0 (N' (p.take k)).b∧Hid (AtUp W wr B S E N (p.take k) S' N')) (fun _ i _=>p.length - (intOf i).toNat)
 case atStart=>exact⟨0,S,N,by omega,rfl,rfl,HP⟩
 case round=>
  clear HP;obtain⟨k,S',N',hk,rfl,rfl,HR⟩:=hrel
  by_cases hlt:k < p.length
  ·have HLr:=zh (lies_map HT.out HR.out.k HL.out (Nat.le_refl _))
   obtain⟨g,o,rfl,hb,hcx⟩:=HLr.out.at_ (k:=k) (by simpa using hlt);rw[List.getElem_map]at hcx;have HX:=zh (take_snoc hlt);have HXL:=zh (HS.out p[k] (List.getElem_mem hlt))
   generalize p[k]=x at*
   have c1:=(HR.out.tree.row _ HR.out.here).cell 1;simp only[ndRow,zga,zgz,zgs]at c1;have hlk:=HR.out.tree.kid HR.out.here HXL.out
   by_cases hm:p.take k++ [x]∈S'
   ·rw[if_pos hm]at hlk
    have HN:=zh (show AtUp W wr B S E N (p.take (k+1)) S' N' by rw[HX.out];exact HR.out.kid hm);obtain⟨X,hX⟩:∃S:ByteArray,(⟨x.toArray⟩:ByteArray)=S:=⟨_,rfl⟩;rw[hX]at hcx hlk;clear hX hm
    go_wp2_with fail
    exact⟨⟨k+1,S',N',by omega,by go_num,by rw[HX.out],HN⟩,by simp[intOf];omega⟩
   ·rw[if_neg hm]at hlk
    have HM:=zh hm;obtain⟨X,hX⟩:∃S:ByteArray,(⟨x.toArray⟩:ByteArray)=S:=⟨_,rfl⟩;have HXX:=zh hX;rw[hX]at hcx hlk;clear hX hm
    go_wp2_with fail
    refine(mtFresh_any wr).mono ?_;rintro e w1 ⟨n,rfl,hf⟩;have HF:=zh hf;clear hf hlk;have d1:=((HR.out.tree.row _ HR.out.here).keeps HF.out.k).cell 1;simp only[ndRow,zga,zgz,zgs]at d1;obtain⟨ks,hks,hkl⟩:=HR.out.tree.kidKeys (p.take k);obtain⟨w2,hrun,hm2,hk2,_⟩:=((HR.out.tree.kids _ HR.out.here).keeps HF.out.k).store mtUndStr mtUndKids hks hkl (x:=x) (by have:=HXL.out;simp[maxLen];omega) (ptr0 n.b);rw[show txk x= .string X by rw[←HXX.out]]at hrun;have HN:=zh (show AtUp W w2 B S E N (p.take (k+1)) ((p.take k++ [x])::S') (putN N' (p.take k++ [x]) n)by
     rw[HX.out];refine HR.out.grow HM.out HF.out HB.out.1 HE.out ?_ (hm2.congr fun y=> ?_) hk2
     ·have h1:=HR.out.le
      have h2:=HB.out.2;rw[List.length_take]at h1;omega
     ·unfold updS
      by_cases hy:y=x <;> simp[hy])
    clear hm2 hk2 hks hkl
    go_wp2_with fail
    exact⟨⟨k+1,_,_,by omega,by go_num,by rw[HX.out,putN_same],HN⟩,by simp[intOf];omega⟩
  ·obtain rfl:k=p.length:=by omega
   have HN:=zh (show AtUp W wr B S E N p S' N' by have:=HR.out;rwa [List.take_length]at this)
   go_wp2_with fail
   go_ret;exact⟨S',N',by rw[List.take_length];rfl,HN.out⟩
end Go.Proofs.YtoadlafdeoklbaaGreatDoor

namespace Go.Proofs.YtoadlafdeoklbaaGreatDoor
open Go.RowKit

section
variable {P:Program}
/-- The order as it is written is one of those that may be drawn. -/
def lineB (ops:Array Oper):Bool:=decide (Region.linearise.go .any ops ops.size 0 (Array.replicate ops.size false) []=List.range ops.size)
end

theorem opOk_load {P:Program}{R:World→World→Prop}{ops:Array Oper}{a:Act}{o:Oper}{φ:Value→World→Prop}{W:World}(hw:Region.wanted o (yielded ops a.tmps)=true){t:TypeId}{x:Operand}(ho:o.op= .load t x){g:Nat}{cs:List Value}{d:TypeDesc}(hx:a.eval x= .pointer (some ⟨g,0,none⟩))(hc:W.rangeAt g 0 cs)(hu:P.underlying t=some d)(hd:d.isRow=true)(hi:(P.info? t).map (·.size)=some cs.length)(hR:R W W)(hφ:φ (.agg cs.toArray) W):opOk P R ops a o φ W:=by
 refine⟨?_⟩;rw[if_pos hw];unfold execOp;simp only[ho,hx,Instr.loadAt,Instr.sureAddr,Sem.run_bind,Sem.run_pure,Result.andThen_ok,run_loadVar_mid W g 0 t cs d hc hu hd hi];exact⟨hR,hφ⟩

section
variable {P:Program} {w0:World} {ops:Array Oper} {a0:Act} {Q:List Ent→Prop} {o:Oper} {rest:List Oper} {env:List Ent}
/-- One that computes. -/
theorem loose_q (v:Value)(hw:∀vals:Tmp→Value,Region.wanted o (yielded ops (fill vals env a0).tmps)=true)(h:∀(W:World) (vals:Tmp→Value),(execOp (fill vals env a0).eval o).run P W= .ok (.value v) W)
  (hk:wpLoose P KeepsAll w0 ops a0 Q rest (addEnt o.dst (some v) [] (fun _ _ _=>True) env)):wpLoose P KeepsAll w0 ops a0 Q (o::rest) env:=
 loose_is v (fun W vals _ _=>⟨by rw[if_pos (hw vals),h];exact⟨Keeps.refl _ _,rfl⟩⟩) hk
theorem run_load_one {t:TypeId}{ad:Addr}{v:Value}{W:World}(ht:∀W,(isAgg t).run P W= .ok false W)(hc:W.cell? ad=some v):(Instr.loadAt t (.pointer (some ad))).run P W= .ok v W:=by
 simp[Instr.loadAt,Instr.sureAddr,loadVar,ht,go_sem,hc]
/-- One that reads a cell. -/
theorem loose_ql (t:TypeId)(x:Operand)(ad:Addr)(v:Value)(ho:o.op= .load t x)(hw:∀vals:Tmp→Value,Region.wanted o (yielded ops (fill vals env a0).tmps)=true)(hx:∀vals,(fill vals env a0).eval x= .pointer (some ad))(ht:∀W,(isAgg t).run P W= .ok false W)(hc:∀W,KeepsAll w0 W→W.cell? ad=some v)
  (hk:wpLoose P KeepsAll w0 ops a0 Q rest (addEnt o.dst (some v) [] (fun _ _ _=>True) env)):wpLoose P KeepsAll w0 ops a0 Q (o::rest) env:=
 loose_is v (fun W vals hW _=>⟨by
  rw[if_pos (hw vals)];unfold execOp;simp only[ho,hx,Sem.run_bind,run_load_one ht (hc W hW),Result.andThen_ok,Sem.run_pure];exact⟨Keeps.refl _ _,rfl⟩⟩) hk
/-- One that reads a whole row. -/
theorem loose_qw (t:TypeId)(x:Operand)(g:Nat)(cs:List Value){d:TypeDesc}(ho:o.op= .load t x)(hu:P.underlying t=some d)(hd:d.isRow=true)(hi:(P.info? t).map (·.size)=some cs.length)(hw:∀vals:Tmp→Value,Region.wanted o (yielded ops (fill vals env a0).tmps)=true)(hx:∀vals,(fill vals env a0).eval x= .pointer (some ⟨g,0,none⟩))(hc:∀W,KeepsAll w0 W→W.rangeAt g 0 cs)
  (hk:wpLoose P KeepsAll w0 ops a0 Q rest (addEnt o.dst (some (.agg cs.toArray)) [] (fun _ _ _=>True) env)):wpLoose P KeepsAll w0 ops a0 Q (o::rest) env:=
 loose_is (.agg cs.toArray) (fun W vals hW _=>opOk_load (hw vals) ho (hx vals) (hc W hW) hu hd hi (Keeps.refl _ _) rfl) hk
/-- The same, the kernel's part filled in. -/
theorem lq (v:Value)(hk:wpLoose P KeepsAll w0 ops a0 Q rest (addEnt o.dst (some v) [] (fun _ _ _=>True) env))
  (hw:∀vals:Tmp→Value,Region.wanted o (yielded ops (fill vals env a0).tmps)=true:=by intro _;kernel_rfl) (h:∀(W:World) (vals:Tmp→Value),(execOp (fill vals env a0).eval o).run P W= .ok (.value v) W:=by intro _ _;kernel_rfl):wpLoose P KeepsAll w0 ops a0 Q (o::rest) env:=loose_q v hw h hk
theorem ll (t:TypeId)(x:Operand)(ad:Addr)(v:Value)(hc:∀W,KeepsAll w0 W→W.cell? ad=some v)(hk:wpLoose P KeepsAll w0 ops a0 Q rest (addEnt o.dst (some v) [] (fun _ _ _=>True) env))(ho:o.op= .load t x:=by rfl)
  (hw:∀vals:Tmp→Value,Region.wanted o (yielded ops (fill vals env a0).tmps)=true:=by intro _;kernel_rfl) (hx:∀vals,(fill vals env a0).eval x= .pointer (some ad):=by intro _;kernel_rfl) (ht:∀W,(isAgg t).run P W= .ok false W:=by intro _;kernel_rfl):wpLoose P KeepsAll w0 ops a0 Q (o::rest) env:=loose_ql t x ad v ho hw hx ht hc hk
theorem lw (t:TypeId)(x:Operand)(g:Nat)(cs:List Value){d:TypeDesc}(hu:P.underlying t=some d)(hc:∀W,KeepsAll w0 W→W.rangeAt g 0 cs)(hk:wpLoose P KeepsAll w0 ops a0 Q rest (addEnt o.dst (some (.agg cs.toArray)) [] (fun _ _ _=>True) env))(ho:o.op= .load t x:=by rfl)(hd:d.isRow=true:=by rfl)(hi:(P.info? t).map (·.size)=some cs.length:=by kernel_rfl)
  (hw:∀vals:Tmp→Value,Region.wanted o (yielded ops (fill vals env a0).tmps)=true:=by intro _;kernel_rfl) (hx:∀vals,(fill vals env a0).eval x= .pointer (some ⟨g,0,none⟩):=by intro _;kernel_rfl):wpLoose P KeepsAll w0 ops a0 Q (o::rest) env:=loose_qw t x g cs ho hu hd hi hw hx hc hk
end
end Go.Proofs.YtoadlafdeoklbaaGreatDoor
