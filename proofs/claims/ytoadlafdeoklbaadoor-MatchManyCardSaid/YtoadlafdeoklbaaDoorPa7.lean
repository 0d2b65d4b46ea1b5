/- Package topic, plain: a name meets itself and nothing else; a name with signs. Package match, plain: entries as a list in order. -/
import Derived.Test.YtoadlafdeoklbaaDoorPa6

namespace Go.Proofs.YtoadlafdeoklbaaDoor
open Go

def tOwn (s:List UInt8):Bool:=pre1 36 s
/-- What is wanted of a name with a sign at a level. -/
def tWant (s:List UInt8)(k:Nat):Bool:= !tOwn s || decide (0 < k)

/-- An entry. -/
structure Sb where
 f:List UInt8
 c:List UInt8
 q:Int
deriving DecidableEq
/-- Bytes ahead of others. -/
theorem bl_iff:∀a b:List UInt8,Op.bytesLess a b=true↔a < b
 | [], []=>by simp[Op.bytesLess]
 | _::_, []=>by simp[Op.bytesLess]
 | [],_::_=>by simp[Op.bytesLess]
 | a::x,b::y=>by
  rw[Op.bytesLess,List.cons_lt_cons_iff];simp[bl_iff x y]
theorem bl_irrefl (a:List UInt8):Op.bytesLess a a=false:=by
 rw[←Bool.not_eq_true,bl_iff];exact List.lt_irrefl a
theorem bl_trans {a b c:List UInt8}(h:Op.bytesLess a b=true)(g:Op.bytesLess b c=true):Op.bytesLess a c=true:=by
 rw[bl_iff]at*;exact List.lt_trans h g
theorem bl_tri (a b:List UInt8):Op.bytesLess a b=true∨a=b∨Op.bytesLess b a=true:=by
 rw[bl_iff,bl_iff]
 by_cases h:a < b
 ·exact .inl h
 ·by_cases g:b < a
  ·exact .inr (.inr g)
  ·exact .inr (.inl (List.le_antisymm (List.not_lt.1 g) (List.not_lt.1 h)))
theorem bl_asymm {a b:List UInt8}(h:Op.bytesLess a b=true):Op.bytesLess b a=false:=by
 cases g:Op.bytesLess b a with
 | false=>rfl
 | true=>
  have:=bl_trans h g;rw[bl_irrefl]at this
  cases this
/-- Keys. -/
def kLt (f c g d:List UInt8):Bool:=Op.bytesLess f g || (f==g && Op.bytesLess c d)
theorem kLt_iff {f c g d:List UInt8}:kLt f c g d=true↔Op.bytesLess f g=true∨(f=g∧Op.bytesLess c d=true):=by simp[kLt]
theorem kLt_irrefl (f c:List UInt8):kLt f c f c=false:=by simp[kLt,bl_irrefl]
theorem kLt_trans {f c g d h e:List UInt8}(h1:kLt f c g d=true)(h2:kLt g d h e=true):kLt f c h e=true:=by
 rw[kLt_iff]at*
 rcases h1 with h1 | ⟨rfl,h1⟩ <;> rcases h2 with h2 | ⟨rfl,h2⟩
 ·exact .inl (bl_trans h1 h2)
 ·exact .inl h1
 ·exact .inl h2
 ·exact .inr ⟨rfl,bl_trans h1 h2⟩
theorem kLt_tri (f c g d:List UInt8):kLt f c g d=true∨(f=g∧c=d)∨kLt g d f c=true:=by
 rw[kLt_iff,kLt_iff]
 rcases bl_tri f g with h | rfl | h
 ·exact .inl (.inl h)
 ·rcases bl_tri c d with g | rfl | g
  ·exact .inl (.inr ⟨rfl,g⟩)
  ·exact .inr (.inl ⟨rfl,rfl⟩)
  ·exact .inr (.inr (.inr ⟨rfl,g⟩))
 ·exact .inr (.inr (.inl h))
theorem kLt_asymm {f c g d:List UInt8}(h:kLt f c g d=true):kLt g d f c=false:=by
 cases g1:kLt g d f c with
 | false=>rfl
 | true=>
  have:=kLt_trans h g1;rw[kLt_irrefl]at this
  cases this
def sbLt (a b:Sb):Bool:=kLt a.f a.c b.f b.c
def sbIs (f c:List UInt8)(x:Sb):Bool:=x.f==f && x.c==c
theorem sbIs_iff {f c:List UInt8}{x:Sb}:sbIs f c x=true↔x.f=f∧x.c=c:=by simp[sbIs]
/-- In order, each key once. -/
def SbUp (L:List Sb):Prop:=L.Pairwise fun a b=>sbLt a b=true
theorem SbUp.filter {L:List Sb}(h:SbUp L)(p:Sb→Bool):SbUp (L.filter p):=List.Pairwise.filter p h
theorem SbUp.one {L:List Sb}(h:SbUp L){x y:Sb}(hx:x∈L)(hy:y∈L)(hf:x.f=y.f)(hc:x.c=y.c):x=y:=by
 induction L with
 | nil=>cases hx
 | cons u L ih=>
  obtain⟨h1,h2⟩:=List.pairwise_cons.1 h;have no:∀z∈L,¬(u.f=z.f∧u.c=z.c):=fun z hz e=>by
   have:=h1 z hz;unfold sbLt at this;rw[e.1,e.2,kLt_irrefl]at this
   cases this
  rcases List.mem_cons.1 hx with e1 | gx <;> rcases List.mem_cons.1 hy with e2 | gy
  ·rw[e1,e2]
  ·exact absurd ⟨by rw[←e1];exact hf,by rw[←e1];exact hc⟩ (no y gy)
  ·exact absurd ⟨by rw[←e2];exact hf.symm,by rw[←e2];exact hc.symm⟩ (no x gx)
  ·exact ih h2 gx gy
/-- Lists in order that have the same members are one. -/
theorem up_ext {α:Type}{lt:α→α→Bool}(irr:∀a,lt a a=false)(asy:∀a b,lt a b=true→lt b a=false):∀{L M:List α},L.Pairwise (fun a b=>lt a b=true)→M.Pairwise (fun a b=>lt a b=true)→(∀x,x∈L↔x∈M)→L=M
 | [], [],_,_,_=>rfl
 | [],b::M,_,_,h=>by have:=(h b).2 (by simp);cases this
 | a::L, [],_,_,h=>by have:=(h a).1 (by simp);cases this
 | a::L,b::M,hL,hM,h=>by
  obtain⟨h1,h2⟩:=List.pairwise_cons.1 hL;obtain⟨g1,g2⟩:=List.pairwise_cons.1 hM;have e:a=b:=by
   rcases List.mem_cons.1 ((h a).1 (by simp))with e | ha
   ·exact e
   ·rcases List.mem_cons.1 ((h b).2 (by simp))with e | hb
    ·exact e.symm
    ·have:=asy _ _ (h1 b hb)
     rw[g1 a ha]at this
     cases this
  subst e;rw[up_ext irr asy h2 g2 fun x=> ?_]
  constructor
  ·intro hx
   rcases List.mem_cons.1 ((h x).1 (List.mem_cons_of_mem _ hx))with rfl | hm
   ·have:=h1 x hx
    rw[irr]at this
    cases this
   ·exact hm
  ·intro hx
   rcases List.mem_cons.1 ((h x).2 (List.mem_cons_of_mem _ hx))with rfl | hm
   ·have:=g1 x hx
    rw[irr]at this
    cases this
   ·exact hm
theorem SbUp.ext {L M:List Sb}(hL:SbUp L)(hM:SbUp M)(h:∀x,x∈L↔x∈M):L=M:=
 up_ext (lt:=sbLt) (fun _=>kLt_irrefl _ _) (fun _ _ h=>kLt_asymm h) hL hM h

/-- Is an entry there? -/
def mtHas (L:List Sb)(f c:List UInt8):Bool:=L.any (sbIs f c)
theorem mtHas_iff {L:List Sb}{f c:List UInt8}:mtHas L f c=true↔∃x∈L,x.f=f∧x.c=c:=by simp[mtHas,sbIs_iff]
def mtSet (L:List Sb)(s:Sb):List Sb:=L.filter (fun x=>kLt x.f x.c s.f s.c)++s::L.filter fun x=>kLt s.f s.c x.f x.c
def mtDrop (L:List Sb)(f c:List UInt8):List Sb:=L.filter fun x=> !sbIs f c x
theorem mem_mtSet {L:List Sb}{s x:Sb}:x∈mtSet L s↔x=s∨(x∈L∧¬(x.f=s.f∧x.c=s.c)):=by
 unfold mtSet;rw[List.mem_append,List.mem_cons,List.mem_filter,List.mem_filter]
 constructor
 ·rintro(⟨h1,h2⟩ | h1 | ⟨h1,h2⟩)
  ·exact .inr ⟨h1,fun e=>by rw[e.1,e.2,kLt_irrefl]at h2;cases h2⟩
  ·exact .inl h1
  ·exact .inr ⟨h1,fun e=>by rw[e.1,e.2,kLt_irrefl]at h2;cases h2⟩
 ·rintro(rfl | ⟨h1,h2⟩)
  ·exact .inr (.inl rfl)
  ·rcases kLt_tri x.f x.c s.f s.c with h | h | h
   ·exact .inl ⟨h1,h⟩
   ·exact absurd h h2
   ·exact .inr (.inr ⟨h1,h⟩)
theorem mem_mtDrop {L:List Sb}{f c:List UInt8}{x:Sb}:x∈mtDrop L f c↔x∈L∧¬(x.f=f∧x.c=c):=by
 unfold mtDrop;rw[List.mem_filter,Bool.not_eq_true',←Bool.not_eq_true,sbIs_iff]
theorem SbUp.set {L:List Sb}(h:SbUp L)(s:Sb):SbUp (mtSet L s):=by
 unfold mtSet SbUp;rw[List.pairwise_append];refine⟨h.filter _,List.pairwise_cons.2 ⟨fun y hy=>(List.mem_filter.1 hy).2,h.filter _⟩,fun a ha b hb=> ?_⟩;have h1:=(List.mem_filter.1 ha).2
 rcases List.mem_cons.1 hb with rfl | hb
 ·exact h1
 ·exact kLt_trans h1 (List.mem_filter.1 hb).2
theorem SbUp.drop {L:List Sb}(h:SbUp L)(f c:List UInt8):SbUp (mtDrop L f c):=h.filter _
/-- How many there are. -/
theorem SbUp.count {L:List Sb}(h:SbUp L)(f c:List UInt8):L.length=(L.filter fun x=>kLt x.f x.c f c).length+(if mtHas L f c=true then 1 else 0)+(L.filter fun x=>kLt f c x.f x.c).length:=by
 induction L with
 | nil=>simp[mtHas]
 | cons a L ih=>
  obtain⟨h1,h2⟩:=List.pairwise_cons.1 h;have ih:=ih h2;unfold mtHas at*;rw[List.any_cons,List.length_cons]
  rcases kLt_tri a.f a.c f c with g | ⟨rfl,rfl⟩ | g
  ·have e1:sbIs f c a=false:=by
    rw[←Bool.not_eq_true,sbIs_iff];rintro⟨rfl,rfl⟩;rw[kLt_irrefl]at g
    cases g
   rw[List.filter_cons_of_pos (p:=fun x:Sb=>kLt x.f x.c f c) g,List.filter_cons_of_neg (p:=fun x:Sb=>kLt f c x.f x.c) (by rw[kLt_asymm g];simp),e1,Bool.false_or,List.length_cons];omega
  ·have e1:sbIs a.f a.c a=true:=sbIs_iff.2 ⟨rfl,rfl⟩
   have e2:L.any (sbIs a.f a.c)=false:=by
    rw[List.any_eq_false];intro x hx;rw[sbIs_iff];rintro⟨e3,e4⟩;have:=h1 x hx;unfold sbLt at this;rw[e3,e4,kLt_irrefl]at this
    cases this
   rw[e2]at ih;rw[List.filter_cons_of_neg (p:=fun x:Sb=>kLt x.f x.c a.f a.c) (by rw[kLt_irrefl];simp),List.filter_cons_of_neg (p:=fun x:Sb=>kLt a.f a.c x.f x.c) (by rw[kLt_irrefl];simp),e1,Bool.true_or,if_pos rfl];rw[if_neg (by simp)]at ih;omega
  ·have e1:sbIs f c a=false:=by
    rw[←Bool.not_eq_true,sbIs_iff];rintro⟨rfl,rfl⟩;rw[kLt_irrefl]at g
    cases g
   rw[List.filter_cons_of_neg (p:=fun x:Sb=>kLt x.f x.c f c) (by rw[kLt_asymm g];simp),List.filter_cons_of_pos (p:=fun x:Sb=>kLt f c x.f x.c) g,e1,Bool.false_or,List.length_cons];omega
theorem SbUp.set_len {L:List Sb}(h:SbUp L)(s:Sb):(mtSet L s).length=L.length+(if mtHas L s.f s.c=true then 0 else 1):=by
 have:=h.count s.f s.c;unfold mtSet;rw[List.length_append,List.length_cons]
 split at this
 ·rw[if_pos (by assumption)]
  omega
 ·rw[if_neg (by assumption)]
  omega
theorem SbUp.drop_eq {L:List Sb}(h:SbUp L)(f c:List UInt8):mtDrop L f c=L.filter (fun x=>kLt x.f x.c f c)++L.filter fun x=>kLt f c x.f x.c:=by
 refine(h.drop f c).ext ?_ fun x=> ?_
 ·unfold SbUp
  rw[List.pairwise_append];exact⟨h.filter _,h.filter _,fun a ha b hb=>kLt_trans (List.mem_filter.1 ha).2 (List.mem_filter.1 hb).2⟩
 ·rw[mem_mtDrop,List.mem_append,List.mem_filter,List.mem_filter]
  constructor
  ·rintro⟨h1,h2⟩
   rcases kLt_tri x.f x.c f c with g | g | g
   ·exact .inl ⟨h1,g⟩
   ·exact absurd g h2
   ·exact .inr ⟨h1,g⟩
  ·rintro(⟨h1,h2⟩ | ⟨h1,h2⟩) <;> exact⟨h1,fun e=>by rw[e.1,e.2,kLt_irrefl]at h2;cases h2⟩
theorem SbUp.drop_len {L:List Sb}(h:SbUp L)(f c:List UInt8):(mtDrop L f c).length+(if mtHas L f c=true then 1 else 0)=L.length:=by
 have:=h.count f c;rw[h.drop_eq,List.length_append];omega
/-- The place of an entry in the reference's way. -/
def mtAt (L:List Sb)(f c:List UInt8):Nat:=(L.filter fun x=>kLt x.f x.c f c).length
/-- May a client be? -/
def mtCl (c:List UInt8):Bool:=decide (1≤c.length) && decide (c.length≤23)
def mtSubOk (s:Sb):Bool:=mtCl s.c && (decide (0≤s.q) && decide (s.q≤2))
/-- What Set, Drop, Leave answer. -/
def mtSetA (L:List Sb)(s:Sb):List Sb×Bool×Int:=
 if tFilter s.f=false then(L,false,230)else if mtSubOk s=false then(L,false,2)
 else if mtHas L s.f s.c=false∧4096≤L.length then(L,false,3)else(mtSet L s, !mtHas L s.f s.c,0)
def mtDropA (L:List Sb)(f c:List UInt8):List Sb×Bool×Int:=
 if tFilter f=false then(L,false,230)else if mtCl c=false then(L,false,2)else(mtDrop L f c,mtHas L f c,0)
def mtLeave (L:List Sb)(c:List UInt8):List Sb:=L.filter fun x=> !(x.c==c)
def mtOf (L:List Sb)(c:List UInt8):List Sb:=L.filter fun x=>x.c==c
def mtLeaveA (L:List Sb)(c:List UInt8):List Sb×Nat×Int:=if mtCl c=false then(L,0,2)else(mtLeave L c,(mtOf L c).length,0)
/-- What a book has. -/
structure MtOk (L:List Sb):Prop where
 up:SbUp L
 ok:∀x∈L,tFilter x.f=true∧mtSubOk x=true
 le:L.length≤4096
theorem MtOk.nil:MtOk []:=⟨List.Pairwise.nil,(fun _ h=>by cases h),by simp⟩
theorem MtOk.filter {L:List Sb}(h:MtOk L)(p:Sb→Bool):MtOk (L.filter p):=⟨h.up.filter p,fun x hx=>h.ok x (List.mem_filter.1 hx).1,Nat.le_trans (List.length_filter_le _ _) h.le⟩
theorem MtOk.set {L:List Sb}(h:MtOk L){s:Sb}(h1:tFilter s.f=true)(h2:mtSubOk s=true)(h3:¬(mtHas L s.f s.c=false∧4096≤L.length)):MtOk (mtSet L s):=by
 refine⟨h.up.set s,fun x hx=> ?_, ?_⟩
 ·rcases mem_mtSet.1 hx with rfl | ⟨hx,_⟩
  ·exact⟨h1,h2⟩
  ·exact h.ok x hx
 ·rw[h.up.set_len]
  split
  ·exact h.le
  ·have:=h.le
   rename_i hh;rw[Bool.not_eq_true]at hh;have:¬4096≤L.length:=fun e=>h3 ⟨hh,e⟩
   omega
end Go.Proofs.YtoadlafdeoklbaaDoor
