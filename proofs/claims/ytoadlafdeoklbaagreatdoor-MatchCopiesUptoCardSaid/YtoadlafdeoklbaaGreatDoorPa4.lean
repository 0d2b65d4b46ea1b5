/- Package topic, plain: levels put together; within is told by what is met. Package topic, plain: where one is not within another, one of its names tells. Package topic, plain: a name meets itself and nothing else; a name with signs. Package match, plain: entries as a list in order. -/
import Derived.Test.YtoadlafdeoklbaaGreatDoorPa3

namespace Go.Proofs.YtoadlafdeoklbaaGreatDoor
open Go

/-- Levels put together. -/
def tJoin:List (List UInt8)→List UInt8
 | []=> []
 | [x]=>x
 | x::y::l=>x++47::tJoin (y::l)
theorem tLev_app (s t:List UInt8):tLev (s++47::t)=tLev s++tLev t:=by
 induction s with
 | nil=>
  show tLev (47::t)= []::tLev t;rw[tLev,if_pos rfl]
 | cons a s ih=>
  by_cases h:a=47
  ·subst h
   rw[List.cons_append,tLev,if_pos rfl,ih,tLev,if_pos rfl];rfl
  ·obtain⟨l,ls,e1,e2⟩:=tLev_other (s:=s) h
   obtain⟨l',ls',e3,e4⟩:=tLev_other (s:=s++47::t) h;rw[ih,e1,List.cons_append]at e3;injection e3 with e5 e6
   rw[List.cons_append,e4,e2,←e5,←e6];rfl
theorem tLev_plain {s:List UInt8}(h:(47:UInt8)∉s):tLev s= [s]:=by
 induction s with
 | nil=>rfl
 | cons a s ih=>
  obtain⟨h1,h2⟩:(47:UInt8)≠a∧(47:UInt8)∉s:=by simpa using h
  obtain⟨l,ls,e1,e2⟩:=tLev_other (s:=s) (Ne.symm h1);rw[ih h2]at e1;injection e1 with e3 e4
  rw[e2,←e3,←e4]
theorem tJoin_lev (s:List UInt8):tJoin (tLev s)=s:=by
 induction s with
 | nil=>rfl
 | cons a s ih=>
  by_cases h:a=47
  ·subst h
   rw[tLev,if_pos rfl]
   cases hs:tLev s with
   | nil=>exact absurd hs (tLev_ne s)
   | cons x l=>
    rw[hs]at ih;rw[tJoin,ih];rfl
  ·obtain⟨l,ls,e1,e2⟩:=tLev_other (s:=s) h
   rw[e1]at ih;rw[e2]
   cases ls with
   | nil=>
    rw[tJoin]at ih ⊢
    rw[ih]
   | cons y ls=>
    rw[tJoin]at ih ⊢
    rw[List.cons_append,ih]
theorem tLev_47 {s x:List UInt8}(h:x∈tLev s):(47:UInt8)∉x:=by
 induction s generalizing x with
 | nil=>simp[tLev]at h;subst h;simp
 | cons a s ih=>
  by_cases e:a=47
  ·rw[tLev,if_pos e]at h
   rcases List.mem_cons.1 h with rfl | h
   ·simp
   ·exact ih h
  ·obtain⟨l,ls,e1,e2⟩:=tLev_other (s:=s) e
   rw[e2]at h
   rcases List.mem_cons.1 h with rfl | h
   ·have:=ih (x:=l) (by rw[e1];simp)
    simpa using And.intro (fun h:(47:UInt8)=a=>e h.symm) this
   ·exact ih (by rw[e1];exact List.mem_cons_of_mem _ h)
theorem tJoin_good {l:List (List UInt8)}(h:uGood (tJoin l)=true):∀x∈l,uGood x=true:=by
 induction l with
 | nil=>intro x hx;cases hx
 | cons x l ih=>
  cases l with
  | nil=>intro y hy;simp at hy;subst hy;exact h
  | cons y l=>
   rw[tJoin]at h;obtain⟨h1,h2⟩:=uGood_cut (by decide) (by decide) h;intro z hz
   rcases List.mem_cons.1 hz with rfl | hz
   ·exact h1
   ·exact ih h2 z hz
theorem tSign_join {l:List (List UInt8)}:tSign (tJoin l)=l.any tSign:=by
 induction l with
 | nil=>rfl
 | cons x l ih=>
  cases l with
  | nil=>simp[tJoin]
  | cons y l=>
   rw[tJoin,List.any_cons,←ih];unfold tSign;rw[List.any_append,List.any_cons];rfl
theorem tName_levels {s:List UInt8}(h:tName s=true):s≠ []∧s.length≤200∧∀x∈tLev s,(47:UInt8)∉x∧uGood x=true∧tSign x=false:=by
 unfold tName tSaid at h;simp only[Bool.and_eq_true,decide_eq_true_eq,Bool.not_eq_true']at h;obtain⟨⟨⟨h1,h2⟩,h3⟩,h4⟩:=h;refine⟨fun e=>by(rw[e]at h1;simp at h1),h2,fun x hx=>⟨tLev_47 hx,tJoin_good (by rw[tJoin_lev];exact h3) x hx, ?_⟩⟩;rw[←tJoin_lev s,tSign_join,List.any_eq_false]at h4
 simpa using h4 x hx
theorem tFilter_levels {s:List UInt8}(h:tFilter s=true):s≠ []∧s.length≤200∧∀x∈tLev s,(47:UInt8)∉x∧uGood x=true:=by
 unfold tFilter tSaid at h;simp only[Bool.and_eq_true,decide_eq_true_eq]at h;obtain⟨⟨⟨h1,h2⟩,h3⟩,_⟩:=h;exact⟨fun e=>by(rw[e]at h1;simp at h1),h2,fun x hx=>⟨tLev_47 hx,tJoin_good (by rw[tJoin_lev];exact h3) x hx⟩⟩
theorem tSign_35:tSign [35]=true:=by decide
theorem tSign_43:tSign [43]=true:=by decide
theorem tOks_cons {x y:List UInt8}{l:List (List UInt8)}:tOks (x::y::l)=(tOk x false && tOks (y::l)):=rfl
theorem tOks_split {L:List (List UInt8)}(h:tOks L=true):∃ay:List (List UInt8),(∀x∈ay,x= [43]∨tSign x=false)∧(L=ay∨L=ay++ [[35]]):=by
 induction L with
 | nil=>exact⟨[],by simp,.inl rfl⟩
 | cons x L ih=>
  cases L with
  | nil=>
   have hx:tOk x true=true:=h;unfold tOk at hx;simp only[Bool.or_eq_true,Bool.and_true,beq_iff_eq,Bool.not_eq_true']at hx
   rcases hx with(hx | hx) | hx
   ·exact⟨[x],by simp[hx],.inl rfl⟩
   ·exact⟨[],by simp,.inr (by rw[hx];rfl)⟩
   ·exact⟨[x],by simp[hx],.inl rfl⟩
  | cons y L=>
   rw[tOks_cons,Bool.and_eq_true]at h;obtain⟨ay,h1,h2⟩:=ih h.2;have hx:=h.1;unfold tOk at hx;simp only[Bool.or_eq_true,Bool.and_false,beq_iff_eq,Bool.not_eq_true',Bool.false_eq_true,or_false]at hx;refine⟨x::ay,fun z hz=> ?_, ?_⟩
   ·rcases List.mem_cons.1 hz with rfl | hz
    ·exact hx
    ·exact h1 z hz
   ·rcases h2 with h2 | h2
    ·exact .inl (by rw[h2])
    ·exact .inr (by rw[h2];rfl)
theorem no35 {ay:List (List UInt8)}(h:∀x∈ay,x= [43]∨tSign x=false): [35]∉ay:=fun hm=>by
 rcases h _ hm with e | e
 ·simp at e
 ·rw[tSign_35]at e;cases e
theorem tFilter_split {a:List UInt8}(h:tFilter a=true):∃ay:List (List UInt8),(∀x∈ay,x= [43]∨tSign x=false)∧(tLev a=ay∨tLev a=ay++ [[35]]):=by
 unfold tFilter at h;rw[Bool.and_eq_true]at h;exact tOks_split h.2
/-- The first level. -/
def hd0 (l:List (List UInt8)):List UInt8:=l.headD []
def pre1 (c:UInt8)(s:List UInt8):Bool:=([c]:List UInt8).isPrefixOf s
theorem pre1_cons (c a:UInt8)(s:List UInt8):pre1 c (a::s)=(c==a):=by
 unfold pre1;simp[List.isPrefixOf]
theorem pre1_lev {c:UInt8}(hc:c≠47)(s:List UInt8):pre1 c s=pre1 c (hd0 (tLev s)):=by
 cases s with
 | nil=>rfl
 | cons a s=>
  by_cases h:a=47
  ·subst h
   rw[tLev,if_pos rfl,pre1_cons]
   simpa [hd0,pre1]using hc
  ·obtain⟨l,ls,e1,e2⟩:=tLev_other (s:=s) h
   rw[e2];show _=pre1 c (a::l);rw[pre1_cons,pre1_cons]
theorem pre1_sign {c:UInt8}{s:List UInt8}(h:pre1 c s=true)(hc:c=43∨c=35):tSign s=true:=by
 cases s with
 | nil=>cases h
 | cons a s=>
  rw[pre1_cons,beq_iff_eq]at h;subst h;unfold tSign;rw[List.any_cons]
  rcases hc with rfl | rfl <;> rfl
theorem starts_iff {f n:List UInt8}(h:tFilter f=true):tStarts f n=true↔(pre1 36 (hd0 (tLev n))=true→hd0 (tLev f)≠ [43]∧hd0 (tLev f)≠ [35]):=by
 obtain⟨ay,h1,h2⟩:=tFilter_split h;have hf:tStarts f n=(!(pre1 36 (hd0 (tLev n))) || (!(pre1 43 (hd0 (tLev f))) && !(pre1 35 (hd0 (tLev f))))):=by
  rw[←pre1_lev (by decide),←pre1_lev (by decide),←pre1_lev (by decide)];rfl
 have hq:∀x:List UInt8,(x= [43]∨x= [35]∨tSign x=false)→((!(pre1 43 x) && !(pre1 35 x))=true↔x≠ [43]∧x≠ [35]):=fun x hx=>by
  rcases hx with rfl | rfl | hx
  ·exact⟨fun h=>absurd h (by decide),fun h=>absurd rfl h.1⟩
  ·exact⟨fun h=>absurd h (by decide),fun h=>absurd rfl h.2⟩
  ·have h43:pre1 43 x=false:=by
    rw[←Bool.not_eq_true];exact fun h=>by rw[pre1_sign h (.inl rfl)]at hx;cases hx
   have h35:pre1 35 x=false:=by
    rw[←Bool.not_eq_true];exact fun h=>by rw[pre1_sign h (.inr rfl)]at hx;cases hx
   rw[h43,h35];exact⟨fun _=>⟨fun e=>by(rw[e,tSign_43]at hx;cases hx),fun e=>by(rw[e,tSign_35]at hx;cases hx)⟩,fun _=>rfl⟩
 have hx:hd0 (tLev f)= [43]∨hd0 (tLev f)= [35]∨tSign (hd0 (tLev f))=false:=by
  have key:∀l:List (List UInt8),(∀x∈l,x= [43]∨tSign x=false)→hd0 l= [43]∨hd0 l= [35]∨tSign (hd0 l)=false:=fun l hl=>by
   cases l with
   | nil=>exact .inr (.inr rfl)
   | cons y l=>exact(hl y (by simp)).elim .inl (fun h=> .inr (.inr h))
  rcases h2 with h2 | h2
  ·rw[h2];exact key ay h1
  ·rw[h2]
   cases ay with
   | nil=>exact .inr (.inl rfl)
   | cons y l=>exact(h1 y (by simp)).elim .inl (fun h=> .inr (.inr h))
 rw[hf,Bool.or_eq_true,hq _ hx]
 cases pre1 36 (hd0 (tLev n)) <;> simp

def tUnlike (l:List (List UInt8))(k:Nat):List UInt8:=if l[k]? =some [122]then [121]else [122]
/-- Levels with each + as another level than one of a list at its place. -/
def tInst (y:List (List UInt8)):List (List UInt8)→Nat→List (List UInt8)
 | [],_=> []
 | x::l,i=>(if x= [43]then tUnlike y i else x)::tInst y l (i+1)
def Inst:List (List UInt8)→List (List UInt8)→List (List UInt8)→Prop
 | [],_,m=>m= []
 | x::az,b,m=>∃y m',m=y::m' ∧(x= [43]→b.head?≠some y)∧(x≠ [43]→y=x)∧Inst az b.tail m'
/-- The levels of the names that a filter meets. -/
def tBase (y:List (List UInt8)):List (List UInt8)→Nat→List (List UInt8)
 | [],_=> []
 | x::l,i=>if x= [35]then tBase y l (i+1)else(if x= [43]then tUnlike y i else x)::tBase y l (i+1)
def tMore (a:List (List UInt8)):Bool:=a.any fun x=>x== [35]
def tAdd (y m:List (List UInt8)):List (List UInt8):=m++ [tUnlike y m.length]
def tNamesL (x y:List (List UInt8)):List (List UInt8):=tJoin (tBase y x 0)::if tMore x=true then [tJoin (tAdd y (tBase y x 0)),tJoin (tAdd y (tAdd y (tBase y x 0)))]else []
def tNames (a b:List UInt8):List (List UInt8):=tNamesL (tLev a) (tLev b)
structure Wit (a:List UInt8)(y az t m:List (List UInt8))(ns:List (List UInt8)):Prop where
 wide:tWide a=az++t
 tl:t= []∨t= [[35]]
 no: [35]∉az
 inst:Inst az y m
 ok:∀x∈m,(47:UInt8)∉x∧uGood x=true∧tSign x=false
 ne:m≠ []
 l1:1≤(tJoin m).length
 l2:(tJoin m).length≤200
 l3:t= [[35]]→(tJoin m).length+2≤200
 head:pre1 36 (hd0 (tLev a))=pre1 36 (hd0 m)
 hd:pre1 36 (hd0 m)=true→hd0 (tLev a)≠ [43]∧hd0 (tLev a)≠ [35]
 mem:tJoin m∈ns
 mem2:t= [[35]]→tJoin (tAdd y m)∈ns
def tOnly (a b:List UInt8)(n:List UInt8):Bool:=tName n && tMeets a n && !tMeets b n

def tOwn (s:List UInt8):Bool:=pre1 36 s
/-- What is wanted of a name with a sign at a level. -/
def tWant (s:List UInt8)(k:Nat):Bool:= !tOwn s || decide (0 < k)

/-- An entry. -/
structure Sb where
 f:List UInt8
 c:List UInt8
 q:Int
deriving DecidableEq
/-- Bytes ahead of others. -/
theorem bl_iff:∀a b:List UInt8,Op.bytesLess a b=true↔a < b
 | [], []=>by simp[Op.bytesLess]
 | _::_, []=>by simp[Op.bytesLess]
 | [],_::_=>by simp[Op.bytesLess]
 | a::x,b::y=>by
  rw[Op.bytesLess,List.cons_lt_cons_iff];simp[bl_iff x y]
theorem bl_irrefl (a:List UInt8):Op.bytesLess a a=false:=by
 rw[←Bool.not_eq_true,bl_iff];exact List.lt_irrefl a
theorem bl_trans {a b c:List UInt8}(h:Op.bytesLess a b=true)(g:Op.bytesLess b c=true):Op.bytesLess a c=true:=by
 rw[bl_iff]at*;exact List.lt_trans h g
theorem bl_tri (a b:List UInt8):Op.bytesLess a b=true∨a=b∨Op.bytesLess b a=true:=by
 rw[bl_iff,bl_iff]
 by_cases h:a < b
 ·exact .inl h
 ·by_cases g:b < a
  ·exact .inr (.inr g)
  ·exact .inr (.inl (List.le_antisymm (List.not_lt.1 g) (List.not_lt.1 h)))
theorem bl_asymm {a b:List UInt8}(h:Op.bytesLess a b=true):Op.bytesLess b a=false:=by
 cases g:Op.bytesLess b a with
 | false=>rfl
 | true=>
  have:=bl_trans h g;rw[bl_irrefl]at this
  cases this
/-- Keys. -/
def kLt (f c g d:List UInt8):Bool:=Op.bytesLess f g || (f==g && Op.bytesLess c d)
theorem kLt_iff {f c g d:List UInt8}:kLt f c g d=true↔Op.bytesLess f g=true∨(f=g∧Op.bytesLess c d=true):=by simp[kLt]
theorem kLt_irrefl (f c:List UInt8):kLt f c f c=false:=by simp[kLt,bl_irrefl]
theorem kLt_trans {f c g d h e:List UInt8}(h1:kLt f c g d=true)(h2:kLt g d h e=true):kLt f c h e=true:=by
 rw[kLt_iff]at*
 rcases h1 with h1 | ⟨rfl,h1⟩ <;> rcases h2 with h2 | ⟨rfl,h2⟩
 ·exact .inl (bl_trans h1 h2)
 ·exact .inl h1
 ·exact .inl h2
 ·exact .inr ⟨rfl,bl_trans h1 h2⟩
theorem kLt_tri (f c g d:List UInt8):kLt f c g d=true∨(f=g∧c=d)∨kLt g d f c=true:=by
 rw[kLt_iff,kLt_iff]
 rcases bl_tri f g with h | rfl | h
 ·exact .inl (.inl h)
 ·rcases bl_tri c d with g | rfl | g
  ·exact .inl (.inr ⟨rfl,g⟩)
  ·exact .inr (.inl ⟨rfl,rfl⟩)
  ·exact .inr (.inr (.inr ⟨rfl,g⟩))
 ·exact .inr (.inr (.inl h))
theorem kLt_asymm {f c g d:List UInt8}(h:kLt f c g d=true):kLt g d f c=false:=by
 cases g1:kLt g d f c with
 | false=>rfl
 | true=>
  have:=kLt_trans h g1;rw[kLt_irrefl]at this
  cases this
def sbLt (a b:Sb):Bool:=kLt a.f a.c b.f b.c
def sbIs (f c:List UInt8)(x:Sb):Bool:=x.f==f && x.c==c
theorem sbIs_iff {f c:List UInt8}{x:Sb}:sbIs f c x=true↔x.f=f∧x.c=c:=by simp[sbIs]
/-- In order, each key once. -/
def SbUp (L:List Sb):Prop:=L.Pairwise fun a b=>sbLt a b=true
theorem SbUp.filter {L:List Sb}(h:SbUp L)(p:Sb→Bool):SbUp (L.filter p):=List.Pairwise.filter p h
theorem SbUp.one {L:List Sb}(h:SbUp L){x y:Sb}(hx:x∈L)(hy:y∈L)(hf:x.f=y.f)(hc:x.c=y.c):x=y:=by
 induction L with
 | nil=>cases hx
 | cons u L ih=>
  obtain⟨h1,h2⟩:=List.pairwise_cons.1 h;have no:∀z∈L,¬(u.f=z.f∧u.c=z.c):=fun z hz e=>by
   have:=h1 z hz;unfold sbLt at this;rw[e.1,e.2,kLt_irrefl]at this
   cases this
  rcases List.mem_cons.1 hx with e1 | gx <;> rcases List.mem_cons.1 hy with e2 | gy
  ·rw[e1,e2]
  ·exact absurd ⟨by rw[←e1];exact hf,by rw[←e1];exact hc⟩ (no y gy)
  ·exact absurd ⟨by rw[←e2];exact hf.symm,by rw[←e2];exact hc.symm⟩ (no x gx)
  ·exact ih h2 gx gy
/-- Lists in order that have the same members are one. -/
theorem up_ext {α:Type}{lt:α→α→Bool}(irr:∀a,lt a a=false)(asy:∀a b,lt a b=true→lt b a=false):∀{L M:List α},L.Pairwise (fun a b=>lt a b=true)→M.Pairwise (fun a b=>lt a b=true)→(∀x,x∈L↔x∈M)→L=M
 | [], [],_,_,_=>rfl
 | [],b::M,_,_,h=>by have:=(h b).2 (by simp);cases this
 | a::L, [],_,_,h=>by have:=(h a).1 (by simp);cases this
 | a::L,b::M,hL,hM,h=>by
  obtain⟨h1,h2⟩:=List.pairwise_cons.1 hL;obtain⟨g1,g2⟩:=List.pairwise_cons.1 hM;have e:a=b:=by
   rcases List.mem_cons.1 ((h a).1 (by simp))with e | ha
   ·exact e
   ·rcases List.mem_cons.1 ((h b).2 (by simp))with e | hb
    ·exact e.symm
    ·have:=asy _ _ (h1 b hb)
     rw[g1 a ha]at this
     cases this
  subst e;rw[up_ext irr asy h2 g2 fun x=> ?_]
  constructor
  ·intro hx
   rcases List.mem_cons.1 ((h x).1 (List.mem_cons_of_mem _ hx))with rfl | hm
   ·have:=h1 x hx
    rw[irr]at this
    cases this
   ·exact hm
  ·intro hx
   rcases List.mem_cons.1 ((h x).2 (List.mem_cons_of_mem _ hx))with rfl | hm
   ·have:=g1 x hx
    rw[irr]at this
    cases this
   ·exact hm
theorem SbUp.ext {L M:List Sb}(hL:SbUp L)(hM:SbUp M)(h:∀x,x∈L↔x∈M):L=M:=
 up_ext (lt:=sbLt) (fun _=>kLt_irrefl _ _) (fun _ _ h=>kLt_asymm h) hL hM h

/-- Is an entry there? -/
def mtHas (L:List Sb)(f c:List UInt8):Bool:=L.any (sbIs f c)
theorem mtHas_iff {L:List Sb}{f c:List UInt8}:mtHas L f c=true↔∃x∈L,x.f=f∧x.c=c:=by simp[mtHas,sbIs_iff]
def mtSet (L:List Sb)(s:Sb):List Sb:=L.filter (fun x=>kLt x.f x.c s.f s.c)++s::L.filter fun x=>kLt s.f s.c x.f x.c
def mtDrop (L:List Sb)(f c:List UInt8):List Sb:=L.filter fun x=> !sbIs f c x
theorem mem_mtSet {L:List Sb}{s x:Sb}:x∈mtSet L s↔x=s∨(x∈L∧¬(x.f=s.f∧x.c=s.c)):=by
 unfold mtSet;rw[List.mem_append,List.mem_cons,List.mem_filter,List.mem_filter]
 constructor
 ·rintro(⟨h1,h2⟩ | h1 | ⟨h1,h2⟩)
  ·exact .inr ⟨h1,fun e=>by rw[e.1,e.2,kLt_irrefl]at h2;cases h2⟩
  ·exact .inl h1
  ·exact .inr ⟨h1,fun e=>by rw[e.1,e.2,kLt_irrefl]at h2;cases h2⟩
 ·rintro(rfl | ⟨h1,h2⟩)
  ·exact .inr (.inl rfl)
  ·rcases kLt_tri x.f x.c s.f s.c with h | h | h
   ·exact .inl ⟨h1,h⟩
   ·exact absurd h h2
   ·exact .inr (.inr ⟨h1,h⟩)
theorem mem_mtDrop {L:List Sb}{f c:List UInt8}{x:Sb}:x∈mtDrop L f c↔x∈L∧¬(x.f=f∧x.c=c):=by
 unfold mtDrop;rw[List.mem_filter,Bool.not_eq_true',←Bool.not_eq_true,sbIs_iff]
theorem SbUp.set {L:List Sb}(h:SbUp L)(s:Sb):SbUp (mtSet L s):=by
 unfold mtSet SbUp;rw[List.pairwise_append];refine⟨h.filter _,List.pairwise_cons.2 ⟨fun y hy=>(List.mem_filter.1 hy).2,h.filter _⟩,fun a ha b hb=> ?_⟩;have h1:=(List.mem_filter.1 ha).2
 rcases List.mem_cons.1 hb with rfl | hb
 ·exact h1
 ·exact kLt_trans h1 (List.mem_filter.1 hb).2
theorem SbUp.drop {L:List Sb}(h:SbUp L)(f c:List UInt8):SbUp (mtDrop L f c):=h.filter _
/-- How many there are. -/
theorem SbUp.count {L:List Sb}(h:SbUp L)(f c:List UInt8):L.length=(L.filter fun x=>kLt x.f x.c f c).length+(if mtHas L f c=true then 1 else 0)+(L.filter fun x=>kLt f c x.f x.c).length:=by
 induction L with
 | nil=>simp[mtHas]
 | cons a L ih=>
  obtain⟨h1,h2⟩:=List.pairwise_cons.1 h;have ih:=ih h2;unfold mtHas at*;rw[List.any_cons,List.length_cons]
  rcases kLt_tri a.f a.c f c with g | ⟨rfl,rfl⟩ | g
  ·have e1:sbIs f c a=false:=by
    rw[←Bool.not_eq_true,sbIs_iff];rintro⟨rfl,rfl⟩;rw[kLt_irrefl]at g
    cases g
   rw[List.filter_cons_of_pos (p:=fun x:Sb=>kLt x.f x.c f c) g,List.filter_cons_of_neg (p:=fun x:Sb=>kLt f c x.f x.c) (by rw[kLt_asymm g];simp),e1,Bool.false_or,List.length_cons];omega
  ·have e1:sbIs a.f a.c a=true:=sbIs_iff.2 ⟨rfl,rfl⟩
   have e2:L.any (sbIs a.f a.c)=false:=by
    rw[List.any_eq_false];intro x hx;rw[sbIs_iff];rintro⟨e3,e4⟩;have:=h1 x hx;unfold sbLt at this;rw[e3,e4,kLt_irrefl]at this
    cases this
   rw[e2]at ih;rw[List.filter_cons_of_neg (p:=fun x:Sb=>kLt x.f x.c a.f a.c) (by rw[kLt_irrefl];simp),List.filter_cons_of_neg (p:=fun x:Sb=>kLt a.f a.c x.f x.c) (by rw[kLt_irrefl];simp),e1,Bool.true_or,if_pos rfl];rw[if_neg (by simp)]at ih;omega
  ·have e1:sbIs f c a=false:=by
    rw[←Bool.not_eq_true,sbIs_iff];rintro⟨rfl,rfl⟩;rw[kLt_irrefl]at g
    cases g
   rw[List.filter_cons_of_neg (p:=fun x:Sb=>kLt x.f x.c f c) (by rw[kLt_asymm g];simp),List.filter_cons_of_pos (p:=fun x:Sb=>kLt f c x.f x.c) g,e1,Bool.false_or,List.length_cons];omega
theorem SbUp.set_len {L:List Sb}(h:SbUp L)(s:Sb):(mtSet L s).length=L.length+(if mtHas L s.f s.c=true then 0 else 1):=by
 have:=h.count s.f s.c;unfold mtSet;rw[List.length_append,List.length_cons]
 split at this
 ·rw[if_pos (by assumption)]
  omega
 ·rw[if_neg (by assumption)]
  omega
theorem SbUp.drop_eq {L:List Sb}(h:SbUp L)(f c:List UInt8):mtDrop L f c=L.filter (fun x=>kLt x.f x.c f c)++L.filter fun x=>kLt f c x.f x.c:=by
 refine(h.drop f c).ext ?_ fun x=> ?_
 ·unfold SbUp
  rw[List.pairwise_append];exact⟨h.filter _,h.filter _,fun a ha b hb=>kLt_trans (List.mem_filter.1 ha).2 (List.mem_filter.1 hb).2⟩
 ·rw[mem_mtDrop,List.mem_append,List.mem_filter,List.mem_filter]
  constructor
  ·rintro⟨h1,h2⟩
   rcases kLt_tri x.f x.c f c with g | g | g
   ·exact .inl ⟨h1,g⟩
   ·exact absurd g h2
   ·exact .inr ⟨h1,g⟩
  ·rintro(⟨h1,h2⟩ | ⟨h1,h2⟩) <;> exact⟨h1,fun e=>by rw[e.1,e.2,kLt_irrefl]at h2;cases h2⟩
theorem SbUp.drop_len {L:List Sb}(h:SbUp L)(f c:List UInt8):(mtDrop L f c).length+(if mtHas L f c=true then 1 else 0)=L.length:=by
 have:=h.count f c;rw[h.drop_eq,List.length_append];omega
/-- The place of an entry in the reference's way. -/
def mtAt (L:List Sb)(f c:List UInt8):Nat:=(L.filter fun x=>kLt x.f x.c f c).length
theorem SbUp.at_take {L:List Sb}(h:SbUp L)(f c:List UInt8):L.take (mtAt L f c)=L.filter fun x=>kLt x.f x.c f c:=by
 unfold mtAt
 induction L with
 | nil=>rfl
 | cons a L ih=>
  obtain⟨h1,h2⟩:=List.pairwise_cons.1 h
  by_cases g:kLt a.f a.c f c=true
  ·rw[List.filter_cons_of_pos (p:=fun x:Sb=>kLt x.f x.c f c) g,List.length_cons,zts,ih h2]
  ·have:(L.filter fun x=>kLt x.f x.c f c)= []:=by
    rw[List.filter_eq_nil_iff];intro x hx e;exact g (kLt_trans (h1 x hx) e)
   rw[List.filter_cons_of_neg (p:=fun x:Sb=>kLt x.f x.c f c) g,this];rfl
theorem SbUp.at_drop {L:List Sb}(h:SbUp L)(f c:List UInt8):L.drop (mtAt L f c+if mtHas L f c=true then 1 else 0)=L.filter fun x=>kLt f c x.f x.c:=by
 unfold mtAt
 induction L with
 | nil=>simp[mtHas]
 | cons a L ih=>
  obtain⟨h1,h2⟩:=List.pairwise_cons.1 h;have ih:=ih h2;unfold mtHas at*;rw[List.any_cons];have all:kLt f c a.f a.c=true∨(a.f=f∧a.c=c)→(L.filter fun x=>kLt f c x.f x.c)=L:=by
   intro g;rw[List.filter_eq_self];intro x hx
   rcases g with g | ⟨rfl,rfl⟩
   ·exact kLt_trans g (h1 x hx)
   ·exact h1 x hx
  have none_:kLt f c a.f a.c=true∨(a.f=f∧a.c=c)→(L.filter fun x=>kLt x.f x.c f c)= []∧L.any (sbIs f c)=false:=by
   intro g
   constructor
   ·rw[List.filter_eq_nil_iff]
    intro x hx e;have h3:=h1 x hx
    rcases g with g | ⟨rfl,rfl⟩
    ·have:=kLt_asymm (kLt_trans g h3)
     rw[e]at this
     cases this
    ·have:=kLt_asymm h3
     rw[e]at this
     cases this
   ·rw[List.any_eq_false]
    intro x hx e;obtain⟨rfl,rfl⟩:=sbIs_iff.1 e;have h3:=h1 x hx;unfold sbLt at h3
    rcases g with g | ⟨e1,e2⟩
    ·rw[kLt_asymm g]at h3
     cases h3
    ·rw[e1,e2,kLt_irrefl]at h3
     cases h3
  rcases kLt_tri a.f a.c f c with g | ⟨rfl,rfl⟩ | g
  ·have e1:sbIs f c a=false:=by
    rw[←Bool.not_eq_true,sbIs_iff];rintro⟨rfl,rfl⟩;rw[kLt_irrefl]at g
    cases g
   rw[List.filter_cons_of_pos (p:=fun x:Sb=>kLt x.f x.c f c) g,List.filter_cons_of_neg (p:=fun x:Sb=>kLt f c x.f x.c) (by rw[kLt_asymm g];simp),e1,Bool.false_or,List.length_cons,Nat.add_right_comm,zds,ih]
  ·obtain⟨n1,n2⟩:=none_ (.inr ⟨rfl,rfl⟩)
   rw[List.filter_cons_of_neg (p:=fun x:Sb=>kLt x.f x.c a.f a.c) (by rw[kLt_irrefl];simp),List.filter_cons_of_neg (p:=fun x:Sb=>kLt a.f a.c x.f x.c) (by rw[kLt_irrefl];simp),n1,sbIs_iff.2 ⟨rfl,rfl⟩,Bool.true_or,if_pos rfl,all (.inr ⟨rfl,rfl⟩)];rfl
  ·obtain⟨n1,n2⟩:=none_ (.inl g)
   have e1:sbIs f c a=false:=by
    rw[←Bool.not_eq_true,sbIs_iff];rintro⟨rfl,rfl⟩;rw[kLt_irrefl]at g
    cases g
   rw[List.filter_cons_of_neg (p:=fun x:Sb=>kLt x.f x.c f c) (by rw[kLt_asymm g];simp),List.filter_cons_of_pos (p:=fun x:Sb=>kLt f c x.f x.c) g,n1,n2,e1,Bool.or_self,if_neg (by simp),all (.inl g)];rfl
theorem SbUp.set_at {L:List Sb}(h:SbUp L)(s:Sb):mtSet L s=L.take (mtAt L s.f s.c)++s::L.drop (mtAt L s.f s.c+if mtHas L s.f s.c=true then 1 else 0):=by
 rw[h.at_take,h.at_drop];rfl
/-- May a client be? -/
def mtCl (c:List UInt8):Bool:=decide (1≤c.length) && decide (c.length≤23)
def mtSubOk (s:Sb):Bool:=mtCl s.c && (decide (0≤s.q) && decide (s.q≤2))
/-- What Set, Drop, Leave answer. -/
def mtSetA (L:List Sb)(s:Sb):List Sb×Bool×Int:=
 if tFilter s.f=false then(L,false,230)else if mtSubOk s=false then(L,false,2)
 else if mtHas L s.f s.c=false∧4096≤L.length then(L,false,3)else(mtSet L s, !mtHas L s.f s.c,0)
def mtDropA (L:List Sb)(f c:List UInt8):List Sb×Bool×Int:=
 if tFilter f=false then(L,false,230)else if mtCl c=false then(L,false,2)else(mtDrop L f c,mtHas L f c,0)
def mtLeave (L:List Sb)(c:List UInt8):List Sb:=L.filter fun x=> !(x.c==c)
def mtOf (L:List Sb)(c:List UInt8):List Sb:=L.filter fun x=>x.c==c
def mtLeaveA (L:List Sb)(c:List UInt8):List Sb×Nat×Int:=if mtCl c=false then(L,0,2)else(mtLeave L c,(mtOf L c).length,0)
/-- What a book has. -/
structure MtOk (L:List Sb):Prop where
 up:SbUp L
 ok:∀x∈L,tFilter x.f=true∧mtSubOk x=true
 le:L.length≤4096
theorem MtOk.nil:MtOk []:=⟨List.Pairwise.nil,(fun _ h=>by cases h),by simp⟩
theorem MtOk.filter {L:List Sb}(h:MtOk L)(p:Sb→Bool):MtOk (L.filter p):=⟨h.up.filter p,fun x hx=>h.ok x (List.mem_filter.1 hx).1,Nat.le_trans (List.length_filter_le _ _) h.le⟩
theorem MtOk.set {L:List Sb}(h:MtOk L){s:Sb}(h1:tFilter s.f=true)(h2:mtSubOk s=true)(h3:¬(mtHas L s.f s.c=false∧4096≤L.length)):MtOk (mtSet L s):=by
 refine⟨h.up.set s,fun x hx=> ?_, ?_⟩
 ·rcases mem_mtSet.1 hx with rfl | ⟨hx,_⟩
  ·exact⟨h1,h2⟩
  ·exact h.ok x hx
 ·rw[h.up.set_len]
  split
  ·exact h.le
  ·have:=h.le
   rename_i hh;rw[Bool.not_eq_true]at hh;have:¬4096≤L.length:=fun e=>h3 ⟨hh,e⟩
   omega
end Go.Proofs.YtoadlafdeoklbaaGreatDoor
