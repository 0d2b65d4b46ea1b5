/- Package topic, plain: levels put together; within is told by what is met. Package topic, plain: where one is not within another, one of its names tells. -/
import Derived.Test.YtoadlafdeoklbaaDoorPa5

namespace Go.Proofs.YtoadlafdeoklbaaDoor
open Go

/-- Levels put together. -/
def tJoin:List (List UInt8)→List UInt8
 | []=> []
 | [x]=>x
 | x::y::l=>x++47::tJoin (y::l)
theorem tJoin_lev (s:List UInt8):tJoin (tLev s)=s:=by
 induction s with
 | nil=>rfl
 | cons a s ih=>
  by_cases h:a=47
  ·subst h
   rw[tLev,if_pos rfl]
   cases hs:tLev s with
   | nil=>exact absurd hs (tLev_ne s)
   | cons x l=>
    rw[hs]at ih;rw[tJoin,ih];rfl
  ·obtain⟨l,ls,e1,e2⟩:=tLev_other (s:=s) h
   rw[e1]at ih;rw[e2]
   cases ls with
   | nil=>
    rw[tJoin]at ih ⊢
    rw[ih]
   | cons y ls=>
    rw[tJoin]at ih ⊢
    rw[List.cons_append,ih]
theorem tLev_47 {s x:List UInt8}(h:x∈tLev s):(47:UInt8)∉x:=by
 induction s generalizing x with
 | nil=>simp[tLev]at h;subst h;simp
 | cons a s ih=>
  by_cases e:a=47
  ·rw[tLev,if_pos e]at h
   rcases List.mem_cons.1 h with rfl | h
   ·simp
   ·exact ih h
  ·obtain⟨l,ls,e1,e2⟩:=tLev_other (s:=s) e
   rw[e2]at h
   rcases List.mem_cons.1 h with rfl | h
   ·have:=ih (x:=l) (by rw[e1];simp)
    simpa using And.intro (fun h:(47:UInt8)=a=>e h.symm) this
   ·exact ih (by rw[e1];exact List.mem_cons_of_mem _ h)
theorem tJoin_good {l:List (List UInt8)}(h:uGood (tJoin l)=true):∀x∈l,uGood x=true:=by
 induction l with
 | nil=>intro x hx;cases hx
 | cons x l ih=>
  cases l with
  | nil=>intro y hy;simp at hy;subst hy;exact h
  | cons y l=>
   rw[tJoin]at h;obtain⟨h1,h2⟩:=uGood_cut (by decide) (by decide) h;intro z hz
   rcases List.mem_cons.1 hz with rfl | hz
   ·exact h1
   ·exact ih h2 z hz
theorem tSign_join {l:List (List UInt8)}:tSign (tJoin l)=l.any tSign:=by
 induction l with
 | nil=>rfl
 | cons x l ih=>
  cases l with
  | nil=>simp[tJoin]
  | cons y l=>
   rw[tJoin,List.any_cons,←ih];unfold tSign;rw[List.any_append,List.any_cons];rfl
theorem tName_levels {s:List UInt8}(h:tName s=true):s≠ []∧s.length≤200∧∀x∈tLev s,(47:UInt8)∉x∧uGood x=true∧tSign x=false:=by
 unfold tName tSaid at h;simp only[Bool.and_eq_true,decide_eq_true_eq,Bool.not_eq_true']at h;obtain⟨⟨⟨h1,h2⟩,h3⟩,h4⟩:=h;refine⟨fun e=>by(rw[e]at h1;simp at h1),h2,fun x hx=>⟨tLev_47 hx,tJoin_good (by rw[tJoin_lev];exact h3) x hx, ?_⟩⟩;rw[←tJoin_lev s,tSign_join,List.any_eq_false]at h4
 simpa using h4 x hx
theorem tFilter_levels {s:List UInt8}(h:tFilter s=true):s≠ []∧s.length≤200∧∀x∈tLev s,(47:UInt8)∉x∧uGood x=true:=by
 unfold tFilter tSaid at h;simp only[Bool.and_eq_true,decide_eq_true_eq]at h;obtain⟨⟨⟨h1,h2⟩,h3⟩,_⟩:=h;exact⟨fun e=>by(rw[e]at h1;simp at h1),h2,fun x hx=>⟨tLev_47 hx,tJoin_good (by rw[tJoin_lev];exact h3) x hx⟩⟩
theorem tSign_35:tSign [35]=true:=by decide
theorem tSign_43:tSign [43]=true:=by decide
theorem tOks_cons {x y:List UInt8}{l:List (List UInt8)}:tOks (x::y::l)=(tOk x false && tOks (y::l)):=rfl
theorem tOks_split {L:List (List UInt8)}(h:tOks L=true):∃ay:List (List UInt8),(∀x∈ay,x= [43]∨tSign x=false)∧(L=ay∨L=ay++ [[35]]):=by
 induction L with
 | nil=>exact⟨[],by simp,.inl rfl⟩
 | cons x L ih=>
  cases L with
  | nil=>
   have hx:tOk x true=true:=h;unfold tOk at hx;simp only[Bool.or_eq_true,Bool.and_true,beq_iff_eq,Bool.not_eq_true']at hx
   rcases hx with(hx | hx) | hx
   ·exact⟨[x],by simp[hx],.inl rfl⟩
   ·exact⟨[],by simp,.inr (by rw[hx];rfl)⟩
   ·exact⟨[x],by simp[hx],.inl rfl⟩
  | cons y L=>
   rw[tOks_cons,Bool.and_eq_true]at h;obtain⟨ay,h1,h2⟩:=ih h.2;have hx:=h.1;unfold tOk at hx;simp only[Bool.or_eq_true,Bool.and_false,beq_iff_eq,Bool.not_eq_true',Bool.false_eq_true,or_false]at hx;refine⟨x::ay,fun z hz=> ?_, ?_⟩
   ·rcases List.mem_cons.1 hz with rfl | hz
    ·exact hx
    ·exact h1 z hz
   ·rcases h2 with h2 | h2
    ·exact .inl (by rw[h2])
    ·exact .inr (by rw[h2];rfl)
theorem no35 {ay:List (List UInt8)}(h:∀x∈ay,x= [43]∨tSign x=false): [35]∉ay:=fun hm=>by
 rcases h _ hm with e | e
 ·simp at e
 ·rw[tSign_35]at e;cases e
theorem tFilter_split {a:List UInt8}(h:tFilter a=true):∃ay:List (List UInt8),(∀x∈ay,x= [43]∨tSign x=false)∧(tLev a=ay∨tLev a=ay++ [[35]]):=by
 unfold tFilter at h;rw[Bool.and_eq_true]at h;exact tOks_split h.2
/-- The first level. -/
def hd0 (l:List (List UInt8)):List UInt8:=l.headD []
def pre1 (c:UInt8)(s:List UInt8):Bool:=([c]:List UInt8).isPrefixOf s
theorem pre1_cons (c a:UInt8)(s:List UInt8):pre1 c (a::s)=(c==a):=by
 unfold pre1;simp[List.isPrefixOf]
theorem pre1_lev {c:UInt8}(hc:c≠47)(s:List UInt8):pre1 c s=pre1 c (hd0 (tLev s)):=by
 cases s with
 | nil=>rfl
 | cons a s=>
  by_cases h:a=47
  ·subst h
   rw[tLev,if_pos rfl,pre1_cons]
   simpa [hd0,pre1]using hc
  ·obtain⟨l,ls,e1,e2⟩:=tLev_other (s:=s) h
   rw[e2];show _=pre1 c (a::l);rw[pre1_cons,pre1_cons]
theorem pre1_sign {c:UInt8}{s:List UInt8}(h:pre1 c s=true)(hc:c=43∨c=35):tSign s=true:=by
 cases s with
 | nil=>cases h
 | cons a s=>
  rw[pre1_cons,beq_iff_eq]at h;subst h;unfold tSign;rw[List.any_cons]
  rcases hc with rfl | rfl <;> rfl
theorem starts_iff {f n:List UInt8}(h:tFilter f=true):tStarts f n=true↔(pre1 36 (hd0 (tLev n))=true→hd0 (tLev f)≠ [43]∧hd0 (tLev f)≠ [35]):=by
 obtain⟨ay,h1,h2⟩:=tFilter_split h;have hf:tStarts f n=(!(pre1 36 (hd0 (tLev n))) || (!(pre1 43 (hd0 (tLev f))) && !(pre1 35 (hd0 (tLev f))))):=by
  rw[←pre1_lev (by decide),←pre1_lev (by decide),←pre1_lev (by decide)];rfl
 have hq:∀x:List UInt8,(x= [43]∨x= [35]∨tSign x=false)→((!(pre1 43 x) && !(pre1 35 x))=true↔x≠ [43]∧x≠ [35]):=fun x hx=>by
  rcases hx with rfl | rfl | hx
  ·exact⟨fun h=>absurd h (by decide),fun h=>absurd rfl h.1⟩
  ·exact⟨fun h=>absurd h (by decide),fun h=>absurd rfl h.2⟩
  ·have h43:pre1 43 x=false:=by
    rw[←Bool.not_eq_true];exact fun h=>by rw[pre1_sign h (.inl rfl)]at hx;cases hx
   have h35:pre1 35 x=false:=by
    rw[←Bool.not_eq_true];exact fun h=>by rw[pre1_sign h (.inr rfl)]at hx;cases hx
   rw[h43,h35];exact⟨fun _=>⟨fun e=>by(rw[e,tSign_43]at hx;cases hx),fun e=>by(rw[e,tSign_35]at hx;cases hx)⟩,fun _=>rfl⟩
 have hx:hd0 (tLev f)= [43]∨hd0 (tLev f)= [35]∨tSign (hd0 (tLev f))=false:=by
  have key:∀l:List (List UInt8),(∀x∈l,x= [43]∨tSign x=false)→hd0 l= [43]∨hd0 l= [35]∨tSign (hd0 l)=false:=fun l hl=>by
   cases l with
   | nil=>exact .inr (.inr rfl)
   | cons y l=>exact(hl y (by simp)).elim .inl (fun h=> .inr (.inr h))
  rcases h2 with h2 | h2
  ·rw[h2];exact key ay h1
  ·rw[h2]
   cases ay with
   | nil=>exact .inr (.inl rfl)
   | cons y l=>exact(h1 y (by simp)).elim .inl (fun h=> .inr (.inr h))
 rw[hf,Bool.or_eq_true,hq _ hx]
 cases pre1 36 (hd0 (tLev n)) <;> simp

def tUnlike (l:List (List UInt8))(k:Nat):List UInt8:=if l[k]? =some [122]then [121]else [122]
/-- Levels with each + as another level than one of a list at its place. -/
def tInst (y:List (List UInt8)):List (List UInt8)→Nat→List (List UInt8)
 | [],_=> []
 | x::l,i=>(if x= [43]then tUnlike y i else x)::tInst y l (i+1)
def Inst:List (List UInt8)→List (List UInt8)→List (List UInt8)→Prop
 | [],_,m=>m= []
 | x::az,b,m=>∃y m',m=y::m' ∧(x= [43]→b.head?≠some y)∧(x≠ [43]→y=x)∧Inst az b.tail m'
/-- The levels of the names that a filter meets. -/
def tBase (y:List (List UInt8)):List (List UInt8)→Nat→List (List UInt8)
 | [],_=> []
 | x::l,i=>if x= [35]then tBase y l (i+1)else(if x= [43]then tUnlike y i else x)::tBase y l (i+1)
def tMore (a:List (List UInt8)):Bool:=a.any fun x=>x== [35]
def tAdd (y m:List (List UInt8)):List (List UInt8):=m++ [tUnlike y m.length]
def tNamesL (x y:List (List UInt8)):List (List UInt8):=tJoin (tBase y x 0)::if tMore x=true then [tJoin (tAdd y (tBase y x 0)),tJoin (tAdd y (tAdd y (tBase y x 0)))]else []
def tNames (a b:List UInt8):List (List UInt8):=tNamesL (tLev a) (tLev b)
structure Wit (a:List UInt8)(y az t m:List (List UInt8))(ns:List (List UInt8)):Prop where
 wide:tWide a=az++t
 tl:t= []∨t= [[35]]
 no: [35]∉az
 inst:Inst az y m
 ok:∀x∈m,(47:UInt8)∉x∧uGood x=true∧tSign x=false
 ne:m≠ []
 l1:1≤(tJoin m).length
 l2:(tJoin m).length≤200
 l3:t= [[35]]→(tJoin m).length+2≤200
 head:pre1 36 (hd0 (tLev a))=pre1 36 (hd0 m)
 hd:pre1 36 (hd0 m)=true→hd0 (tLev a)≠ [43]∧hd0 (tLev a)≠ [35]
 mem:tJoin m∈ns
 mem2:t= [[35]]→tJoin (tAdd y m)∈ns
def tOnly (a b:List UInt8)(n:List UInt8):Bool:=tName n && tMeets a n && !tMeets b n
end Go.Proofs.YtoadlafdeoklbaaDoor
