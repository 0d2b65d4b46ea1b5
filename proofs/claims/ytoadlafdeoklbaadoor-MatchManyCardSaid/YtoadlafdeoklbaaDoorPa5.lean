/- Package utf, plain: which bytes are a text that may be said. Package utf, plain: texts that may be said, put together and cut at bytes below 128. Package topic, plain: levels, names, filters, what meets. -/
import Derived.Lib.SplitLaws
import Derived.Test.YtoadlafdeoklbaaDoorPz

namespace Go.Proofs.YtoadlafdeoklbaaDoor

def u8 (n:Nat):UInt8:=UInt8.ofNat n
/-- The bytes of a rune. -/
def uRaw (r:Nat):List UInt8:=
 if r < 128 then [u8 r]
 else if r < 2048 then [u8 (192+r / 64),u8 (128+r % 64)]
 else if r < 65536 then [u8 (224+r / 4096),u8 (128+r / 64 % 64),u8 (128+r % 64)]
 else [u8 (240+r / 262144),u8 (128+r / 4096 % 64),u8 (128+r / 64 % 64),u8 (128+r % 64)]
/-- A rune that may be, and is not 0. -/
def uMay (r:Nat):Prop:=0 < r∧(r < 55296∨(57343 < r∧r≤1114111))
instance (r:Nat):Decidable (uMay r):=by unfold uMay;infer_instance
/-- Six bits more. -/
def uMore (r:Nat)(l:List UInt8):Nat:=l.foldl (fun r x=>64*r+x.toNat % 64) r
/-- The lead of a rune of so many bytes, and what is above it. -/
def uLead (n:Nat):Nat:=if n=2 then 192 else if n=3 then 224 else if n=4 then 240 else 0
def uMost (n:Nat):Nat:=if n=2 then 224 else if n=3 then 240 else if n=4 then 248 else 128
/-- The rune of so many bytes, read in the reference's way. -/
def uDec (l:List UInt8):Nat:=match l with
 | []=>0
 | a::t=>uMore (a.toNat - uLead l.length) t
/-- Bytes are a rune's that may be. -/
def uHit (l:List UInt8):Prop:=∃r,uMay r∧uRaw r=l
theorem toNat_u8 {n:Nat}(h:n < 256):(u8 n).toNat=n:=by
 unfold u8;rw[UInt8.toNat_ofNat'];omega
theorem uRaw_len (r:Nat):(uRaw r).length=if r < 128 then 1 else if r < 2048 then 2 else if r < 65536 then 3 else 4:=by
 unfold uRaw
 split
 ·rfl
 ·split
  ·rfl
  ·split <;> rfl
theorem uDec_raw {r:Nat}(h:uMay r):uDec (uRaw r)=r:=by
 obtain⟨h0,h1⟩:=h;unfold uRaw
 split
 ·rename_i h2
  simp only[uDec,uMore,uLead,List.length_cons,List.length_nil,List.foldl_nil];rw[toNat_u8 (by omega)];simp
 ·split
  ·simp only[uDec,uMore,uLead,List.length_cons,List.length_nil,List.foldl_cons,List.foldl_nil]
   rw[toNat_u8 (by omega),toNat_u8 (by omega)];simp;omega
  ·split
   ·simp only[uDec,uMore,uLead,List.length_cons,List.length_nil,List.foldl_cons,List.foldl_nil]
    rw[toNat_u8 (by omega),toNat_u8 (by omega),toNat_u8 (by omega)];simp;omega
   ·simp only[uDec,uMore,uLead,List.length_cons,List.length_nil,List.foldl_cons,List.foldl_nil]
    rw[toNat_u8 (by omega),toNat_u8 (by omega),toNat_u8 (by omega),toNat_u8 (by omega)];simp;omega
/-- The lead byte of a rune. -/
theorem uRaw_lead {r:Nat}(h:uMay r):∃a t,uRaw r=a::t∧uLead (uRaw r).length≤a.toNat∧a.toNat < uMost (uRaw r).length:=by
 obtain⟨h0,h1⟩:=h;unfold uRaw
 split
 ·refine⟨_,_,rfl, ?_⟩
  rw[toNat_u8 (by omega)];simp[uLead,uMost];omega
 ·split
  ·refine⟨_,_,rfl, ?_⟩
   rw[toNat_u8 (by omega)];simp[uLead,uMost];omega
  ·split
   ·refine⟨_,_,rfl, ?_⟩
    rw[toNat_u8 (by omega)];simp[uLead,uMost];omega
   ·refine⟨_,_,rfl, ?_⟩
    rw[toNat_u8 (by omega)];simp[uLead,uMost];omega
theorem uHit_iff {l:List UInt8}:uHit l↔uMay (uDec l)∧uRaw (uDec l)=l:=by
 constructor
 ·rintro⟨r,h1,rfl⟩
  rw[uDec_raw h1];exact⟨h1,rfl⟩
 ·rintro⟨h1,h2⟩
  exact⟨_,h1,h2⟩
instance (l:List UInt8):Decidable (uHit l):=decidable_of_iff _ uHit_iff.symm
theorem uHit_len {l:List UInt8}(h:uHit l):1≤l.length∧l.length≤4:=by
 obtain⟨r,_,rfl⟩:=h;rw[uRaw_len]
 split
 ·omega
 ·split
  ·omega
  ·split <;> omega
theorem uHit_lead {l:List UInt8}(h:uHit l):∃a t,l=a::t∧uLead l.length≤a.toNat∧a.toNat < uMost l.length:=by
 obtain⟨r,h1,rfl⟩:=h;exact uRaw_lead h1
/-- How many bytes the first rune has; 0: there is none. -/
def uFirst (s:List UInt8):Nat:=
 if 1≤s.length∧uHit (s.take 1)then 1 else if 2≤s.length∧uHit (s.take 2)then 2 else if 3≤s.length∧uHit (s.take 3)then 3 else if 4≤s.length∧uHit (s.take 4)then 4 else 0
theorem uFirst_len (s:List UInt8):uFirst s≤s.length∧uFirst s≤4:=by
 unfold uFirst
 split
 ·omega
 ·split
  ·omega
  ·split
   ·omega
   ·split <;> omega
theorem uFirst_hit {s:List UInt8}{n:Nat}(h1:1≤n)(h4:n≤4)(hm:∀k,1≤k→k < n→¬(k≤s.length∧uHit (s.take k)))(hn:n≤s.length∧uHit (s.take n)):uFirst s=n:=by
 unfold uFirst
 rcases(show n=1∨n=2∨n=3∨n=4 by omega)with rfl | rfl | rfl | rfl
 ·rw[if_pos hn]
 ·rw[if_neg (hm 1 (by omega) (by omega)),if_pos hn]
 ·rw[if_neg (hm 1 (by omega) (by omega)),if_neg (hm 2 (by omega) (by omega)),if_pos hn]
 ·rw[if_neg (hm 1 (by omega) (by omega)),if_neg (hm 2 (by omega) (by omega)),if_neg (hm 3 (by omega) (by omega)),if_pos hn]
theorem uFirst_none {s:List UInt8}(hm:∀k,1≤k→k < 5→¬(k≤s.length∧uHit (s.take k))):uFirst s=0:=by
 unfold uFirst;rw[if_neg (hm 1 (by omega) (by omega)),if_neg (hm 2 (by omega) (by omega)),if_neg (hm 3 (by omega) (by omega)),if_neg (hm 4 (by omega) (by omega))]
theorem uFirst_pos {s:List UInt8}(h:uFirst s≠0):uHit (s.take (uFirst s)):=by
 unfold uFirst at h ⊢
 split
 ·rename_i h1;exact h1.2
 ·split
  ·rename_i h1;exact h1.2
  ·split
   ·rename_i h1;exact h1.2
   ·split
    ·rename_i h1;exact h1.2
    ·rename_i a b c d
     rw[if_neg a,if_neg b,if_neg c,if_neg d]at h;exact absurd rfl h
/-- May a text be said? -/
def uGoodF:Nat→List UInt8→Bool
 | 0,s=>s.isEmpty
 | f+1,s=>if s.isEmpty then true else if uFirst s=0 then false else uGoodF f (s.drop (uFirst s))
def uGood (s:List UInt8):Bool:=uGoodF s.length s
theorem uGoodF_more {f:Nat}{s:List UInt8}(h:s.length≤f):uGoodF (f+1) s=uGoodF f s:=by
 induction f generalizing s with
 | zero=>
  obtain rfl:s= []:=List.length_eq_zero_iff.1 (by omega);rfl
 | succ f ih=>
  show(if s.isEmpty then true else if uFirst s=0 then false else uGoodF (f+1) (s.drop (uFirst s)))=(if s.isEmpty then true else if uFirst s=0 then false else uGoodF f (s.drop (uFirst s)))
  by_cases h0:uFirst s=0
  ·rw[if_pos h0,if_pos h0]
  ·rw[if_neg h0,if_neg h0,ih (by rw[List.length_drop];omega)]
theorem uGoodF_any {f:Nat}{s:List UInt8}(h:s.length≤f):uGoodF f s=uGood s:=by
 obtain⟨d,rfl⟩:∃d,f=s.length+d:=⟨f - s.length,by omega⟩
 induction d with
 | zero=>rfl
 | succ d ih=>rw[←Nat.add_assoc,uGoodF_more (by omega),ih (by omega)]
theorem uGood_step {s:List UInt8}(h:s≠ []):uGood s=if uFirst s=0 then false else uGood (s.drop (uFirst s)):=by
 have hl:s.length≠0:=fun e=>h (List.length_eq_zero_iff.1 e)
 rw[←uGoodF_any (Nat.le_succ s.length),uGoodF,if_neg (by cases s <;> simp at h ⊢)]
 split
 ·rfl
 ·rw[uGoodF_any (by rw[List.length_drop];omega)]

theorem uHit_ascii {a:UInt8}(h0:0 < a.toNat)(h:a.toNat < 128):uHit [a]:=⟨a.toNat,⟨h0,.inl (by omega)⟩,by
 unfold uRaw;rw[if_pos h]
 congr 1
 unfold u8;exact UInt8.ofNat_toNat⟩
theorem uFirst_ascii {a:UInt8}{s:List UInt8}(h0:0 < a.toNat)(h:a.toNat < 128):uFirst (a::s)=1:=
 uFirst_hit (by omega) (by omega) (fun k h1 h2=>by omega) ⟨by simp,by simpa using uHit_ascii h0 h⟩
theorem uGood_ascii {a:UInt8}{s:List UInt8}(h0:0 < a.toNat)(h:a.toNat < 128):uGood (a::s)=uGood s:=by
 rw[uGood_step (by simp),uFirst_ascii h0 h,if_neg (by omega)];rfl
theorem uFirst_more {s t:List UInt8}(h:uFirst s≠0):uFirst (s++t)=uFirst s:=by
 have hl:=uFirst_len s;obtain⟨n,hn⟩:∃n,uFirst s=n:=⟨_,rfl⟩;rw[hn]at h hl ⊢
 have hh:uHit (s.take n):=by rw[←hn];exact uFirst_pos (by rw[hn];exact h)
 refine uFirst_hit (by omega) hl.2 (fun k h1 h2 hk=> ?_) ⟨by rw[List.length_append];omega,by rw[List.take_append_of_le_length hl.1];exact hh⟩;rw[List.take_append_of_le_length (by omega)]at hk;have:uFirst s≤k:=by
  unfold uFirst
  rcases(show k=1∨k=2∨k=3 by omega)with rfl | rfl | rfl
  ·rw[if_pos ⟨by omega,hk.2⟩];omega
  ·split
   ·omega
   ·rw[if_pos ⟨by omega,hk.2⟩];omega
  ·split
   ·omega
   ·split
    ·omega
    ·rw[if_pos ⟨by omega,hk.2⟩];omega
 omega
/-- Bytes behind the first one of a rune are no ASCII. -/
theorem uHit_tail {l:List UInt8}(h:uHit l){i:Nat}{a:UInt8}(hi:1≤i)(ha:l[i]? =some a):128≤a.toNat:=by
 obtain⟨r,⟨h0,h1⟩,rfl⟩:=h;have k:∀n:Nat,128≤(u8 (128+n % 64)).toNat:=fun n=>by rw[toNat_u8 (by omega)];omega
 unfold uRaw at ha
 split at ha
 ·rw[List.getElem?_eq_none (by simp;omega)]at ha;cases ha
 ·split at ha
  ·rcases(show i=1∨2≤i by omega)with rfl | hi2
   ·simp at ha;rw[←ha];exact k _
   ·rw[List.getElem?_eq_none (by simp;omega)]at ha;cases ha
  ·split at ha
   ·rcases(show i=1∨i=2∨3≤i by omega)with rfl | rfl | hi2
    ·simp at ha;rw[←ha];exact k _
    ·simp at ha;rw[←ha];exact k _
    ·rw[List.getElem?_eq_none (by simp;omega)]at ha;cases ha
   ·rcases(show i=1∨i=2∨i=3∨4≤i by omega)with rfl | rfl | rfl | hi2
    ·simp at ha;rw[←ha];exact k _
    ·simp at ha;rw[←ha];exact k _
    ·simp at ha;rw[←ha];exact k _
    ·rw[List.getElem?_eq_none (by simp;omega)]at ha;cases ha
theorem uFirst_cut {s t:List UInt8}{a:UInt8}(ha:a.toNat < 128)(hs:s≠ [])(h:uFirst (s++a::t)≠0):uFirst (s++a::t)=uFirst s:=by
 have hp:=uFirst_pos h;obtain⟨n,hn⟩:∃n,uFirst (s++a::t)=n:=⟨_,rfl⟩;have hsl:1≤s.length:=by
  have:=mt List.length_eq_zero_iff.1 hs;omega
 have hns:n≤s.length:=by
  rcases Nat.lt_or_ge s.length n with hlt | hge
  ·rw[hn]at hp
   have:=uHit_tail hp (i:=s.length) (a:=a) hsl (by rw[List.getElem?_take_of_lt hlt];simp);omega
  ·exact hge
 rw[hn]at hp h;rw[List.take_append_of_le_length hns]at hp;have h4:=uHit_len hp;rw[List.length_take]at h4;have hs0:uFirst s≠0:=by
  intro e;have hl:=uFirst_len (s++a::t);unfold uFirst at e;have:n=1∨n=2∨n=3∨n=4:=by omega
  rcases this with rfl | rfl | rfl | rfl
  ·rw[if_pos ⟨by omega,hp⟩]at e;omega
  ·split at e
   ·omega
   ·rw[if_pos ⟨by omega,hp⟩]at e;omega
  ·split at e
   ·omega
   ·split at e
    ·omega
    ·rw[if_pos ⟨by omega,hp⟩]at e;omega
  ·split at e
   ·omega
   ·split at e
    ·omega
    ·split at e
     ·omega
     ·rw[if_pos ⟨by omega,hp⟩]at e;omega
 exact uFirst_more hs0
theorem uGood_cut {s t:List UInt8}{a:UInt8}(h0:0 < a.toNat)(ha:a.toNat < 128)(h:uGood (s++a::t)=true):uGood s=true∧uGood t=true:=by
 obtain⟨m,hm⟩:∃m,s.length≤m:=⟨_,Nat.le_refl _⟩
 induction m generalizing s with
 | zero=>
  obtain rfl:s= []:=List.length_eq_zero_iff.1 (by omega);rw[List.nil_append,uGood_ascii h0 ha]at h;exact⟨rfl,h⟩
 | succ m ih=>
  by_cases hs:s= []
  ·subst hs
   rw[List.nil_append,uGood_ascii h0 ha]at h;exact⟨rfl,h⟩
  ·rw[uGood_step (by simp)]at h
   by_cases e:uFirst (s++a::t)=0
   ·rw[if_pos e]at h;cases h
   ·rw[if_neg e]at h
    have e2:=uFirst_cut ha hs e;rw[e2]at e h;rw[List.drop_append_of_le_length (uFirst_len s).1]at h;have:=ih h (by rw[List.length_drop];omega);rw[uGood_step hs,if_neg e];exact this
theorem uGood_all_ascii {s:List UInt8}(h:∀a∈s,0 < a.toNat∧a.toNat < 128):uGood s=true:=by
 induction s with
 | nil=>rfl
 | cons a s ih=>
  rw[uGood_ascii (h a (by simp)).1 (h a (by simp)).2];exact ih fun b hb=>h b (List.mem_cons_of_mem _ hb)
end Go.Proofs.YtoadlafdeoklbaaDoor

namespace Go.Proofs.YtoadlafdeoklbaaDoor
open Go

/-- The levels of a text. -/
def tLev:List UInt8→List (List UInt8)
 | []=> [[]]
 | a::s=>if a=47 then []::tLev s else match tLev s with
  | []=> [[a]]
  | l::ls=>(a::l)::ls
theorem tLev_ne (s:List UInt8):tLev s≠ []:=by
 cases s with
 | nil=>simp[tLev]
 | cons a s=>
  unfold tLev
  split
  ·simp
  ·split <;> simp
theorem tLev_other {a:UInt8}{s:List UInt8}(h:a≠47):∃l ls,tLev s=l::ls∧tLev (a::s)=(a::l)::ls:=by
 cases hs:tLev s with
 | nil=>exact absurd hs (tLev_ne s)
 | cons l ls=>exact⟨l,ls,rfl,by rw[tLev,if_neg h,hs]⟩
theorem index_one (a:UInt8)(s:List UInt8):Lib.index (a::s) [47]=if a=47 then 0 else if Lib.index s [47]= -1 then -1 else Lib.index s [47]+1:=by
 rw[Lib.index]
 by_cases h:a=47
 ·subst h
  simp[List.isPrefixOf]
 ·have h' :([47]:List UInt8).isPrefixOf (a::s)=false:=by
   have:((47:UInt8)==a)=false:=by simpa using fun e=>h e.symm
   simp[List.isPrefixOf,this]
  rw[h',if_neg Bool.false_ne_true,if_neg h]
  by_cases hi:Lib.index s [47]= -1
  ·rw[if_pos (beq_iff_eq.2 hi),if_pos hi]
  ·rw[if_neg (fun e=>hi (beq_iff_eq.1 e)),if_neg hi]
theorem split_lev (s:List UInt8):Lib.split s [47]=tLev s:=by
 induction s with
 | nil=>rfl
 | cons a s ih=>
  unfold Lib.split at ih ⊢
  by_cases h:a=47
  ·subst h
   rw[Lib.count_cons_eq,Nat.add_comm,Lib.splitK,tLev,if_pos rfl,index_one,if_pos rfl,←ih];rfl
  ·rw[Lib.count_cons_ne a 47 s h]
   obtain⟨l,ls,e1,e2⟩:=tLev_other (s:=s) h;rw[e2];rw[e1]at ih
   cases hk:Lib.count s [47]with
   | zero=>
    rw[hk,Lib.splitK]at ih;rw[Lib.splitK];injection ih with i1 i2
    rw[i1,i2]
   | succ k=>
    rw[hk,Lib.splitK]at ih;rw[Lib.splitK,index_one,if_neg h];have hge:=Lib.index_ge s [47]
    by_cases hi:Lib.index s [47]= -1
    ·rw[if_pos (beq_iff_eq.2 hi)]at ih
     rw[if_pos hi,if_pos (show((-1:Int)== -1)=true from rfl)];injection ih with i1 i2
     rw[i1,i2]
    ·rw[if_neg (fun e=>hi (beq_iff_eq.1 e))]at ih
     rw[if_neg hi,if_neg (fun e=>by have:=beq_iff_eq.1 e;omega)];injection ih with i1 i2
     obtain⟨m,hm⟩:∃m:Nat,Lib.index s [47]=m:=⟨(Lib.index s [47]).toNat,by omega⟩;rw[hm]at i1 i2 ⊢
     have e3:((m:Int)+1).toNat=m+1:=by omega
     have e4:((m:Int)).toNat=m:=by omega
     rw[e3];rw[e4]at i1 i2;rw[Nat.add_zero,zts,←i1,←i2,Nat.add_zero,List.length_singleton,zds];simp
/-- Has a text a sign? -/
def tSign (s:List UInt8):Bool:=s.any fun b=>b==43 || b==35
/-- May it be said, and has it a fitting length? -/
def tSaid (s:List UInt8):Bool:=decide (1≤s.length) && decide (s.length≤200) && uGood s
def tName (s:List UInt8):Bool:=tSaid s && !tSign s
/-- Is a level right: the last one, if it is so told? -/
def tOk (x:List UInt8)(last:Bool):Bool:=x== [43] || (x== [35] && last) || !tSign x
def tOks:List (List UInt8)→Bool
 | []=>true
 | [x]=>tOk x true
 | x::y::l=>tOk x false && tOks (y::l)
def tFilter (s:List UInt8):Bool:=tSaid s && tOks (tLev s)
/-- Do levels of a filter meet those of a name? -/
def tMeetL:List (List UInt8)→List (List UInt8)→Bool
 | [],n=>n.isEmpty
 | f::fs,n=>if f= [35]then true else match n with
  | []=>false
  | x::ns=>(f== [43] || f==x) && tMeetL fs ns
/-- May a filter meet a name that begins so? -/
def tStarts (f n:List UInt8):Bool:= !(([36]:List UInt8).isPrefixOf n) || (!(([43]:List UInt8).isPrefixOf f) && !(([35]:List UInt8).isPrefixOf f))
def tMeets (f n:List UInt8):Bool:=tStarts f n && tMeetL (tLev f) (tLev n)
/-- Do levels meet all that others meet? -/
def tWithL:List (List UInt8)→List (List UInt8)→Bool
 | a, []=>a.isEmpty
 | a,b::bs=>if b= [35]then true else match a with
  | []=>false
  | x::az=>if x= [35]then false else(b== [43] || x==b) && tWithL az bs
def tWide (a:List UInt8):List (List UInt8):=if a= [35]∨a= [47,35]then(tLev a).dropLast++ [[43], [35]]else tLev a
def tWithin (a b:List UInt8):Bool:=tStarts b a && tWithL (tWide a) (tLev b)
theorem tLev_len (s:List UInt8):(tLev s).length≤s.length+1:=by
 induction s with
 | nil=>simp[tLev]
 | cons a s ih=>
  by_cases h:a=47
  ·rw[tLev,if_pos h];simp;omega
  ·obtain⟨l,ls,e1,e2⟩:=tLev_other (s:=s) h
   rw[e2];rw[e1]at ih;simp at ih ⊢
   omega
theorem tLev_size {s:List UInt8}{x:List UInt8}(h:x∈tLev s):x.length≤s.length:=by
 induction s generalizing x with
 | nil=>simp[tLev]at h;subst h;simp
 | cons a s ih=>
  by_cases e:a=47
  ·rw[tLev,if_pos e]at h
   rcases List.mem_cons.1 h with rfl | h
   ·simp
   ·have:=ih h;simp;omega
  ·obtain⟨l,ls,e1,e2⟩:=tLev_other (s:=s) e
   rw[e2]at h
   rcases List.mem_cons.1 h with rfl | h
   ·have:=ih (x:=l) (by rw[e1];simp)
    simp;omega
   ·have:=ih (x:=x) (by rw[e1];exact List.mem_cons_of_mem _ h)
    simp;omega
/-- What is left of a name's levels behind some of a filter's. -/
def mtRun:List (List UInt8)→List (List UInt8)→Option (List (List UInt8))
 | [],n=>some n
 | f::fs,n=>if f= [35]then none else match n with
  | []=>none
  | x::ns=>if(f== [43] || f==x)=true then mtRun fs ns else none
end Go.Proofs.YtoadlafdeoklbaaDoor
