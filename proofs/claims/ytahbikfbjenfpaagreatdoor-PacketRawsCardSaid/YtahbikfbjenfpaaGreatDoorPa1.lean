/- Plain mathematics: a length's bytes, seven bits each, the lower ones first. No program is named here. Plain mathematics: numbers, texts, truths read out of bytes. No program is named here. Package utf, plain: which bytes are a text that may be said. Package utf, plain: texts that may be said, put together and cut at bytes below 128. Package topic, plain: levels, names, filters, what meets. Package packet, plain: packets, which may be, their bytes. Words for rows of elements of many cells. All blocks of cells but one are as they were. -/
import Derived.Test.YtahbikfbjenfpaaGreatDoorPa0
import Derived.Lib.SplitLaws

namespace Go.Proofs.YtahbikfbjenfpaaGreatDoor
open Go.RowKit

def lnB (n:Nat):UInt8:=UInt8.ofNat n
theorem lnB_val {n:Nat}(h:n < 256):(lnB n).toNat=n:=by
 unfold lnB;rw[UInt8.toNat_ofNat'];omega
theorem lnB_of {x:UInt8}{n:Nat}(h:x.toNat=n):x=lnB n:=by
 have hx:=x.toNat_lt;apply UInt8.toNat_inj.1;rw[lnB_val (by omega),h]
/-- How many bytes a length has. -/
def lnSize (n:Nat):Nat:=if n < 128 then 1 else if n < 16384 then 2 else if n < 2097152 then 3 else 4
/-- A length's bytes. -/
def lnRaw (n:Nat):List UInt8:=
 if n < 128 then [lnB n]else if n < 16384 then [lnB (n % 128+128),lnB (n / 128)]else if n < 2097152 then [lnB (n % 128+128),lnB (n / 128 % 128+128),lnB (n / 16384)]
 else [lnB (n % 128+128),lnB (n / 128 % 128+128),lnB (n / 16384 % 128+128),lnB (n / 2097152)]
theorem lnRaw_length (n:Nat):(lnRaw n).length=lnSize n:=by
 unfold lnRaw lnSize
 split
 ·rfl
 ·split
  ·rfl
  ·split <;> rfl
theorem lnSize_le (n:Nat):1≤lnSize n∧lnSize n≤4:=by
 unfold lnSize
 split
 ·omega
 ·split
  ·omega
  ·split <;> omega
/-- A length read: none: it is none's; some none: it is not all there. -/
def lnRd:List UInt8→Option (Option (Nat×Nat))
 | []=>some none
 | a::l1=>if a.toNat < 128 then some (some (a.toNat,1))else match l1 with
  | []=>some none
  | b::l2=>if b.toNat < 128 then(if b.toNat=0 then none else some (some (a.toNat % 128+128*b.toNat,2)))else match l2 with
   | []=>some none
   | c::l3=>if c.toNat < 128 then(if c.toNat=0 then none else some (some (a.toNat % 128+128*(b.toNat % 128)+16384*c.toNat,3)))else match l3 with
    | []=>some none
    | d::_=>if d.toNat < 128 then(if d.toNat=0 then none else some (some (a.toNat % 128+128*(b.toNat % 128)+16384*(c.toNat % 128)+2097152*d.toNat,4)))else none
theorem lnRd_raw {n:Nat}(h:n < 268435456)(r:List UInt8):lnRd (lnRaw n++r)=some (some (n,lnSize n)):=by
 unfold lnRaw lnSize
 by_cases h1:n < 128
 ·rw[if_pos h1,if_pos h1]
  show(if(lnB n).toNat < 128 then _ else _)=_;rw[lnB_val (by omega),if_pos h1]
 ·rw[if_neg h1,if_neg h1]
  by_cases h2:n < 16384
  ·rw[if_pos h2,if_pos h2]
   show(if(lnB (n % 128+128)).toNat < 128 then _ else(if(lnB (n / 128)).toNat < 128 then(if(lnB (n / 128)).toNat=0 then none else some (some ((lnB (n % 128+128)).toNat % 128+128*(lnB (n / 128)).toNat,2)))else _))=_;rw[lnB_val (n:=n % 128+128) (by omega),lnB_val (n:=n / 128) (by omega),if_neg (by omega),if_pos (by omega),if_neg (by omega)]
   congr 3
   omega
  ·rw[if_neg h2,if_neg h2]
   by_cases h3:n < 2097152
   ·rw[if_pos h3,if_pos h3]
    show(if(lnB (n % 128+128)).toNat < 128 then _ else(if(lnB (n / 128 % 128+128)).toNat < 128 then _ else(if(lnB (n / 16384)).toNat < 128 then(if(lnB (n / 16384)).toNat=0 then none else some (some ((lnB (n % 128+128)).toNat % 128+128*((lnB (n / 128 % 128+128)).toNat % 128)+16384*(lnB (n / 16384)).toNat,3)))else _)))=_;rw[lnB_val (n:=n % 128+128) (by omega),lnB_val (n:=n / 128 % 128+128) (by omega),lnB_val (n:=n / 16384) (by omega),if_neg (by omega),if_neg (by omega),if_pos (by omega),if_neg (by omega)]
    congr 3
    omega
   ·rw[if_neg h3,if_neg h3]
    show(if(lnB (n % 128+128)).toNat < 128 then _ else(if(lnB (n / 128 % 128+128)).toNat < 128 then _ else(if(lnB (n / 16384 % 128+128)).toNat < 128 then _ else(if(lnB (n / 2097152)).toNat < 128 then(if(lnB (n / 2097152)).toNat=0 then none else some (some ((lnB (n % 128+128)).toNat % 128+128*((lnB (n / 128 % 128+128)).toNat % 128)+16384*((lnB (n / 16384 % 128+128)).toNat % 128)+2097152*(lnB (n / 2097152)).toNat,4)))else none))))=_;rw[lnB_val (n:=n % 128+128) (by omega),lnB_val (n:=n / 128 % 128+128) (by omega),lnB_val (n:=n / 16384 % 128+128) (by omega),lnB_val (n:=n / 2097152) (by omega),if_neg (by omega),if_neg (by omega),if_neg (by omega),if_pos (by omega),if_neg (by omega)]
    congr 3
    omega
theorem lnRd_sound {l:List UInt8}{n s:Nat}(h:lnRd l=some (some (n,s))):n < 268435456∧s=lnSize n∧s≤l.length∧l.take s=lnRaw n:=by
 rcases l with _ | ⟨a,l1⟩
 ·cases h
 have ha:=a.toNat_lt
 by_cases a1:a.toNat < 128
 ·have h:(if a.toNat < 128 then some (some (a.toNat,1))else _)=some (some (n,s)):=h
  rw[if_pos a1]at h;injection h with h
  injection h with h
  injection h with e1 e2
  subst e1 e2;unfold lnSize lnRaw;rw[if_pos a1,if_pos a1];exact⟨by omega,rfl,by simp,congrArg (·:: []) (lnB_of (x:=a) rfl)⟩
 rcases l1 with _ | ⟨b,l2⟩
 ·have h:(if a.toNat < 128 then some (some (a.toNat,1))else some none)=some (some (n,s)):=h
  rw[if_neg a1]at h
  cases h
 have hb:=b.toNat_lt
 by_cases b1:b.toNat < 128
 ·have h:(if a.toNat < 128 then some (some (a.toNat,1))else(if b.toNat < 128 then(if b.toNat=0 then none else some (some (a.toNat % 128+128*b.toNat,2)))else _))=some (some (n,s)):=h
  rw[if_neg a1,if_pos b1]at h
  by_cases b0:b.toNat=0
  ·rw[if_pos b0]at h;cases h
  rw[if_neg b0]at h;injection h with h
  injection h with h
  injection h with e1 e2
  subst e2;unfold lnSize lnRaw;rw[if_neg (by omega),if_pos (by omega),if_neg (by omega),if_pos (by omega)];refine⟨by omega,rfl,by simp, ?_⟩;simp only[zts,ztz,List.cons.injEq,and_true];exact⟨lnB_of (by omega),lnB_of (by omega)⟩
 rcases l2 with _ | ⟨c,l3⟩
 ·have h:(if a.toNat < 128 then some (some (a.toNat,1))else(if b.toNat < 128 then(if b.toNat=0 then none else some (some (a.toNat % 128+128*b.toNat,2)))else some none))=some (some (n,s)):=h
  rw[if_neg a1,if_neg b1]at h
  cases h
 have hc:=c.toNat_lt
 by_cases c1:c.toNat < 128
 ·have h:(if a.toNat < 128 then some (some (a.toNat,1))else(if b.toNat < 128 then(if b.toNat=0 then none else some (some (a.toNat % 128+128*b.toNat,2)))else(if c.toNat < 128 then(if c.toNat=0 then none else some (some (a.toNat % 128+128*(b.toNat % 128)+16384*c.toNat,3)))else _)))=some (some (n,s)):=h
  rw[if_neg a1,if_neg b1,if_pos c1]at h
  by_cases c0:c.toNat=0
  ·rw[if_pos c0]at h;cases h
  rw[if_neg c0]at h;injection h with h
  injection h with h
  injection h with e1 e2
  subst e2;unfold lnSize lnRaw;rw[if_neg (by omega),if_neg (by omega),if_pos (by omega),if_neg (by omega),if_neg (by omega),if_pos (by omega)];refine⟨by omega,rfl,by simp, ?_⟩;simp only[zts,ztz,List.cons.injEq,and_true];exact⟨lnB_of (by omega),lnB_of (by omega),lnB_of (by omega)⟩
 rcases l3 with _ | ⟨d,l4⟩
 ·have h:(if a.toNat < 128 then some (some (a.toNat,1))else(if b.toNat < 128 then(if b.toNat=0 then none else some (some (a.toNat % 128+128*b.toNat,2)))else(if c.toNat < 128 then(if c.toNat=0 then none else some (some (a.toNat % 128+128*(b.toNat % 128)+16384*c.toNat,3)))else some none)))=some (some (n,s)):=h
  rw[if_neg a1,if_neg b1,if_neg c1]at h
  cases h
 have hd:=d.toNat_lt;have h:(if a.toNat < 128 then some (some (a.toNat,1))else(if b.toNat < 128 then(if b.toNat=0 then none else some (some (a.toNat % 128+128*b.toNat,2)))else(if c.toNat < 128 then(if c.toNat=0 then none else some (some (a.toNat % 128+128*(b.toNat % 128)+16384*c.toNat,3)))else(if d.toNat < 128 then(if d.toNat=0 then none else some (some (a.toNat % 128+128*(b.toNat % 128)+16384*(c.toNat % 128)+2097152*d.toNat,4)))else none))))=some (some (n,s)):=h;rw[if_neg a1,if_neg b1,if_neg c1]at h
 by_cases d1:d.toNat < 128
 ·rw[if_pos d1]at h
  by_cases d0:d.toNat=0
  ·rw[if_pos d0]at h;cases h
  rw[if_neg d0]at h;injection h with h
  injection h with h
  injection h with e1 e2
  subst e2;unfold lnSize lnRaw;rw[if_neg (by omega),if_neg (by omega),if_neg (by omega),if_neg (by omega),if_neg (by omega),if_neg (by omega)];refine⟨by omega,rfl,by simp, ?_⟩;simp only[zts,ztz,List.cons.injEq,and_true];exact⟨lnB_of (by omega),lnB_of (by omega),lnB_of (by omega),lnB_of (by omega)⟩
 ·rw[if_neg d1]at h;cases h

theorem take_front {a b:List UInt8}{k:Nat}(h:a.length=k):(a++b).take k=a∧(a++b).drop k=b:=by
 subst h;simp
/-- Numbers, texts, truths, read. -/
def rdN (k:Nat)(l:List UInt8):Option (Nat×List UInt8):=if k≤l.length then some (beN (l.take k),l.drop k)else none
def rdTx (l:List UInt8):Option (List UInt8×List UInt8):=match rdN 2 l with
 | none=>none
 | some (n,r)=>if n≤r.length then some (r.take n,r.drop n)else none
def rdTr:List UInt8→Option (Bool×List UInt8)
 | []=>none
 | b::r=>if b.toNat=0 then some (false,r)else if b.toNat=1 then some (true,r)else none
theorem rdN_app {k n:Nat}(h:n < 256^k)(l:List UInt8):rdN k (toBE k n++l)=some (n,l):=by
 have hl:=toBE_length k n;unfold rdN;rw[if_pos (by rw[List.length_append];omega),(take_front hl).1,(take_front hl).2,beN_toBE k n h]
theorem rdN_sound {k n:Nat}{l r:List UInt8}(h:rdN k l=some (n,r)):l=toBE k n++r∧n < 256^k∧k+r.length=l.length:=by
 unfold rdN at h
 split at h
 ·rename_i hk
  injection h with h
  injection h with h1 h2
  subst h1 h2;have hl:(l.take k).length=k:=by rw[List.length_take];omega
  refine⟨by rw[toBE_beN _ _ hl,List.take_append_drop], ?_,by rw[List.length_drop];omega⟩;have:=beN_lt (l.take k)
  rwa [hl]at this
 ·cases h
theorem rdTx_app {s:List UInt8}(h:s.length < 65536)(l:List UInt8):rdTx ((toBE 2 s.length++s)++l)=some (s,l):=by
 unfold rdTx;rw[List.append_assoc,rdN_app (by simpa using h)];simp only;rw[if_pos (by rw[List.length_append];omega),(take_front rfl).1,(take_front rfl).2]
theorem rdTx_sound {l s r:List UInt8}(h:rdTx l=some (s,r)):l=(toBE 2 s.length++s)++r∧s.length < 65536∧2+(s.length+r.length)=l.length:=by
 unfold rdTx at h
 split at h
 ·cases h
 ·rename_i n r' hn
  split at h
  ·rename_i hle
   injection h with h
   injection h with h1 h2
   obtain⟨g1,g2,g3⟩:=rdN_sound hn;have hsl:s.length=n:=by rw[←h1,List.length_take];omega
   have hrl:r.length=r'.length - n:=by rw[←h2,List.length_drop]
   refine⟨?_,by simpa [hsl]using g2,by omega⟩;rw[hsl,g1,List.append_assoc,←h1,←h2,List.take_append_drop]
  ·cases h
end Go.Proofs.YtahbikfbjenfpaaGreatDoor

namespace Go.Proofs.YtahbikfbjenfpaaGreatDoor

def u8 (n:Nat):UInt8:=UInt8.ofNat n
/-- The bytes of a rune. -/
def uRaw (r:Nat):List UInt8:=
 if r < 128 then [u8 r]
 else if r < 2048 then [u8 (192+r / 64),u8 (128+r % 64)]
 else if r < 65536 then [u8 (224+r / 4096),u8 (128+r / 64 % 64),u8 (128+r % 64)]
 else [u8 (240+r / 262144),u8 (128+r / 4096 % 64),u8 (128+r / 64 % 64),u8 (128+r % 64)]
/-- A rune that may be, and is not 0. -/
def uMay (r:Nat):Prop:=0 < r∧(r < 55296∨(57343 < r∧r≤1114111))
instance (r:Nat):Decidable (uMay r):=by unfold uMay;infer_instance
/-- Six bits more. -/
def uMore (r:Nat)(l:List UInt8):Nat:=l.foldl (fun r x=>64*r+x.toNat % 64) r
/-- The lead of a rune of so many bytes, and what is above it. -/
def uLead (n:Nat):Nat:=if n=2 then 192 else if n=3 then 224 else if n=4 then 240 else 0
def uMost (n:Nat):Nat:=if n=2 then 224 else if n=3 then 240 else if n=4 then 248 else 128
/-- The rune of so many bytes, read in the reference's way. -/
def uDec (l:List UInt8):Nat:=match l with
 | []=>0
 | a::t=>uMore (a.toNat - uLead l.length) t
/-- Bytes are a rune's that may be. -/
def uHit (l:List UInt8):Prop:=∃r,uMay r∧uRaw r=l
theorem toNat_u8 {n:Nat}(h:n < 256):(u8 n).toNat=n:=by
 unfold u8;rw[UInt8.toNat_ofNat'];omega
theorem uRaw_len (r:Nat):(uRaw r).length=if r < 128 then 1 else if r < 2048 then 2 else if r < 65536 then 3 else 4:=by
 unfold uRaw
 split
 ·rfl
 ·split
  ·rfl
  ·split <;> rfl
theorem uDec_raw {r:Nat}(h:uMay r):uDec (uRaw r)=r:=by
 obtain⟨h0,h1⟩:=h;unfold uRaw
 split
 ·rename_i h2
  simp only[uDec,uMore,uLead,List.length_cons,List.length_nil,List.foldl_nil];rw[toNat_u8 (by omega)];simp
 ·split
  ·simp only[uDec,uMore,uLead,List.length_cons,List.length_nil,List.foldl_cons,List.foldl_nil]
   rw[toNat_u8 (by omega),toNat_u8 (by omega)];simp;omega
  ·split
   ·simp only[uDec,uMore,uLead,List.length_cons,List.length_nil,List.foldl_cons,List.foldl_nil]
    rw[toNat_u8 (by omega),toNat_u8 (by omega),toNat_u8 (by omega)];simp;omega
   ·simp only[uDec,uMore,uLead,List.length_cons,List.length_nil,List.foldl_cons,List.foldl_nil]
    rw[toNat_u8 (by omega),toNat_u8 (by omega),toNat_u8 (by omega),toNat_u8 (by omega)];simp;omega
/-- The lead byte of a rune. -/
theorem uRaw_lead {r:Nat}(h:uMay r):∃a t,uRaw r=a::t∧uLead (uRaw r).length≤a.toNat∧a.toNat < uMost (uRaw r).length:=by
 obtain⟨h0,h1⟩:=h;unfold uRaw
 split
 ·refine⟨_,_,rfl, ?_⟩
  rw[toNat_u8 (by omega)];simp[uLead,uMost];omega
 ·split
  ·refine⟨_,_,rfl, ?_⟩
   rw[toNat_u8 (by omega)];simp[uLead,uMost];omega
  ·split
   ·refine⟨_,_,rfl, ?_⟩
    rw[toNat_u8 (by omega)];simp[uLead,uMost];omega
   ·refine⟨_,_,rfl, ?_⟩
    rw[toNat_u8 (by omega)];simp[uLead,uMost];omega
theorem uHit_iff {l:List UInt8}:uHit l↔uMay (uDec l)∧uRaw (uDec l)=l:=by
 constructor
 ·rintro⟨r,h1,rfl⟩
  rw[uDec_raw h1];exact⟨h1,rfl⟩
 ·rintro⟨h1,h2⟩
  exact⟨_,h1,h2⟩
instance (l:List UInt8):Decidable (uHit l):=decidable_of_iff _ uHit_iff.symm
theorem uHit_lead {l:List UInt8}(h:uHit l):∃a t,l=a::t∧uLead l.length≤a.toNat∧a.toNat < uMost l.length:=by
 obtain⟨r,h1,rfl⟩:=h;exact uRaw_lead h1
/-- How many bytes the first rune has; 0: there is none. -/
def uFirst (s:List UInt8):Nat:=
 if 1≤s.length∧uHit (s.take 1)then 1 else if 2≤s.length∧uHit (s.take 2)then 2 else if 3≤s.length∧uHit (s.take 3)then 3 else if 4≤s.length∧uHit (s.take 4)then 4 else 0
theorem uFirst_len (s:List UInt8):uFirst s≤s.length∧uFirst s≤4:=by
 unfold uFirst
 split
 ·omega
 ·split
  ·omega
  ·split
   ·omega
   ·split <;> omega
theorem uFirst_hit {s:List UInt8}{n:Nat}(h1:1≤n)(h4:n≤4)(hm:∀k,1≤k→k < n→¬(k≤s.length∧uHit (s.take k)))(hn:n≤s.length∧uHit (s.take n)):uFirst s=n:=by
 unfold uFirst
 rcases(show n=1∨n=2∨n=3∨n=4 by omega)with rfl | rfl | rfl | rfl
 ·rw[if_pos hn]
 ·rw[if_neg (hm 1 (by omega) (by omega)),if_pos hn]
 ·rw[if_neg (hm 1 (by omega) (by omega)),if_neg (hm 2 (by omega) (by omega)),if_pos hn]
 ·rw[if_neg (hm 1 (by omega) (by omega)),if_neg (hm 2 (by omega) (by omega)),if_neg (hm 3 (by omega) (by omega)),if_pos hn]
theorem uFirst_none {s:List UInt8}(hm:∀k,1≤k→k < 5→¬(k≤s.length∧uHit (s.take k))):uFirst s=0:=by
 unfold uFirst;rw[if_neg (hm 1 (by omega) (by omega)),if_neg (hm 2 (by omega) (by omega)),if_neg (hm 3 (by omega) (by omega)),if_neg (hm 4 (by omega) (by omega))]
/-- May a text be said? -/
def uGoodF:Nat→List UInt8→Bool
 | 0,s=>s.isEmpty
 | f+1,s=>if s.isEmpty then true else if uFirst s=0 then false else uGoodF f (s.drop (uFirst s))
def uGood (s:List UInt8):Bool:=uGoodF s.length s
theorem uGoodF_more {f:Nat}{s:List UInt8}(h:s.length≤f):uGoodF (f+1) s=uGoodF f s:=by
 induction f generalizing s with
 | zero=>
  obtain rfl:s= []:=List.length_eq_zero_iff.1 (by omega);rfl
 | succ f ih=>
  show(if s.isEmpty then true else if uFirst s=0 then false else uGoodF (f+1) (s.drop (uFirst s)))=(if s.isEmpty then true else if uFirst s=0 then false else uGoodF f (s.drop (uFirst s)))
  by_cases h0:uFirst s=0
  ·rw[if_pos h0,if_pos h0]
  ·rw[if_neg h0,if_neg h0,ih (by rw[List.length_drop];omega)]
theorem uGoodF_any {f:Nat}{s:List UInt8}(h:s.length≤f):uGoodF f s=uGood s:=by
 obtain⟨d,rfl⟩:∃d,f=s.length+d:=⟨f - s.length,by omega⟩
 induction d with
 | zero=>rfl
 | succ d ih=>rw[←Nat.add_assoc,uGoodF_more (by omega),ih (by omega)]
theorem uGood_step {s:List UInt8}(h:s≠ []):uGood s=if uFirst s=0 then false else uGood (s.drop (uFirst s)):=by
 have hl:s.length≠0:=fun e=>h (List.length_eq_zero_iff.1 e)
 rw[←uGoodF_any (Nat.le_succ s.length),uGoodF,if_neg (by cases s <;> simp at h ⊢)]
 split
 ·rfl
 ·rw[uGoodF_any (by rw[List.length_drop];omega)]

end Go.Proofs.YtahbikfbjenfpaaGreatDoor

namespace Go.Proofs.YtahbikfbjenfpaaGreatDoor
open Go

/-- The levels of a text. -/
def tLev:List UInt8→List (List UInt8)
 | []=> [[]]
 | a::s=>if a=47 then []::tLev s else match tLev s with
  | []=> [[a]]
  | l::ls=>(a::l)::ls
theorem tLev_ne (s:List UInt8):tLev s≠ []:=by
 cases s with
 | nil=>simp[tLev]
 | cons a s=>
  unfold tLev
  split
  ·simp
  ·split <;> simp
theorem tLev_other {a:UInt8}{s:List UInt8}(h:a≠47):∃l ls,tLev s=l::ls∧tLev (a::s)=(a::l)::ls:=by
 cases hs:tLev s with
 | nil=>exact absurd hs (tLev_ne s)
 | cons l ls=>exact⟨l,ls,rfl,by rw[tLev,if_neg h,hs]⟩
theorem index_one (a:UInt8)(s:List UInt8):Lib.index (a::s) [47]=if a=47 then 0 else if Lib.index s [47]= -1 then -1 else Lib.index s [47]+1:=by
 rw[Lib.index]
 by_cases h:a=47
 ·subst h
  simp[List.isPrefixOf]
 ·have h' :([47]:List UInt8).isPrefixOf (a::s)=false:=by
   have:((47:UInt8)==a)=false:=by simpa using fun e=>h e.symm
   simp[List.isPrefixOf,this]
  rw[h',if_neg Bool.false_ne_true,if_neg h]
  by_cases hi:Lib.index s [47]= -1
  ·rw[if_pos (beq_iff_eq.2 hi),if_pos hi]
  ·rw[if_neg (fun e=>hi (beq_iff_eq.1 e)),if_neg hi]
theorem split_lev (s:List UInt8):Lib.split s [47]=tLev s:=by
 induction s with
 | nil=>rfl
 | cons a s ih=>
  unfold Lib.split at ih ⊢
  by_cases h:a=47
  ·subst h
   rw[Lib.count_cons_eq,Nat.add_comm,Lib.splitK,tLev,if_pos rfl,index_one,if_pos rfl,←ih];rfl
  ·rw[Lib.count_cons_ne a 47 s h]
   obtain⟨l,ls,e1,e2⟩:=tLev_other (s:=s) h;rw[e2];rw[e1]at ih
   cases hk:Lib.count s [47]with
   | zero=>
    rw[hk,Lib.splitK]at ih;rw[Lib.splitK];injection ih with i1 i2
    rw[i1,i2]
   | succ k=>
    rw[hk,Lib.splitK]at ih;rw[Lib.splitK,index_one,if_neg h];have hge:=Lib.index_ge s [47]
    by_cases hi:Lib.index s [47]= -1
    ·rw[if_pos (beq_iff_eq.2 hi)]at ih
     rw[if_pos hi,if_pos (show((-1:Int)== -1)=true from rfl)];injection ih with i1 i2
     rw[i1,i2]
    ·rw[if_neg (fun e=>hi (beq_iff_eq.1 e))]at ih
     rw[if_neg hi,if_neg (fun e=>by have:=beq_iff_eq.1 e;omega)];injection ih with i1 i2
     obtain⟨m,hm⟩:∃m:Nat,Lib.index s [47]=m:=⟨(Lib.index s [47]).toNat,by omega⟩;rw[hm]at i1 i2 ⊢
     have e3:((m:Int)+1).toNat=m+1:=by omega
     have e4:((m:Int)).toNat=m:=by omega
     rw[e3];rw[e4]at i1 i2;rw[Nat.add_zero,zts,←i1,←i2,Nat.add_zero,List.length_singleton,zds];simp
/-- Has a text a sign? -/
def tSign (s:List UInt8):Bool:=s.any fun b=>b==43 || b==35
/-- May it be said, and has it a fitting length? -/
def tSaid (s:List UInt8):Bool:=decide (1≤s.length) && decide (s.length≤200) && uGood s
def tName (s:List UInt8):Bool:=tSaid s && !tSign s
/-- Is a level right: the last one, if it is so told? -/
def tOk (x:List UInt8)(last:Bool):Bool:=x== [43] || (x== [35] && last) || !tSign x
def tOks:List (List UInt8)→Bool
 | []=>true
 | [x]=>tOk x true
 | x::y::l=>tOk x false && tOks (y::l)
def tFilter (s:List UInt8):Bool:=tSaid s && tOks (tLev s)
/-- Do levels of a filter meet those of a name? -/
def tMeetL:List (List UInt8)→List (List UInt8)→Bool
 | [],n=>n.isEmpty
 | f::fs,n=>if f= [35]then true else match n with
  | []=>false
  | x::ns=>(f== [43] || f==x) && tMeetL fs ns
/-- May a filter meet a name that begins so? -/
def tStarts (f n:List UInt8):Bool:= !(([36]:List UInt8).isPrefixOf n) || (!(([43]:List UInt8).isPrefixOf f) && !(([35]:List UInt8).isPrefixOf f))
def tMeets (f n:List UInt8):Bool:=tStarts f n && tMeetL (tLev f) (tLev n)
/-- Do levels meet all that others meet? -/
def tWithL:List (List UInt8)→List (List UInt8)→Bool
 | a, []=>a.isEmpty
 | a,b::bs=>if b= [35]then true else match a with
  | []=>false
  | x::az=>if x= [35]then false else(b== [43] || x==b) && tWithL az bs
def tWide (a:List UInt8):List (List UInt8):=if a= [35]∨a= [47,35]then(tLev a).dropLast++ [[43], [35]]else tLev a
def tWithin (a b:List UInt8):Bool:=tStarts b a && tWithL (tWide a) (tLev b)
theorem tLev_len (s:List UInt8):(tLev s).length≤s.length+1:=by
 induction s with
 | nil=>simp[tLev]
 | cons a s ih=>
  by_cases h:a=47
  ·rw[tLev,if_pos h];simp;omega
  ·obtain⟨l,ls,e1,e2⟩:=tLev_other (s:=s) h
   rw[e2];rw[e1]at ih;simp at ih ⊢
   omega
theorem tLev_size {s:List UInt8}{x:List UInt8}(h:x∈tLev s):x.length≤s.length:=by
 induction s generalizing x with
 | nil=>simp[tLev]at h;subst h;simp
 | cons a s ih=>
  by_cases e:a=47
  ·rw[tLev,if_pos e]at h
   rcases List.mem_cons.1 h with rfl | h
   ·simp
   ·have:=ih h;simp;omega
  ·obtain⟨l,ls,e1,e2⟩:=tLev_other (s:=s) e
   rw[e2]at h
   rcases List.mem_cons.1 h with rfl | h
   ·have:=ih (x:=l) (by rw[e1];simp)
    simp;omega
   ·have:=ih (x:=x) (by rw[e1];exact List.mem_cons_of_mem _ h)
    simp;omega
/-- What is left of a name's levels behind some of a filter's. -/
def mtRun:List (List UInt8)→List (List UInt8)→Option (List (List UInt8))
 | [],n=>some n
 | f::fs,n=>if f= [35]then none else match n with
  | []=>none
  | x::ns=>if(f== [43] || f==x)=true then mtRun fs ns else none

/-- A packet. -/
structure Pk where
 k:Int
 dup:Bool
 ret:Bool
 q:Int
 t:List UInt8
 b:List UInt8
 id:Int
 c:List UInt8
 cl:Bool
 keep:Int
 hw:Bool
 wt:List UInt8
 wb:List UInt8
 wq:Int
 wr:Bool
 hu:Bool
 hp:Bool
 u:List UInt8
 pw:List UInt8
 pr:Bool
 code:Int
 wants:List (List UInt8×Int)
 codes:List Int
 fs:List (List UInt8)
deriving DecidableEq
def pkZ:Pk:=⟨0,false,false,0, [], [],0, [],false,0,false, [], [],0,false,false,false, [], [],false,0, [], [], []⟩
def pkIn (n a b:Int):Bool:=decide (a≤n) && decide (n≤b)
theorem pkIn_iff {n a b:Int}:pkIn n a b=true↔a≤n∧n≤b:=by
 unfold pkIn;simp
/-- What a packet's kind has of it, and nothing else. -/
def pkAlone (p:Pk):Pk:=
 if p.k=1 then{pkZ with k:=p.k,c:=p.c,cl:=p.cl,keep:=p.keep,hw:=p.hw,wt:=p.wt,wb:=p.wb,wq:=p.wq,wr:=p.wr,hu:=p.hu,hp:=p.hp,u:=p.u,pw:=p.pw}
 else if p.k=2 then{pkZ with k:=p.k,pr:=p.pr,code:=p.code}
 else if p.k=3 then{pkZ with k:=p.k,t:=p.t,b:=p.b,q:=p.q,ret:=p.ret,dup:=p.dup,id:=p.id}
 else if p.k=8 then{pkZ with k:=p.k,id:=p.id,wants:=p.wants}
 else if p.k=9 then{pkZ with k:=p.k,id:=p.id,codes:=p.codes}
 else if p.k=10 then{pkZ with k:=p.k,id:=p.id,fs:=p.fs}
 else if p.k=12∨p.k=13∨p.k=14 then{pkZ with k:=p.k}
 else{pkZ with k:=p.k,id:=p.id}
def pkSaid (s:List UInt8)(n:Nat):Bool:=decide (s.length≤n) && uGood s
def pkId (p:Pk):Bool:=pkIn p.id 1 65535
def pkWill (p:Pk):Bool:=if p.hw then tName p.wt && (decide (p.wb.length≤2000) && pkIn p.wq 0 2)else p.wt.isEmpty && (p.wb.isEmpty && (p.wq==0 && !p.wr))
def pkUser (p:Pk):Bool:=if p.hu then pkSaid p.u 200 else p.u.isEmpty && !p.hp
def pkPass (p:Pk):Bool:=if p.hp then decide (p.pw.length≤200)else p.pw.isEmpty
def pkMany {α:Type}(l:List α)(is:α→Bool):Bool:=decide (1≤l.length) && (decide (l.length≤8) && l.all is)
/-- May a packet be, by its kind? -/
def pkMay (p:Pk):Bool:=
 if p.k=1 then pkSaid p.c 23 && ((p.cl || !p.c.isEmpty) && (pkIn p.keep 0 65535 && (pkWill p && (pkUser p && pkPass p))))
 else if p.k=2 then pkIn p.code 0 5 && (p.code==0 || !p.pr)
 else if p.k=3 then tName p.t && (decide (p.b.length≤2000) && (pkIn p.q 0 2 && (if p.q=0 then p.id==0 && !p.dup else pkId p)))
 else if p.k=8 then pkId p && pkMany p.wants fun w=>tFilter w.1 && pkIn w.2 0 2
 else if p.k=9 then pkId p && pkMany p.codes fun c=>pkIn c 0 2 || c==128
 else if p.k=10 then pkId p && pkMany p.fs tFilter
 else if p.k=12∨p.k=13∨p.k=14 then true
 else pkId p
def pkOk (p:Pk):Bool:=pkIn p.k 1 14 && (pkMay p && decide (pkAlone p=p))
/-- The bytes behind a packet's length. -/
def pkTx (s:List UInt8):List UInt8:=toBE 2 s.length++s
def pkTwo (n:Int):List UInt8:=toBE 2 n.toNat
def pkOne (n:Nat):List UInt8:=toBE 1 n
def pkB (b:Bool)(n:Nat):Nat:=bif b then n else 0
def pkConn (p:Pk):Nat:=pkB p.hu 128+pkB p.hp 64+pkB p.wr 32+pkB p.hw 4+pkB p.cl 2+8*p.wq.toNat
def pkPub (p:Pk):Nat:=pkB p.dup 8+pkB p.ret 1+2*p.q.toNat
def pkF (p:Pk):Nat:=if p.k=3 then pkPub p else if p.k=6∨p.k=8∨p.k=10 then 2 else 0
def pkIf (b:Bool)(l:List UInt8):List UInt8:=if b then l else []
def pkBody (p:Pk):List UInt8:=
 if p.k=1 then pkTx [77,81,84,84]++(pkOne 4++(pkOne (pkConn p)++(pkTwo p.keep++(pkTx p.c++(pkIf p.hw (pkTx p.wt++pkTx p.wb)++(pkIf p.hu (pkTx p.u)++pkIf p.hp (pkTx p.pw)))))))
 else if p.k=2 then pkOne (pkB p.pr 1)++pkOne p.code.toNat
 else if p.k=3 then pkTx p.t++(pkIf (decide (0 < p.q)) (pkTwo p.id)++p.b)
 else if p.k=8 then pkTwo p.id++p.wants.flatMap fun w=>pkTx w.1++pkOne w.2.toNat
 else if p.k=9 then pkTwo p.id++p.codes.flatMap fun c=>pkOne c.toNat
 else if p.k=10 then pkTwo p.id++p.fs.flatMap pkTx
 else if p.k=12∨p.k=13∨p.k=14 then []
 else pkTwo p.id
def pkRaw (p:Pk):List UInt8:=lnB (16*p.k.toNat+pkF p)::(lnRaw (pkBody p).length++pkBody p)
theorem tName_le {s:List UInt8}(h:tName s=true):s.length≤200:=by
 unfold tName tSaid at h;simp only[Bool.and_eq_true,decide_eq_true_eq]at h;omega
theorem tFilter_le {s:List UInt8}(h:tFilter s=true):s.length≤200:=by
 unfold tFilter tSaid at h;simp only[Bool.and_eq_true,decide_eq_true_eq]at h;omega
theorem pkSaid_le {s:List UInt8}{n:Nat}(h:pkSaid s n=true):s.length≤n:=by
 unfold pkSaid at h;simp only[Bool.and_eq_true,decide_eq_true_eq]at h;exact h.1
end Go.Proofs.YtahbikfbjenfpaaGreatDoor

namespace Go.Proofs.YtahbikfbjenfpaaGreatDoor
open Go.RowKit

section
variable {w w' :World} {base base' size n c:Nat} {e:TypeId} {v:Value} {xs:List Value} {S:List Nat} {A:Option Addr}
theorem ownN_slice (h:w.ownsRow base e size v n xs):∃A c,v= .slice A n c∧n≤c∧c≤maxLen:=by
 rcases h.2 with⟨rfl,rfl⟩ | ⟨g,cap,cur,rfl,_,_,hnc,hcm,_⟩
 ·exact⟨none,0,rfl,Nat.le_refl _,by simp[maxLen]⟩
 ·exact⟨_,cap,rfl,hnc,hcm⟩
theorem ownN_keep (h:w.ownsRow base e size v n xs)(hk:Keeps w w' S)(hs:∀g,v.ownBlock=some g→g∉S):w'.ownsRow base e size v n xs:=by
 obtain⟨h1,h2⟩:=h;refine⟨h1, ?_⟩
 rcases h2 with h2 | ⟨g,cap,cur,hv,hg,hh,r⟩
 ·exact .inl h2
 ·subst hv
  have hlt:g < w.heap.size:=(Array.getElem?_eq_some_iff.1 hh).1;exact .inr ⟨g,cap,cur,rfl,hg,(hk.block g hlt (hs g rfl)).trans hh,r⟩
theorem ownN_row (h:w.ownsRow base e size v n xs):∀g,v.ownBlock=some g→base≤g∧∃cs,Row w g e cs:=fun g hg=>by
 rcases h.2 with⟨rfl,_⟩ | ⟨gb,cap,cur,rfl,e2,hh,_⟩
 ·simp[Value.ownBlock]at hg
 ·obtain rfl:gb=g:=by simpa [Value.ownBlock]using hg
  exact⟨e2,cur,hh⟩
end
section
variable {P:Program} (w:World)
/-- append onto a row of the call's own (or onto nil), the source nil, empty or not. -/
theorem run_append_liesN (base:Nat)(t ty e:TypeId)(i:TypeInfo)(z:Value)(size bytes:Nat)(ht:P.underlying t=some (.slice e))(hi:P.info? e=some i)(hz:i.zero=some z)
  (hsize:i.size=size) (hby:i.bytes=bytes) (hzs:z.cells.size=size) (hsz:0 < size)
  (v:Value) (n:Nat) (xs:List Value) (hown:w.ownsRow base e size v n xs)
  (B:Nat) (A:Option Addr) (m c:Nat) (news:List Value) (hm:news.length=m*size) (hr:Lies w B A news) (h1:∀u∈news,u.oneCell' =true)
  (h63:n+m≤maxLen) (hbytes:(n+m)*bytes≤140737488355328) (hbase:base≤w.heap.size):
  ∃v' w',(Builtin.append_ #[t,t] ty #[v,.slice A m c]).run P w= .ok v' w' ∧w'.ownsRow base e size v' (n+m) (xs++news)∧w.grownBy w' v.ownBlock∧
   (v'.ownBlock=v.ownBlock∨v'.ownBlock=some w.heap.size):=by
 have nothing:m=0→A=none→∃v' w',(Builtin.append_ #[t,t] ty #[v,.slice A m c]).run P w= .ok v' w' ∧w'.ownsRow base e size v' (n+m) (xs++news)∧w.grownBy w' v.ownBlock∧
   (v'.ownBlock=v.ownBlock∨v'.ownBlock=some w.heap.size):=by
  rintro rfl rfl;have hn:news= []:=List.eq_nil_of_length_eq_zero (by rw[hm,Nat.zero_mul]);subst hn;refine⟨v,w, ?_,by simpa using hown,⟨rfl,rfl,rfl,Nat.le_refl _,fun _ _ _=>rfl⟩,.inl rfl⟩
  rcases hown.2 with⟨rfl,rfl⟩ | ⟨g,cap,cur,rfl,_,_,hnc,_⟩
  ·simp[Builtin.append_,run_underlying ht,sizeOf,typeInfo,hi,Builtin.lenOf,Builtin.firstCells]
  ·simp[Builtin.append_,run_underlying ht,sizeOf,typeInfo,hi,Builtin.lenOf,Builtin.firstCells,hnc,storeCells]
 rcases Nat.eq_zero_or_pos m with h0 | h0
 ·rcases A with _ | ad
  ·exact nothing h0 rfl
  ·have hn:news= []:=List.eq_nil_of_length_eq_zero (by rw[hm,h0,Nat.zero_mul])
   subst hn;obtain⟨v',w',hrun,h2,h3,_,h5⟩:=run_append_own_at (P:=P) w base t ty e i z size bytes ht hi hz hsize hby hzs hsz v n xs hown ad m c [] hm (fun j u hu=>by simp at hu) h1 h63 hbytes hbase;exact⟨v',w',hrun,h2,h3,h5⟩
 ·obtain⟨b,o,rfl,_,hc⟩:=hr (by rw[hm];exact Nat.mul_pos h0 hsz)
  obtain⟨v',w',hrun,h2,h3,_,h5⟩:=run_append_own_at (P:=P) w base t ty e i z size bytes ht hi hz hsize hby hzs hsz v n xs hown ⟨b,o,none⟩ m c news hm
   (fun j u hu=>by
    rw[←hc j u hu];unfold Addr.add
    split
    ·rename_i h0;subst h0;rfl
    ·rfl) h1 h63 hbytes hbase
  exact⟨v',w',hrun,h2,h3,h5⟩
end
section
variable {P:Program} {w:World}
end

/-- All blocks of cells but s are as they were. -/
def Apart (w w' :World)(s:Nat):Prop:=∃m,(∀t cs,¬Row w m t cs)∧Keeps w w' [s,m]
/-- All blocks of cells but s are as they were (this can be chained). -/
structure RowsBut (s:Nat)(w w' :World):Prop where
 size:w.heap.size≤w'.heap.size
 row:∀{b:Nat} {t:TypeId} {cs:Array Value},b≠s→Row w b t cs→Row w' b t cs
section
variable {w w' w'' :World} {s:Nat}
end
end Go.Proofs.YtahbikfbjenfpaaGreatDoor
