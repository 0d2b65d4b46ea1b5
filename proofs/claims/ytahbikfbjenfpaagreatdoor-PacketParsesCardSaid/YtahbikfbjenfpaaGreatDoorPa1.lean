/- Plain mathematics: a length's bytes, seven bits each, the lower ones first. No program is named here. Plain mathematics: numbers, texts, truths read out of bytes. No program is named here. Package utf, plain: which bytes are a text that may be said. Package utf, plain: texts that may be said, put together and cut at bytes below 128. Package topic, plain: levels, names, filters, what meets. Package packet, plain: packets, which may be, their bytes. Words for rows of elements of many cells. All blocks of cells but one are as they were. -/
import Derived.Test.YtahbikfbjenfpaaGreatDoorPa0
import Derived.Lib.SplitLaws

namespace Go.Proofs.YtahbikfbjenfpaaGreatDoor
open Tryz Go.RowKit

def jE (n:Nat):UInt8:=UInt8.ofNat n
theorem eP {n:Nat}(h:n < 256):(jE n).toNat=n:=by
 unfold jE;rw[z_];omega
theorem mD {x:UInt8}{n:Nat}(h:x.toNat=n):x=jE n:=by
 have hx:=x.toNat_lt;apply UInt8.toNat_inj.1;rw[eP (by omega),h]
/-- How many bytes a length has. -/
def dD (n:Nat):Nat:=if n < 128 then 1 else if n < 16384 then 2 else if n < 2097152 then 3 else 4
/-- A length's bytes. -/
def eF (n:Nat):aG:=
 if n < 128 then [jE n]else if n < 16384 then [jE (n % 128+128),jE (n / 128)]else if n < 2097152 then [jE (n % 128+128),jE (n / 128 % 128+128),jE (n / 16384)]
 else [jE (n % 128+128),jE (n / 128 % 128+128),jE (n / 16384 % 128+128),jE (n / 2097152)]
theorem ed (n:Nat):(eF n).length=dD n:=by
 unfold eF dD
 split
 ·rfl
 ·split
  ·rfl
  ·split <;> rfl
theorem gP (n:Nat):1<=dD n/\dD n<=4:=by
 unfold dD
 split
 ·omega
 ·split
  ·omega
  ·split <;> omega
/-- A length read: none: it is none's; some none: it is not all there. -/
def gi:aG->Option (Option (Nat×Nat))
 | []=>some none
 | a::l1=>if a.toNat < 128 then some (some (a.toNat,1))else match l1 with
  | []=>some none
  | b::l2=>if b.toNat < 128 then(if b.toNat=0 then none else some (some (a.toNat % 128+128*b.toNat,2)))else match l2 with
   | []=>some none
   | c::l3=>if c.toNat < 128 then(if c.toNat=0 then none else some (some (a.toNat % 128+128*(b.toNat % 128)+16384*c.toNat,3)))else match l3 with
    | []=>some none
    | d::_=>if d.toNat < 128 then(if d.toNat=0 then none else some (some (a.toNat % 128+128*(b.toNat % 128)+16384*(c.toNat % 128)+2097152*d.toNat,4)))else none
theorem GV {n:Nat}(h:n < 268435456)(r:aG):gi (eF n++r)=some (some (n,dD n)):=by
 unfold eF dD
 by_cases h1:n < 128
 ·rw[aE h1,aE h1]
  show(if(jE n).toNat < 128 then _ else _)=_;rw[eP (by omega),aE h1]
 ·rw[aj h1,aj h1]
  by_cases h2:n < 16384
  ·rw[aE h2,aE h2]
   show(if(jE (n % 128+128)).toNat < 128 then _ else(if(jE (n / 128)).toNat < 128 then(if(jE (n / 128)).toNat=0 then none else some (some ((jE (n % 128+128)).toNat % 128+128*(jE (n / 128)).toNat,2)))else _))=_;rw[eP (n:=n % 128+128) (by omega),eP (n:=n / 128) (by omega),aj (by omega),aE (by omega),aj (by omega)]
   congr 3
   omega
  ·rw[aj h2,aj h2]
   by_cases h3:n < 2097152
   ·rw[aE h3,aE h3]
    show(if(jE (n % 128+128)).toNat < 128 then _ else(if(jE (n / 128 % 128+128)).toNat < 128 then _ else(if(jE (n / 16384)).toNat < 128 then(if(jE (n / 16384)).toNat=0 then none else some (some ((jE (n % 128+128)).toNat % 128+128*((jE (n / 128 % 128+128)).toNat % 128)+16384*(jE (n / 16384)).toNat,3)))else _)))=_;rw[eP (n:=n % 128+128) (by omega),eP (n:=n / 128 % 128+128) (by omega),eP (n:=n / 16384) (by omega),aj (by omega),aj (by omega),aE (by omega),aj (by omega)]
    congr 3
    omega
   ·rw[aj h3,aj h3]
    show(if(jE (n % 128+128)).toNat < 128 then _ else(if(jE (n / 128 % 128+128)).toNat < 128 then _ else(if(jE (n / 16384 % 128+128)).toNat < 128 then _ else(if(jE (n / 2097152)).toNat < 128 then(if(jE (n / 2097152)).toNat=0 then none else some (some ((jE (n % 128+128)).toNat % 128+128*((jE (n / 128 % 128+128)).toNat % 128)+16384*((jE (n / 16384 % 128+128)).toNat % 128)+2097152*(jE (n / 2097152)).toNat,4)))else none))))=_;rw[eP (n:=n % 128+128) (by omega),eP (n:=n / 128 % 128+128) (by omega),eP (n:=n / 16384 % 128+128) (by omega),eP (n:=n / 2097152) (by omega),aj (by omega),aj (by omega),aj (by omega),aE (by omega),aj (by omega)]
    congr 3
    omega
theorem nW {l:aG}{n s:Nat}(h:gi l=some (some (n,s))):n < 268435456/\s=dD n/\s<=l.length/\l.take s=eF n:=by
 rcases l with _ | ⟨a,l1⟩
 ·cases h
 have ha:=a.toNat_lt
 by_cases a1:a.toNat < 128
 ·have h:(if a.toNat < 128 then some (some (a.toNat,1))else _)=some (some (n,s)):=h
  rw[aE a1]at h;injection h with h
  injection h with h
  injection h with e1 e2
  subst e1 e2;unfold dD eF;rw[aE a1,aE a1];exact⟨by omega,rfl,by simp,ek (·:: []) (mD (x:=a) rfl)⟩
 rcases l1 with _ | ⟨b,l2⟩
 ·have h:(if a.toNat < 128 then some (some (a.toNat,1))else some none)=some (some (n,s)):=h
  rw[aj a1]at h
  cases h
 have hb:=b.toNat_lt
 by_cases b1:b.toNat < 128
 ·have h:(if a.toNat < 128 then some (some (a.toNat,1))else(if b.toNat < 128 then(if b.toNat=0 then none else some (some (a.toNat % 128+128*b.toNat,2)))else _))=some (some (n,s)):=h
  rw[aj a1,aE b1]at h
  by_cases b0:b.toNat=0
  ·rw[aE b0]at h;cases h
  rw[aj b0]at h;injection h with h
  injection h with h
  injection h with e1 e2
  subst e2;unfold dD eF;rw[aj (by omega),aE (by omega),aj (by omega),aE (by omega)];refine⟨by omega,rfl,by simp, ?_⟩;simp only[dc,dg,List.cons.injEq,ai];exact⟨mD (by omega),mD (by omega)⟩
 rcases l2 with _ | ⟨c,l3⟩
 ·have h:(if a.toNat < 128 then some (some (a.toNat,1))else(if b.toNat < 128 then(if b.toNat=0 then none else some (some (a.toNat % 128+128*b.toNat,2)))else some none))=some (some (n,s)):=h
  rw[aj a1,aj b1]at h
  cases h
 have hc:=c.toNat_lt
 by_cases c1:c.toNat < 128
 ·have h:(if a.toNat < 128 then some (some (a.toNat,1))else(if b.toNat < 128 then(if b.toNat=0 then none else some (some (a.toNat % 128+128*b.toNat,2)))else(if c.toNat < 128 then(if c.toNat=0 then none else some (some (a.toNat % 128+128*(b.toNat % 128)+16384*c.toNat,3)))else _)))=some (some (n,s)):=h
  rw[aj a1,aj b1,aE c1]at h
  by_cases c0:c.toNat=0
  ·rw[aE c0]at h;cases h
  rw[aj c0]at h;injection h with h
  injection h with h
  injection h with e1 e2
  subst e2;unfold dD eF;rw[aj (by omega),aj (by omega),aE (by omega),aj (by omega),aj (by omega),aE (by omega)];refine⟨by omega,rfl,by simp, ?_⟩;simp only[dc,dg,List.cons.injEq,ai];exact⟨mD (by omega),mD (by omega),mD (by omega)⟩
 rcases l3 with _ | ⟨d,l4⟩
 ·have h:(if a.toNat < 128 then some (some (a.toNat,1))else(if b.toNat < 128 then(if b.toNat=0 then none else some (some (a.toNat % 128+128*b.toNat,2)))else(if c.toNat < 128 then(if c.toNat=0 then none else some (some (a.toNat % 128+128*(b.toNat % 128)+16384*c.toNat,3)))else some none)))=some (some (n,s)):=h
  rw[aj a1,aj b1,aj c1]at h
  cases h
 have hd:=d.toNat_lt;have h:(if a.toNat < 128 then some (some (a.toNat,1))else(if b.toNat < 128 then(if b.toNat=0 then none else some (some (a.toNat % 128+128*b.toNat,2)))else(if c.toNat < 128 then(if c.toNat=0 then none else some (some (a.toNat % 128+128*(b.toNat % 128)+16384*c.toNat,3)))else(if d.toNat < 128 then(if d.toNat=0 then none else some (some (a.toNat % 128+128*(b.toNat % 128)+16384*(c.toNat % 128)+2097152*d.toNat,4)))else none))))=some (some (n,s)):=h;rw[aj a1,aj b1,aj c1]at h
 by_cases d1:d.toNat < 128
 ·rw[aE d1]at h
  by_cases d0:d.toNat=0
  ·rw[aE d0]at h;cases h
  rw[aj d0]at h;injection h with h
  injection h with h
  injection h with e1 e2
  subst e2;unfold dD eF;rw[aj (by omega),aj (by omega),aj (by omega),aj (by omega),aj (by omega),aj (by omega)];refine⟨by omega,rfl,by simp, ?_⟩;simp only[dc,dg,List.cons.injEq,ai];exact⟨mD (by omega),mD (by omega),mD (by omega),mD (by omega)⟩
 ·rw[aj d1]at h;cases h

theorem k_ {a b:aG}{k:Nat}(h:a.length=k):(a++b).take k=a/\(a++b).drop k=b:=by
 subst h;simp
/-- Numbers, texts, truths, read. -/
def jv (k:Nat)(l:aG):Option (Nat×aG):=if k<=l.length then some (qw (l.take k),l.drop k)else none
def cQ (l:aG):Option (aG×aG):=match jv 2 l with
 | none=>none
 | some (n,r)=>if n<=r.length then some (r.take n,r.drop n)else none
def Ug:aG->Option (Bool×aG)
 | []=>none
 | b::r=>if b.toNat=0 then some (false,r)else if b.toNat=1 then some (true,r)else none
theorem ez {k n:Nat}(h:n < 256^k)(l:aG):jv k (dZ k n++l)=some (n,l):=by
 have hl:=aP k n;unfold jv;rw[aE (by rw[bI];omega),(k_ hl).1,(k_ hl).2,wo k n h]
theorem bJ {k n:Nat}{l r:aG}(h:jv k l=some (n,r)):l=dZ k n++r/\n < 256^k/\k+r.length=l.length:=by
 unfold jv at h
 split at h
 ·rename_i hk
  injection h with h
  injection h with h1 h2
  subst h1 h2;have hl:(l.take k).length=k:=by rw[dq];omega
  refine⟨by rw[Gg _ _ hl,List.take_append_drop], ?_,by rw[dQ];omega⟩;have:=DI (l.take k)
  rwa [hl]at this
 ·cases h
theorem rT {s:aG}(h:s.length < 65536)(l:aG):cQ ((dZ 2 s.length++s)++l)=some (s,l):=by
 unfold cQ;rw[eK,ez (by simpa using h)];simp only;rw[aE (by rw[bI];omega),(k_ rfl).1,(k_ rfl).2]
theorem eH {l s r:aG}(h:cQ l=some (s,r)):l=(dZ 2 s.length++s)++r/\s.length < 65536/\2+(s.length+r.length)=l.length:=by
 unfold cQ at h
 split at h
 ·cases h
 ·rename_i n r' hn
  split at h
  ·rename_i hle
   injection h with h
   injection h with h1 h2
   obtain⟨g1,g2,g3⟩:=bJ hn;have hsl:s.length=n:=by rw[<-h1,dq];omega
   have hrl:r.length=r'.length - n:=by rw[<-h2,dQ]
   refine⟨?_,by simpa [hsl]using g2,by omega⟩;rw[hsl,g1,eK,<-h1,<-h2,List.take_append_drop]
  ·cases h
end Go.Proofs.YtahbikfbjenfpaaGreatDoor

namespace Go.Proofs.YtahbikfbjenfpaaGreatDoor
open Tryz

def u8 (n:Nat):UInt8:=UInt8.ofNat n
/-- The bytes of a rune. -/
def cF (r:Nat):aG:=
 if r < 128 then [u8 r]
 else if r < 2048 then [u8 (192+r / 64),u8 (128+r % 64)]
 else if r < 65536 then [u8 (224+r / 4096),u8 (128+r / 64 % 64),u8 (128+r % 64)]
 else [u8 (240+r / 262144),u8 (128+r / 4096 % 64),u8 (128+r / 64 % 64),u8 (128+r % 64)]
/-- A rune that may be, and is not 0. -/
def iU (r:Nat):Prop:=0 < r/\(r < 55296\/(57343 < r/\r<=1114111))
instance (r:Nat):Decidable (iU r):=by unfold iU;infer_instance
/-- Six bits more. -/
def dS (r:Nat)(l:aG):Nat:=l.foldl (λr x=>64*r+x.toNat % 64) r
/-- The lead of a rune of so many bytes, and what is above it. -/
def dw (n:Nat):Nat:=if n=2 then 192 else if n=3 then 224 else if n=4 then 240 else 0
def mN (n:Nat):Nat:=if n=2 then 224 else if n=3 then 240 else if n=4 then 248 else 128
/-- The rune of so many bytes, read in the reference's way. -/
def qO (l:aG):Nat:=match l with
 | []=>0
 | a::t=>dS (a.toNat - dw l.length) t
/-- Bytes are a rune's that may be. -/
def fN (l:aG):Prop:=∃r,iU r/\cF r=l
theorem cu {n:Nat}(h:n < 256):(u8 n).toNat=n:=by
 unfold u8;rw[z_];omega
theorem rG (r:Nat):(cF r).length=if r < 128 then 1 else if r < 2048 then 2 else if r < 65536 then 3 else 4:=by
 unfold cF
 split
 ·rfl
 ·split
  ·rfl
  ·split <;> rfl
theorem Ge {r:Nat}(h:iU r):qO (cF r)=r:=by
 obtain⟨h0,h1⟩:=h;unfold cF
 split
 ·rename_i h2
  simp only[qO,dS,dw,du,dR,List.foldl_nil];rw[cu (by omega)];simp
 ·split
  ·simp only[qO,dS,dw,du,dR,List.foldl_cons,List.foldl_nil]
   rw[cu (by omega),cu (by omega)];simp;omega
  ·split
   ·simp only[qO,dS,dw,du,dR,List.foldl_cons,List.foldl_nil]
    rw[cu (by omega),cu (by omega),cu (by omega)];simp;omega
   ·simp only[qO,dS,dw,du,dR,List.foldl_cons,List.foldl_nil]
    rw[cu (by omega),cu (by omega),cu (by omega),cu (by omega)];simp;omega
/-- The lead byte of a rune. -/
theorem EC {r:Nat}(h:iU r):∃a t,cF r=a::t/\dw (cF r).length<=a.toNat/\a.toNat < mN (cF r).length:=by
 obtain⟨h0,h1⟩:=h;unfold cF
 split
 ·refine⟨_,_,rfl, ?_⟩
  rw[cu (by omega)];simp[dw,mN];omega
 ·split
  ·refine⟨_,_,rfl, ?_⟩
   rw[cu (by omega)];simp[dw,mN];omega
  ·split
   ·refine⟨_,_,rfl, ?_⟩
    rw[cu (by omega)];simp[dw,mN];omega
   ·refine⟨_,_,rfl, ?_⟩
    rw[cu (by omega)];simp[dw,mN];omega
theorem mP {l:aG}:fN l↔iU (qO l)/\cF (qO l)=l:=by
 constructor
 ·rintro⟨r,h1,rfl⟩
  rw[Ge h1];exact⟨h1,rfl⟩
 ·rintro⟨h1,h2⟩
  exact⟨_,h1,h2⟩
instance (l:aG):Decidable (fN l):=decidable_of_iff _ mP.symm
theorem xJ {l:aG}(h:fN l):∃a t,l=a::t/\dw l.length<=a.toNat/\a.toNat < mN l.length:=by
 obtain⟨r,h1,rfl⟩:=h;exact EC h1
/-- How many bytes the first rune has; 0: there is none. -/
def cP (s:aG):Nat:=
 if 1<=s.length/\fN (s.take 1)then 1 else if 2<=s.length/\fN (s.take 2)then 2 else if 3<=s.length/\fN (s.take 3)then 3 else if 4<=s.length/\fN (s.take 4)then 4 else 0
theorem uY (s:aG):cP s<=s.length/\cP s<=4:=by
 unfold cP
 split
 ·omega
 ·split
  ·omega
  ·split
   ·omega
   ·split <;> omega
theorem ia {s:aG}{n:Nat}(h1:1<=n)(h4:n<=4)(hm:∀k,1<=k->k < n->¬(k<=s.length/\fN (s.take k)))(hn:n<=s.length/\fN (s.take n)):cP s=n:=by
 unfold cP
 rcases(show n=1\/n=2\/n=3\/n=4 by omega)with rfl | rfl | rfl | rfl
 ·rw[aE hn]
 ·rw[aj (hm 1 (by omega) (by omega)),aE hn]
 ·rw[aj (hm 1 (by omega) (by omega)),aj (hm 2 (by omega) (by omega)),aE hn]
 ·rw[aj (hm 1 (by omega) (by omega)),aj (hm 2 (by omega) (by omega)),aj (hm 3 (by omega) (by omega)),aE hn]
theorem ja {s:aG}(hm:∀k,1<=k->k < 5->¬(k<=s.length/\fN (s.take k))):cP s=0:=by
 unfold cP;rw[aj (hm 1 (by omega) (by omega)),aj (hm 2 (by omega) (by omega)),aj (hm 3 (by omega) (by omega)),aj (hm 4 (by omega) (by omega))]
/-- May a text be said? -/
def oQ:Nat->aG->Bool
 | 0,s=>s.isEmpty
 | f+1,s=>if s.isEmpty then true else if cP s=0 then false else oQ f (s.drop (cP s))
def fB (s:aG):Bool:=oQ s.length s
theorem Ad {f:Nat}{s:aG}(h:s.length<=f):oQ (f+1) s=oQ f s:=by
 induction f generalizing s with
 | zero=>
  obtain rfl:s= []:=List.length_eq_zero_iff.1 (by omega);rfl
 | succ f ih=>
  show(if s.isEmpty then true else if cP s=0 then false else oQ (f+1) (s.drop (cP s)))=(if s.isEmpty then true else if cP s=0 then false else oQ f (s.drop (cP s)))
  by_cases h0:cP s=0
  ·rw[aE h0,aE h0]
  ·rw[aj h0,aj h0,ih (by rw[dQ];omega)]
theorem uX {f:Nat}{s:aG}(h:s.length<=f):oQ f s=fB s:=by
 obtain⟨d,rfl⟩:∃d,f=s.length+d:=⟨f - s.length,by omega⟩
 induction d with
 | zero=>rfl
 | succ d ih=>rw[<-Nat.add_assoc,Ad (by omega),ih (by omega)]
theorem qN {s:aG}(h:s≠ []):fB s=if cP s=0 then false else fB (s.drop (cP s)):=by
 have hl:s.length≠0:=λe=>h (List.length_eq_zero_iff.1 e)
 rw[<-uX (Nat.le_succ s.length),oQ,aj (by cases s <;> simp at h ⊢)]
 split
 ·rfl
 ·rw[uX (by rw[dQ];omega)]

end Go.Proofs.YtahbikfbjenfpaaGreatDoor

namespace Go.Proofs.YtahbikfbjenfpaaGreatDoor
open Tryz Go

/-- The levels of a text. -/
def dH:aG->List aG
 | []=> [[]]
 | a::s=>if a=47 then []::dH s else match dH s with
  | []=> [[a]]
  | l::ls=>(a::l)::ls
theorem Ju (s:aG):dH s≠ []:=by
 cases s with
 | nil=>simp[dH]
 | cons a s=>
  unfold dH
  split
  ·simp
  ·split <;> simp
theorem ib {a:UInt8}{s:aG}(h:a≠47):∃l ls,dH s=l::ls/\dH (a::s)=(a::l)::ls:=by
 cases hs:dH s with
 | nil=>exact absurd hs (Ju s)
 | cons l ls=>exact⟨l,ls,rfl,by rw[dH,aj h,hs]⟩
theorem index_one (a:UInt8)(s:aG):Lib.index (a::s) [47]=if a=47 then 0 else if Lib.index s [47]= -1 then -1 else Lib.index s [47]+1:=by
 rw[Lib.index]
 by_cases h:a=47
 ·subst h
  simp[List.isPrefixOf]
 ·have h' :([47]:aG).isPrefixOf (a::s)=false:=by
   have:((47:UInt8)==a)=false:=by simpa using λe=>h e.symm
   simp[List.isPrefixOf,this]
  rw[h',aj Bool.false_ne_true,aj h]
  by_cases hi:Lib.index s [47]= -1
  ·rw[aE (beq_iff_eq.2 hi),aE hi]
  ·rw[aj (λe=>hi (beq_iff_eq.1 e)),aj hi]
theorem EJ (s:aG):Lib.split s [47]=dH s:=by
 induction s with
 | nil=>rfl
 | cons a s ih=>
  unfold Lib.split at ih ⊢
  by_cases h:a=47
  ·subst h
   rw[Lib.count_cons_eq,Nat.add_comm,Lib.splitK,dH,aE rfl,index_one,aE rfl,<-ih];rfl
  ·rw[Lib.count_cons_ne a 47 s h]
   obtain⟨l,ls,e1,e2⟩:=ib (s:=s) h;rw[e2];rw[e1]at ih
   cases hk:Lib.count s [47]with
   | zero=>
    rw[hk,Lib.splitK]at ih;rw[Lib.splitK];injection ih with i1 i2
    rw[i1,i2]
   | succ k=>
    rw[hk,Lib.splitK]at ih;rw[Lib.splitK,index_one,aj h];have hge:=Lib.index_ge s [47]
    by_cases hi:Lib.index s [47]= -1
    ·rw[aE (beq_iff_eq.2 hi)]at ih
     rw[aE hi,aE (show((-1:Int)== -1)=true from rfl)];injection ih with i1 i2
     rw[i1,i2]
    ·rw[aj (λe=>hi (beq_iff_eq.1 e))]at ih
     rw[aj hi,aj (λe=>by have:=beq_iff_eq.1 e;omega)];injection ih with i1 i2
     obtain⟨m,hm⟩:∃m:Nat,Lib.index s [47]=m:=⟨(Lib.index s [47]).toNat,by omega⟩;rw[hm]at i1 i2 ⊢
     have e3:((m:Int)+1).toNat=m+1:=by omega
     have e4:((m:Int)).toNat=m:=by omega
     rw[e3];rw[e4]at i1 i2;rw[fj,dc,<-i1,<-i2,fj,List.length_singleton,dF];simp
/-- Has a text a sign? -/
def gT (s:aG):Bool:=s.any λb=>b==43 || b==35
/-- May it be said, and has it a fitting length? -/
def gU (s:aG):Bool:=decide (1<=s.length) && decide (s.length<=200) && fB s
def fW (s:aG):Bool:=gU s && !gT s
/-- Is a level right: the last one, if it is so told? -/
def yz (x:aG)(last:Bool):Bool:=x== [43] || (x== [35] && last) || !gT x
def Ah:List aG->Bool
 | []=>true
 | [x]=>yz x true
 | x::y::l=>yz x false && Ah (y::l)
def cD (s:aG):Bool:=gU s && Ah (dH s)
/-- Do levels of a filter meet those of a name? -/
def Gi:List aG->List aG->Bool
 | [],n=>n.isEmpty
 | f::fs,n=>if f= [35]then true else match n with
  | []=>false
  | x::ns=>(f== [43] || f==x) && Gi fs ns
/-- May a filter meet a name that begins so? -/
def D4 (f n:aG):Bool:= !(([36]:aG).isPrefixOf n) || (!(([43]:aG).isPrefixOf f) && !(([35]:aG).isPrefixOf f))
def Qt (f n:aG):Bool:=D4 f n && Gi (dH f) (dH n)
/-- Do levels meet all that others meet? -/
def Gh:List aG->List aG->Bool
 | a, []=>a.isEmpty
 | a,b::bs=>if b= [35]then true else match a with
  | []=>false
  | x::az=>if x= [35]then false else(b== [43] || x==b) && Gh az bs
def NC (a:aG):List aG:=if a= [35]\/a= [47,35]then(dH a).dropLast++ [[43], [35]]else dH a
def PG (a b:aG):Bool:=D4 b a && Gh (NC a) (dH b)
theorem vn (s:aG):(dH s).length<=s.length+1:=by
 induction s with
 | nil=>simp[dH]
 | cons a s ih=>
  by_cases h:a=47
  ·rw[dH,aE h];simp;omega
  ·obtain⟨l,ls,e1,e2⟩:=ib (s:=s) h
   rw[e2];rw[e1]at ih;simp at ih ⊢
   omega
theorem tq {s:aG}{x:aG}(h:x∈dH s):x.length<=s.length:=by
 induction s generalizing x with
 | nil=>simp[dH]at h;subst h;simp
 | cons a s ih=>
  by_cases e:a=47
  ·rw[dH,aE e]at h
   rcases List.mem_cons.1 h with rfl | h
   ·simp
   ·have:=ih h;simp;omega
  ·obtain⟨l,ls,e1,e2⟩:=ib (s:=s) e
   rw[e2]at h
   rcases List.mem_cons.1 h with rfl | h
   ·have:=ih (x:=l) (by rw[e1];simp)
    simp;omega
   ·have:=ih (x:=x) (by rw[e1];exact List.mem_cons_of_mem _ h)
    simp;omega
/-- What is left of a name's levels behind some of a filter's. -/
def NM:List aG->List aG->Option (List aG)
 | [],n=>some n
 | f::fs,n=>if f= [35]then none else match n with
  | []=>none
  | x::ns=>if(f== [43] || f==x)=true then NM fs ns else none

/-- A packet. -/
structure Pk where
 k:Int
 dup:Bool
 ret:Bool
 q:Int
 t:aG
 b:aG
 id:Int
 c:aG
 cl:Bool
 keep:Int
 hw:Bool
 wt:aG
 wb:aG
 wq:Int
 wr:Bool
 hu:Bool
 hp:Bool
 u:aG
 pw:aG
 pr:Bool
 code:Int
 wants:List (aG×Int)
 aF:List Int
 fs:List aG
deriving DecidableEq
abbrev T_ (k : Int) (p : Pk) (a b d : Value) : Array Value := zP k p.dup p.ret p.q p.t p.b p.id p.c p.cl p.keep p.hw p.wt p.wb p.wq p.wr p.hu p.hp p.u p.pw p.pr p.code a b d
abbrev uF (k : Int) (p : Pk) (a : Option Addr) (n1 : Nat) (b : Option Addr) (n2 : Nat) (d : Option Addr) (n3 : Nat) : Array Value := zP k p.dup p.ret p.q p.t p.b p.id p.c p.cl p.keep p.hw p.wt p.wb p.wq p.wr p.hu p.hp p.u p.pw p.pr p.code (.slice a p.wants.length n1) (.slice b p.aF.length n2) (.slice d p.fs.length n3)
abbrev Ua (k : Int) (p : Pk) (a b d : Value) : List Value := zL k p.dup p.ret p.q p.t p.b p.id p.c p.cl p.keep p.hw p.wt p.wb p.wq p.wr p.hu p.hp p.u p.pw p.pr p.code a b d
abbrev FT (k : Int) (p : Pk) (a : Option Addr) (n1 : Nat) (b : Option Addr) (n2 : Nat) (d : Option Addr) (n3 : Nat) : List Value := zL k p.dup p.ret p.q p.t p.b p.id p.c p.cl p.keep p.hw p.wt p.wb p.wq p.wr p.hu p.hp p.u p.pw p.pr p.code (.slice a p.wants.length n1) (.slice b p.aF.length n2) (.slice d p.fs.length n3)
def bN:Pk:=⟨0,false,false,0, [], [],0, [],false,0,false, [], [],0,false,false,false, [], [],false,0, [], [], []⟩
def dz (n a b:Int):Bool:=decide (a<=n) && decide (n<=b)
theorem bW {n a b:Int}:dz n a b=true↔a<=n/\n<=b:=by
 unfold dz;simp
/-- What a packet's kind has of it, and nothing else. -/
def aL (p:Pk):Pk:=
 if p.k=1 then{bN with k:=p.k,c:=p.c,cl:=p.cl,keep:=p.keep,hw:=p.hw,wt:=p.wt,wb:=p.wb,wq:=p.wq,wr:=p.wr,hu:=p.hu,hp:=p.hp,u:=p.u,pw:=p.pw}
 else if p.k=2 then{bN with k:=p.k,pr:=p.pr,code:=p.code}
 else if p.k=3 then{bN with k:=p.k,t:=p.t,b:=p.b,q:=p.q,ret:=p.ret,dup:=p.dup,id:=p.id}
 else if p.k=8 then{bN with k:=p.k,id:=p.id,wants:=p.wants}
 else if p.k=9 then{bN with k:=p.k,id:=p.id,aF:=p.aF}
 else if p.k=10 then{bN with k:=p.k,id:=p.id,fs:=p.fs}
 else if p.k=12\/p.k=13\/p.k=14 then{bN with k:=p.k}
 else{bN with k:=p.k,id:=p.id}
def dW (s:aG)(n:Nat):Bool:=decide (s.length<=n) && fB s
def qo (p:Pk):Bool:=dz p.id 1 65535
def o7 (p:Pk):Bool:=if p.hw then fW p.wt && (decide (p.wb.length<=2000) && dz p.wq 0 2)else p.wt.isEmpty && (p.wb.isEmpty && (p.wq==0 && !p.wr))
def o8 (p:Pk):Bool:=if p.hu then dW p.u 200 else p.u.isEmpty && !p.hp
def o9 (p:Pk):Bool:=if p.hp then decide (p.pw.length<=200)else p.pw.isEmpty
def cO {α:Type}(l:List α)(is:α->Bool):Bool:=decide (1<=l.length) && (decide (l.length<=8) && l.all is)
/-- May a packet be, by its kind? -/
def cK (p:Pk):Bool:=
 if p.k=1 then dW p.c 23 && ((p.cl || !p.c.isEmpty) && (dz p.keep 0 65535 && (o7 p && (o8 p && o9 p))))
 else if p.k=2 then dz p.code 0 5 && (p.code==0 || !p.pr)
 else if p.k=3 then fW p.t && (decide (p.b.length<=2000) && (dz p.q 0 2 && (if p.q=0 then p.id==0 && !p.dup else qo p)))
 else if p.k=8 then qo p && cO p.wants λw=>cD w.1 && dz w.2 0 2
 else if p.k=9 then qo p && cO p.aF λc=>dz c 0 2 || c==128
 else if p.k=10 then qo p && cO p.fs cD
 else if p.k=12\/p.k=13\/p.k=14 then true
 else qo p
def fD (p:Pk):Bool:=dz p.k 1 14 && (cK p && decide (aL p=p))
/-- The bytes behind a packet's length. -/
def aO (s:aG):aG:=dZ 2 s.length++s
def bA (n:Int):aG:=dZ 2 n.toNat
def aX (n:Nat):aG:=dZ 1 n
def g_ (b:Bool)(n:Nat):Nat:=bif b then n else 0
def cM (p:Pk):Nat:=g_ p.hu 128+g_ p.hp 64+g_ p.wr 32+g_ p.hw 4+g_ p.cl 2+8*p.wq.toNat
def jq (p:Pk):Nat:=g_ p.dup 8+g_ p.ret 1+2*p.q.toNat
def kM (p:Pk):Nat:=if p.k=3 then jq p else if p.k=6\/p.k=8\/p.k=10 then 2 else 0
def dB (b:Bool)(l:aG):aG:=if b then l else []
def bg (p:Pk):aG:=
 if p.k=1 then aO [77,81,84,84]++(aX 4++(aX (cM p)++(bA p.keep++(aO p.c++(dB p.hw (aO p.wt++aO p.wb)++(dB p.hu (aO p.u)++dB p.hp (aO p.pw)))))))
 else if p.k=2 then aX (g_ p.pr 1)++aX p.code.toNat
 else if p.k=3 then aO p.t++(dB (decide (0 < p.q)) (bA p.id)++p.b)
 else if p.k=8 then bA p.id++p.wants.flatMap λw=>aO w.1++aX w.2.toNat
 else if p.k=9 then bA p.id++p.aF.flatMap λc=>aX c.toNat
 else if p.k=10 then bA p.id++p.fs.flatMap aO
 else if p.k=12\/p.k=13\/p.k=14 then []
 else bA p.id
def gu (p:Pk):aG:=jE (16*p.k.toNat+kM p)::(eF (bg p).length++bg p)
theorem Ai {s:aG}(h:fW s=true):s.length<=200:=by
 unfold fW gU at h;simp only[cR,fA]at h;omega
theorem vo {s:aG}(h:cD s=true):s.length<=200:=by
 unfold cD gU at h;simp only[cR,fA]at h;omega
theorem xU {s:aG}{n:Nat}(h:dW s n=true):s.length<=n:=by
 unfold dW at h;simp only[cR,fA]at h;exact h.1
end Go.Proofs.YtahbikfbjenfpaaGreatDoor

namespace Go.Proofs.YtahbikfbjenfpaaGreatDoor
open Tryz Go.RowKit

section
variable {w w' :au} {base base' size n c:Nat} {e:TypeId} {v:Value} {xs:List Value} {S:List Nat} {A:Option Addr}
theorem Db (h:w.ownsRow base e size v n xs):∃A c,v= .slice A n c/\n<=c/\c<=maxLen:=by
 rcases h.2 with⟨rfl,rfl⟩ | ⟨g,cap,cur,rfl,_,_,hnc,hcm,_⟩
 ·exact⟨none,0,rfl,bE _,by simp[maxLen]⟩
 ·exact⟨_,cap,rfl,hnc,hcm⟩
theorem Fo (h:w.ownsRow base e size v n xs)(hk:ae w w' S)(hs:∀g,v.ownBlock=some g->g∉S):w'.ownsRow base e size v n xs:=by
 obtain⟨h1,h2⟩:=h;refine⟨h1, ?_⟩
 rcases h2 with h2 | ⟨g,cap,cur,hv,hg,hh,r⟩
 ·exact .inl h2
 ·subst hv
  have hlt:g < w.heap.size:=(Array.getElem?_eq_some_iff.1 hh).1;exact .inr ⟨g,cap,cur,rfl,hg,(hk.block g hlt (hs g rfl)).trans hh,r⟩
theorem Bb (h:w.ownsRow base e size v n xs):∀g,v.ownBlock=some g->base<=g/\∃cs,Row w g e cs:=λg hg=>by
 rcases h.2 with⟨rfl,_⟩ | ⟨gb,cap,cur,rfl,e2,hh,_⟩
 ·simp[Value.ownBlock]at hg
 ·obtain rfl:gb=g:=by simpa [Value.ownBlock]using hg
  exact⟨e2,cur,hh⟩
end
section
variable {P:Program} (w:au)
/-- append onto a row of the call's own (or onto nil), the source nil, empty or not. -/
theorem tv (base:Nat)(t ty e:TypeId)(i:TypeInfo)(z:Value)(size bytes:Nat)(ht:P.underlying t=some (.slice e))(hi:P.info? e=some i)(hz:i.zero=some z)
  (hsize:i.size=size) (hby:i.bytes=bytes) (hzs:z.cells.size=size) (hsz:0 < size)
  (v:Value) (n:Nat) (xs:List Value) (hown:w.ownsRow base e size v n xs)
  (B:Nat) (A:Option Addr) (m c:Nat) (news:List Value) (hm:news.length=m*size) (hr:cG w B A news) (h1:∀u∈news,u.oneCell' =true)
  (h63:n+m<=maxLen) (hbytes:(n+m)*bytes<=140737488355328) (hbase:base<=w.heap.size):
  ∃v' w',(Builtin.append_ #[t,t] ty #[v,.slice A m c]).run P w= .ok v' w' /\w'.ownsRow base e size v' (n+m) (xs++news)/\w.grownBy w' v.ownBlock/\
   (v'.ownBlock=v.ownBlock\/v'.ownBlock=some w.heap.size):=by
 have nothing:m=0->A=none->∃v' w',(Builtin.append_ #[t,t] ty #[v,.slice A m c]).run P w= .ok v' w' /\w'.ownsRow base e size v' (n+m) (xs++news)/\w.grownBy w' v.ownBlock/\
   (v'.ownBlock=v.ownBlock\/v'.ownBlock=some w.heap.size):=by
  rintro rfl rfl;have hn:news= []:=Ex (by rw[hm,Nat.zero_mul]);subst hn;refine⟨v,w, ?_,by simpa using hown,⟨rfl,rfl,rfl,bE _,λ_ _ _=>rfl⟩,.inl rfl⟩
  rcases hown.2 with⟨rfl,rfl⟩ | ⟨g,cap,cur,rfl,_,_,hnc,_⟩
  ·simp[Builtin.append_,run_underlying ht,sizeOf,typeInfo,hi,Builtin.lenOf,Builtin.firstCells]
  ·simp[Builtin.append_,run_underlying ht,sizeOf,typeInfo,hi,Builtin.lenOf,Builtin.firstCells,hnc,storeCells]
 rcases Ey m with h0 | h0
 ·rcases A with _ | ad
  ·exact nothing h0 rfl
  ·have hn:news= []:=Ex (by rw[hm,h0,Nat.zero_mul])
   subst hn;obtain⟨v',w',hrun,h2,h3,_,h5⟩:=run_append_own_at (P:=P) w base t ty e i z size bytes ht hi hz hsize hby hzs hsz v n xs hown ad m c [] hm (λj u hu=>by simp at hu) h1 h63 hbytes hbase;exact⟨v',w',hrun,h2,h3,h5⟩
 ·obtain⟨b,o,rfl,_,hc⟩:=hr (by rw[hm];exact Nat.mul_pos h0 hsz)
  obtain⟨v',w',hrun,h2,h3,_,h5⟩:=run_append_own_at (P:=P) w base t ty e i z size bytes ht hi hz hsize hby hzs hsz v n xs hown ⟨b,o,none⟩ m c news hm
   (λj u hu=>by
    rw[<-hc j u hu];unfold Addr.add
    split
    ·rename_i h0;subst h0;rfl
    ·rfl) h1 h63 hbytes hbase
  exact⟨v',w',hrun,h2,h3,h5⟩
end
section
variable {P:Program} {w:au}
end

/-- All blocks of cells but s are as they were. -/
def T9 (w w' :au)(s:Nat):Prop:=∃m,(∀t cs,¬Row w m t cs)/\ae w w' [s,m]
/-- All blocks of cells but s are as they were (this can be chained). -/
structure Qa (s:Nat)(w w' :au):Prop where
 size:w.heap.size<=w'.heap.size
 row:∀{b:Nat} {t:TypeId} {cs:Array Value},b≠s->Row w b t cs->Row w' b t cs
section
variable {w w' w'' :au} {s:Nat}
end
end Go.Proofs.YtahbikfbjenfpaaGreatDoor
