/- Words for memory: a block that is known whole, a slice that reads as a list, what a call keeps. The cell that holds the greatest length of a needle. Plain mathematics for the walks: the sum of bytes (layer 1) as a function on natural numbers, and small facts on bits. No program is named here. Plain mathematics: a number and its bytes, the higher ones first. No program is named here. -/
import Derived.WalkKit
import Derived.WalkSpells
import Derived.WalkLawsBesides
import Derived.Lib.Hide
import Derived.Maps.AppendAt
import Derived.Deep.AppendLies
import Derived.Deep.Draws
import Derived.Deep.QuietTactic
import Derived.BigQuiet
import Derived.OneCell
import Derived.RowKit
import Derived.Laws.BitsAllLaws
import Derived.Below
import Derived.Test.YtahbikfbjenfpaaGreatDoorPz

namespace Go.Proofs.YtahbikfbjenfpaaGreatDoor
open Tryz Go.RowKit

/-- Block g is just the cells cs of element type t, none of them frozen. -/
def Row (w:au)(g:Nat)(t:TypeId)(cs:Array Value):Prop:=w.heap[g]? =some (.cells cs t (0,0))

/-- What a call leaves alone: all blocks but those of S. -/
structure ae (w w' :au)(S:List Nat):Prop where
 os:w'.os=w.os
 tape:w'.tape=w.tape
 output:w'.output=w.output
 size:w.heap.size<=w'.heap.size
 block:∀k,k < w.heap.size->k∉S->w'.heap[k]? =w.heap[k]?

section
variable {w w' w'' :au} {S T:List Nat}
theorem ae.refl (w:au)(S:List Nat):ae w w S:=⟨rfl,rfl,rfl,bE _,λ_ _ _=>rfl⟩
theorem ae.trans (h:ae w w' S)(k:ae w' w'' T)(hT:∀x,x∈T->x < w.heap.size->x∈S):ae w w'' S:=
 ⟨k.os.trans h.os,k.tape.trans h.tape,k.output.trans h.output,cH h.size k.size,
 λi hi hs=>(k.block i (kB hi h.size) (λhm=>hs (hT i hm hi))).trans (h.block i hi hs)⟩
theorem ae.weaken (h:ae w w' S)(hT:∀x,x∈S->x < w.heap.size->x∈T):ae w w' T:=
 ⟨h.os,h.tape,h.output,h.size,λk hk ht=>h.block k hk (λhm=>ht (hT k hm hk))⟩
theorem ae.drew (w:au):ae w w.drew []:=⟨rfl,rfl,rfl,bE _,λ_ _ _=>rfl⟩
theorem ae.alloc (w:au)(o:Obj):ae w (w.alloc o) []:=⟨rfl,rfl,rfl,by simp,λk hk _=>Below.heap_alloc _ _ _ hk⟩
theorem ae.setCell (w:au)(p:Addr)(u:Value):ae w (w.setCell p u) [p.block]:=
 ⟨rfl,rfl,rfl,by simp[World.setCell],λk _ hs=>Below.heap_setCell _ _ _ _ (by simpa using hs)⟩
theorem ae.fY {row:Option Nat}(h:w.grownBy w' row):ae w w' row.toList:=
 ⟨h.os,h.tape,h.output,h.size,λk hk hs=>h.block k hk (λe=>hs (by rw[<-e];simp))⟩
theorem ae.sx (h:Below w.heap.size w w'):ae w w' []:=⟨h.os,h.tape,h.output,h.size,λk hk _=>h.block k hk⟩
theorem ae.below {B:Nat}(h:ae w w' S)(hB:B<=w.heap.size)(hS:∀x,x∈S->B<=x):Below B w w' :=
 ⟨h.os,h.tape,h.output,h.size,λk hk=>h.block k (by omega) (λhm=>by have:=hS k hm;omega)⟩
theorem ae.cell (h:ae w w' S){p:Addr}(hp:p.block < w.heap.size)(hs:p.block∉S):w'.cell? p=w.cell? p:=World.cell?_of_block (w:=w) (h.block p.block hp hs)
end

section
variable {w w' :au} {g:Nat} {t:TypeId} {cs:Array Value} {S:List Nat}
theorem Row.lt (h:Row w g t cs):g < w.heap.size:=by
 rcases eS g w.heap.size with hlt | hge
 ·exact hlt
 ·unfold Row at h;rw[tW hge]at h;cases h
theorem Row.cell (h:Row w g t cs)(i:Nat):w.cell? ⟨g,i,none⟩=cs[i]? :=cell_of_row w g i cs t (0,0) h
theorem Row.frozen (h:Row w g t cs)(i:Nat):w.frozen? ⟨g,i,none⟩=false:=by
 unfold Row at h;simp[World.frozen?,h]
theorem Row.new (w:au)(t:TypeId)(cs:Array Value):Row (w.alloc (.cells cs t)) w.heap.size t cs:=heap_alloc_new w _
theorem Row.alloc (h:Row w g t cs)(o:Obj):Row (w.alloc o) g t cs:=(Below.heap_alloc w o g h.lt).trans h
theorem Row.store (h:Row w g t cs)(i:Nat)(u:Value):Row (w.setCell ⟨g,i,none⟩ u) g t (cs.setIfInBounds i u):=by
 unfold Row at h ⊢
 simp[World.setCell,Array.getElem?_modify,h]
theorem Row.far (h:Row w g t cs){p:Addr}(hp:g≠p.block)(u:Value):Row (w.setCell p u) g t cs:=(Below.heap_setCell w p u g hp).trans h
theorem Row.keep (h:Row w g t cs)(hk:ae w w' S)(hs:g∉S):Row w' g t cs:=(hk.block g h.lt hs).trans h
theorem Row.below {B:Nat}(h:Row w g t cs)(hb:Below B w w')(hg:g < B):Row w' g t cs:=(hb.block g hg).trans h
theorem Row.fI {g' :Nat}{t' :TypeId}{cs' :Array Value}(h:Row w g t cs)(h' :Row w g' t' cs')(hne:t≠t'):g≠g' :=by
 rintro rfl;unfold Row at h h';rw[h]at h';injection h' with h'
 injection h' with _ ht
 exact hne ht
end

/-- A byte as a cell holds it. -/
def bq (b:UInt8):Value:= .int .u8 (b.toNat:Int)

/-- The cells from A on read as xs (one cell each), in a block below B; nothing is asked of A where xs is empty. -/
def cG (w:au)(B:Nat)(A:Option Addr)(xs:List Value):Prop:=
 0 < xs.length->∃b o,A=some ⟨b,o,none⟩/\b < B/\∀i u,xs[i]? =some u->w.cell? ⟨b,o+i,none⟩=some u

section
variable {w w' :au} {B B' :Nat} {A:Option Addr} {xs:List Value} {S:List Nat}
theorem cG.nil (w:au)(B:Nat)(A:Option Addr):cG w B A []:=λh=>absurd h (by simp)
theorem cG.mono (h:cG w B A xs)(hB:B<=B'):cG w B' A xs:=λhn=>by
 obtain⟨b,o,e,hb,hc⟩:=h hn;exact⟨b,o,e,by omega,hc⟩
theorem cG.cells (h:cG w B A xs)(hk:∀p:Addr,p.block < B->w'.cell? p=w.cell? p):cG w' B A xs:=λhn=>by
 obtain⟨b,o,e,hb,hc⟩:=h hn;exact⟨b,o,e,hb,λi u hu=>(hk ⟨b,o+i,none⟩ hb).trans (hc i u hu)⟩
theorem cG.below (h:cG w B A xs)(hb:Below B w w'):cG w' B A xs:=h.cells λ_ hp=>hb.cell hp
theorem cG.keep (h:cG w B A xs)(hk:ae w w' S)(hB:B<=w.heap.size)(hs:∀x,x∈S->B<=x):cG w' B A xs:=h.below (hk.below hB hs)
theorem cG.yc (h:cG w B A xs)(hk:ae w w' S)(hB:B<=w.heap.size)(hs:∀b o,A=some ⟨b,o,none⟩->b∉S):cG w' B A xs:=λhn=>by
 obtain⟨b,o,e,hb,hc⟩:=h hn;exact⟨b,o,e,hb,λi u hu=>(hk.cell (p:=⟨b,o+i,none⟩) (by simp;omega) (hs b o e)).trans (hc i u hu)⟩
theorem cG.at_ (h:cG w B A xs){k:Nat}(hk:k < xs.length):∃b o,A=some ⟨b,o,none⟩/\b < B/\w.cell? ⟨b,o+k,none⟩=some xs[k]:=by
 obtain⟨b,o,e,hb,hc⟩:=h (by omega);exact⟨b,o,e,hb,hc k _ (rE hk)⟩
theorem cG.cut (h:cG w B A xs){k cap:Nat}(hc:xs.length<=cap):
  cG w B (if cap=k then A else A.map (·.add k)) (xs.drop k):=λhn=>by
 have hl:k < xs.length:=by simp at hn;omega
 obtain⟨b,o,rfl,hb,hcell⟩:=h (by omega);rw[aj (by omega)];refine⟨b,o+k, ?_,hb,λi u hu=> ?_⟩
 ·unfold Addr.add;split
  ·rename_i h0;subst h0;simp
  ·simp
 ·rw[Nat.add_assoc];exact hcell _ u (by rw[<-hu,List.getElem?_drop])
theorem cG.take (h:cG w B A xs)(k:Nat):cG w B A (xs.take k):=λhn=>by
 obtain⟨b,o,rfl,hb,hcell⟩:=h (by simp at hn;omega);exact⟨b,o,rfl,hb,λi u hu=>hcell i u (by
  rw[List.getElem?_take]at hu
  split at hu
  ·exact hu
  ·cases hu)⟩
theorem cG.tG {base:Nat}{e:TypeId}{n c:Nat}(h:w.ownsRow base e 1 (.slice A n c) n xs):cG w w.heap.size A xs:=λhn=>by
 have hl:xs.length=n:=by simpa using h.1
 obtain⟨g,cap,hv,_,hlt⟩:=h.form (by omega);have hA:A=some ⟨g,0,none⟩:=by injection hv
 subst hA;refine⟨g,0,rfl,hlt,λi u hu=> ?_⟩;have:=h.cells (g:=g) rfl i u hu;rw[<-this];unfold Addr.add
 split
 ·rename_i h0;subst h0;rfl
 ·rfl
end

theorem tM (l:aG):∀u∈l.map bq,u.oneCell' =true:=by
 intro u hu;obtain⟨x,_,rfl⟩:=List.mem_map.1 hu;rfl
theorem eW (l:aG){k:Nat}(h:k < l.length):(l.map bq)[k]'(by simpa using h)= .int .u8 (l[k].toNat:Int):=by simp[bq]

section
variable {P:Program} (w:au)
/-- append onto a row of the call's own (or onto nil), the source nil, empty or not. -/
theorem mT (base:Nat)(t ty e:TypeId)(i:TypeInfo)(z:Value)(bytes:Nat)(ht:P.underlying t=some (.slice e))(hi:P.info? e=some i)(hz:i.zero=some z)
  (hsize:i.size=1) (hby:i.bytes=bytes) (hzs:z.cells.size=1)
  (v:Value) (n:Nat) (xs:List Value) (hown:w.ownsRow base e 1 v n xs)
  (B:Nat) (A:Option Addr) (m c:Nat) (news:List Value) (hm:news.length=m) (hr:cG w B A news) (h1:∀u∈news,u.oneCell' =true)
  (h63:n+m<=maxLen) (hbytes:(n+m)*bytes<=140737488355328) (hbase:base<=w.heap.size):
  ∃v' w',(Builtin.append_ #[t,t] ty #[v,.slice A m c]).run P w= .ok v' w' /\w'.ownsRow base e 1 v' (n+m) (xs++news)/\w.grownBy w' v.ownBlock/\
   (v'.ownBlock=v.ownBlock\/v'.ownBlock=some w.heap.size):=by
 have nothing:m=0->A=none->∃v' w',(Builtin.append_ #[t,t] ty #[v,.slice A m c]).run P w= .ok v' w' /\w'.ownsRow base e 1 v' (n+m) (xs++news)/\w.grownBy w' v.ownBlock/\
   (v'.ownBlock=v.ownBlock\/v'.ownBlock=some w.heap.size):=by
  rintro rfl rfl;have hn:news= []:=Ex hm;subst hn;refine⟨v,w, ?_,by simpa using hown,⟨rfl,rfl,rfl,bE _,λ_ _ _=>rfl⟩,.inl rfl⟩
  rcases hown.2 with⟨rfl,rfl⟩ | ⟨g,cap,cur,rfl,_,_,hnc,_⟩
  ·simp[Builtin.append_,run_underlying ht,sizeOf,typeInfo,hi,Builtin.lenOf,Builtin.firstCells]
  ·simp[Builtin.append_,run_underlying ht,sizeOf,typeInfo,hi,Builtin.lenOf,Builtin.firstCells,hnc,storeCells]
 rcases Ey m with h0 | h0
 ·rcases A with _ | ad
  ·exact nothing h0 rfl
  ·have hn:news= []:=Ex (by omega)
   subst hn;obtain⟨v',w',hrun,h2,h3,_,h5⟩:=run_append_own_at (P:=P) w base t ty e i z 1 bytes ht hi hz hsize hby hzs (by omega) v n xs hown ad m c [] (by simpa using hm) (λj u hu=>by simp at hu) h1 h63 hbytes hbase;exact⟨v',w',hrun,h2,h3,h5⟩
 ·obtain⟨b,o,rfl,_,hc⟩:=hr (by omega)
  obtain⟨v',w',hrun,h2,h3,_,h5⟩:=run_append_own_at (P:=P) w base t ty e i z 1 bytes ht hi hz hsize hby hzs (by omega) v n xs hown ⟨b,o,none⟩ m c news (by simpa using hm)
   (λj u hu=>by
    rw[<-hc j u hu];unfold Addr.add
    split
    ·rename_i h0;subst h0;rfl
    ·rfl) h1 h63 hbytes hbase
  exact⟨v',w',hrun,h2,h3,h5⟩

theorem iI {ops:Array Oper}{rest:List Oper}{o:Oper}{a:Act}{Q:Exit->Act->au->Prop}(hgd:o.guard=none)(s x:Operand)(t:TypeId)
  (ho:o.op= .call {callee:= .builtin .append,args:= #[s,x],argTypes:= #[t,t]})
  (base:Nat) (e:TypeId) (i:TypeInfo) (z:Value) (bytes:Nat) (ht:P.underlying t=some (.slice e)) (hi:P.info? e=some i) (hz:i.zero=some z)
  (hsize:i.size=1) (hby:i.bytes=bytes) (hzs:z.cells.size=1)
  (v:Value) (n:Nat) (xs:List Value) (hs:a.eval s=v) (hown:w.ownsRow base e 1 v n xs)
  (B:Nat) (A:Option Addr) (m c:Nat) (news:List Value) (hx:a.eval x= .slice A m c) (hm:news.length=m) (hr:cG w B A news) (h1:∀u∈news,u.oneCell' =true)
  (h63:n+m<=maxLen) (hbytes:(n+m)*bytes<=140737488355328) (hbase:base<=w.heap.size)
  (h:∀v' w',w'.ownsRow base e 1 v' (n+m) (xs++news)->w.grownBy w' v.ownBlock->(v'.ownBlock=v.ownBlock\/v'.ownBlock=some w.heap.size)->wpList P ops Q rest (a.put o.dst v') w'):wpList P ops Q (o::rest) a w:=by
 refine tV hgd λK hK=> ?_
 obtain⟨v',w',hrun,h2,h3,h4⟩:=mT (P:=P) w base t o.type e i z bytes ht hi hz hsize hby hzs v n xs hown B A m c news hm hr h1 h63 hbytes hbase;unfold Oper.wp execOp;simp only[ho,resolve,invoke,builtin,fo,gq,fk,xH,eu,fU,hs,hx,hrun];exact hK _ _ (h v' w' h2 h3 h4)
end

section
variable {P:Program} (w:au)
end

/-- The value of an owned row, taken apart. -/
theorem ck {w:au}{base:Nat}{e:TypeId}{v:Value}{n:Nat}{xs:List Value}(h:w.ownsRow base e 1 v n xs):∃A c,v= .slice A n c/\n<=c/\c<=maxLen:=by
 rcases h.2 with⟨rfl,rfl⟩ | ⟨g,cap,cur,rfl,_,_,hnc,hcm,_⟩
 ·exact⟨none,0,rfl,bE _,by simp[maxLen]⟩
 ·exact⟨_,cap,rfl,hnc,hcm⟩
theorem aM {w w' :au}{base:Nat}{e:TypeId}{v:Value}{n:Nat}{xs:List Value}{S:List Nat}(h:w.ownsRow base e 1 v n xs)(hk:ae w w' S)(hs:∀g,v.ownBlock=some g->g∉S):w'.ownsRow base e 1 v n xs:=by
 obtain⟨h1,h2⟩:=h;refine⟨h1, ?_⟩
 rcases h2 with h2 | ⟨g,cap,cur,hv,hg,hh,r⟩
 ·exact .inl h2
 ·subst hv
  have hlt:g < w.heap.size:=(Array.getElem?_eq_some_iff.1 hh).1;exact .inr ⟨g,cap,cur,rfl,hg,(hk.block g hlt (hs g rfl)).trans hh,r⟩
theorem bR {w:au}{base base' :Nat}{e:TypeId}{v:Value}{n:Nat}{xs:List Value}(h:w.ownsRow base e 1 v n xs)(hb:base' <=base):w.ownsRow base' e 1 v n xs:=by
 obtain⟨h1,h2⟩:=h;refine⟨h1, ?_⟩
 rcases h2 with h2 | ⟨g,cap,cur,hv,hg,hh,r⟩
 ·exact .inl h2
 ·exact .inr ⟨g,cap,cur,hv,cH hb hg,hh,r⟩
theorem lr {w:au}{base:Nat}{e:TypeId}{v:Value}{n:Nat}{xs:List Value}{g:Nat}{t:TypeId}{cs:Array Value}(h:w.ownsRow base e 1 v n xs)(hg:Row w g t cs)(hne:e≠t):v.ownBlock≠some g:=by
 rcases h.2 with⟨rfl,_⟩ | ⟨g',cap,cur,rfl,_,hh,_⟩
 ·simp[Value.ownBlock]
 ·intro he
  have:g' =g:=by simpa [Value.ownBlock]using he
  subst this;exact Row.fI (t:=e) hh hg hne rfl

/-- The greatest length's cell holds some number. -/
def lG (w:au):Prop:=∃m:Int,w.cell? ⟨0,0,none⟩=some (.int .i64 m)
theorem lG.keep {w w' :au}{S:List Nat}(h:lG w)(hk:ae w w' S)(hs:0∉S):lG w' :=by
 obtain⟨m,hm⟩:=h;exact⟨m,(hk.cell (p:=⟨0,0,none⟩) (by
  show 0 < w.heap.size
  rcases eS 0 w.heap.size with h | h
  ·exact h
  ·simp[World.cell?,Array.getElem?_eq_none h]at hm) hs).trans hm⟩
theorem lG.keeps {w w' :au}(h:lG w)(hk:ae w w' []):lG w' :=h.keep hk (by simp)

/-- One halving. -/
def Me (m:Nat):Nat:=if m % 2=1 then(m / 2)^^^3988292384 else m / 2
def OJ:Nat->Nat->Nat
 | 0,m=>m
 | k+1,m=>Me (OJ k m)
def J_ (b:Nat):Nat:=OJ 8 b
def Ka (s b:Nat):Nat:=J_ ((s % 256)^^^b)^^^(s / 256)
def Md (s:Nat)(l:aG):Nat:=l.foldl (λs b=>Ka s b.toNat) s
def RG (l:aG):Nat:=4294967295 - Md 4294967295 l

/-- A number out of its bytes, the higher ones first. -/
def qw (l:aG):Nat:=l.foldl (λn b=>n*256+b.toNat) 0
theorem pN (l:aG)(b:UInt8):qw (l++ [b])=qw l*256+b.toNat:=by simp[qw]
theorem DI (l:aG):qw l < 256^l.length:=by
 rw[<-List.reverse_reverse l]
 induction l.reverse with
 | nil=>simp[qw]
 | cons b l ih=>
  have hb:b.toNat < 256:=b.toNat_lt;rw[List.reverse_cons,pN];simp only[bI,List.length_reverse,du,dR]at*;rw[oK];omega
theorem JI (n b:Nat)(hb:b < 256):(n*256 ||| b)=n*256+b:=by
 have h:=Nat.two_pow_add_eq_or_of_lt (i:=8) (b:=b) (by omega) n;rw[show(2:Nat)^8=256 from rfl,Nat.mul_comm]at h;exact h.symm
theorem Kc (n b:Nat)(hn:n < 72057594037927936)(hb:b < 256):bits BinOp.or IntKind.u64 ((n:Int)*256) (b:Int)=((n*256+b:Nat):Int):=by
 have h:=u64_or_nat (n*256) b (by omega) (by omega);rw[JI n b hb]at h;rw[<-h];rfl

/-- A number's bytes, the higher ones first: so many of them. -/
def dZ:Nat->Nat->aG
 | 0,_=> []
 | k+1,n=>dZ k (n / 256)++ [UInt8.ofNat (n % 256)]
theorem aP (k n:Nat):(dZ k n).length=k:=by
 induction k generalizing n with
 | zero=>rfl
 | succ k ih=>simp[dZ,ih]
/-- The first digits of a number, the higher ones first. -/
def qv (n k:Nat):Nat->aG
 | 0=> []
 | j+1=>qv n k j++ [UInt8.ofNat (n / 256^(k - 1 - j))]
theorem uu (n k j:Nat):(qv n k j).length=j:=by
 induction j with
 | zero=>rfl
 | succ j ih=>simp[qv,ih]
theorem J9 (n k j:Nat)(hj:j<=k):qv n (k+1) j=qv (n / 256) k j:=by
 induction j with
 | zero=>rfl
 | succ j ih=>
  rw[qv,qv,ih (by omega)]
  congr 2
  rw[Aa]
  congr 2
  rw[show k+1 - 1 - j=(k - 1 - j)+1 by omega,oK,Nat.mul_comm]
theorem ofNat_mod (n:Nat):UInt8.ofNat (n % 256)=UInt8.ofNat n:=by
 apply UInt8.toNat_inj.1;simp[UInt8.toNat_ofNat']
theorem Ho (k n:Nat):qv n k k=dZ k n:=by
 induction k generalizing n with
 | zero=>rfl
 | succ k ih=>
  rw[qv,dZ,<-ih,J9 n k k (bE _),ofNat_mod];simp
theorem FI (n m:Nat):((n:Int) / 2^(8*m) % 256)=((UInt8.ofNat (n / 256^m)).toNat:Int):=by
 have h:(256:Nat)^m=2^(8*m):=by rw[Nat.pow_mul]
 rw[z_,h,Int.natCast_emod,Int.natCast_ediv,Int.natCast_pow];rfl
theorem yx (l:aG):dZ l.reverse.length (qw l.reverse)=l.reverse:=by
 induction l with
 | nil=>rfl
 | cons b t ih=>
  have hb:=b.toNat_lt;rw[List.reverse_cons,pN,bI];show dZ t.reverse.length ((qw t.reverse*256+b.toNat) / 256)++ [UInt8.ofNat ((qw t.reverse*256+b.toNat) % 256)]=_;rw[show(qw t.reverse*256+b.toNat) / 256=qw t.reverse by omega,show(qw t.reverse*256+b.toNat) % 256=b.toNat by omega,ih];simp
theorem Gg (l:aG)(k:Nat)(h:l.length=k):dZ k (qw l)=l:=by
 have:=yx l.reverse;rw[List.reverse_reverse,h]at this;exact this
theorem wo (k n:Nat)(h:n < 256^k):qw (dZ k n)=n:=by
 induction k generalizing n with
 | zero=>
  have:n=0:=by simpa using h
  subst this;rfl
 | succ k ih=>
  show qw (dZ k (n / 256)++ [UInt8.ofNat (n % 256)])=n;rw[pN,ih (n / 256) (by rw[oK]at h;omega)];simp;omega
theorem vf (j n:Nat):dZ (j+1) n=UInt8.ofNat (n / 256^j)::dZ j n:=by
 induction j generalizing n with
 | zero=>simp[dZ,ofNat_mod]
 | succ j ih=>
  rw[dZ,ih (n / 256)];rw[show dZ (j+1) n=dZ j (n / 256)++ [UInt8.ofNat (n % 256)]from rfl];simp only[jS]
  congr 2
  rw[Aa,oK,Nat.mul_comm]
/-- So many noughts, and behind them the last digits. -/
def half (k j n:Nat):aG:=List.replicate (k - j) 0++dZ j n
end Go.Proofs.YtahbikfbjenfpaaGreatDoor
