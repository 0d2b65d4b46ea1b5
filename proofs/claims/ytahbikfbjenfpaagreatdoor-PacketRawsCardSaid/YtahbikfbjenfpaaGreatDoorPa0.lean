/- Words for memory: a block that is known whole, a slice that reads as a list, what a call keeps. The cell that holds the greatest length of a needle. Plain mathematics for the walks: the sum of bytes (layer 1) as a function on natural numbers, and small facts on bits. No program is named here. Plain mathematics: a number and its bytes, the higher ones first. No program is named here. -/
import Derived.WalkKit
import Derived.WalkSpells
import Derived.WalkLawsBesides
import Derived.Lib.Hide
import Derived.Maps.AppendAt
import Derived.Deep.AppendLies
import Derived.Deep.Draws
import Derived.Deep.QuietTactic
import Derived.BigQuiet
import Derived.OneCell
import Derived.RowKit
import Derived.Laws.BitsAllLaws
import Derived.Below
import Derived.Test.YtahbikfbjenfpaaGreatDoorPz

namespace Go.Proofs.YtahbikfbjenfpaaGreatDoor
open Go.RowKit

/-- Block g is just the cells cs of element type t, none of them frozen. -/
def Row (w:World)(g:Nat)(t:TypeId)(cs:Array Value):Prop:=w.heap[g]? =some (.cells cs t (0,0))

/-- What a call leaves alone: all blocks but those of S. -/
structure Keeps (w w' :World)(S:List Nat):Prop where
 os:w'.os=w.os
 tape:w'.tape=w.tape
 output:w'.output=w.output
 size:w.heap.size≤w'.heap.size
 block:∀k,k < w.heap.size→k∉S→w'.heap[k]? =w.heap[k]?

section
variable {w w' w'' :World} {S T:List Nat}
theorem Keeps.refl (w:World)(S:List Nat):Keeps w w S:=⟨rfl,rfl,rfl,Nat.le_refl _,fun _ _ _=>rfl⟩
theorem Keeps.trans (h:Keeps w w' S)(k:Keeps w' w'' T)(hT:∀x,x∈T→x < w.heap.size→x∈S):Keeps w w'' S:=
 ⟨k.os.trans h.os,k.tape.trans h.tape,k.output.trans h.output,Nat.le_trans h.size k.size,
 fun i hi hs=>(k.block i (Nat.lt_of_lt_of_le hi h.size) (fun hm=>hs (hT i hm hi))).trans (h.block i hi hs)⟩
theorem Keeps.weaken (h:Keeps w w' S)(hT:∀x,x∈S→x < w.heap.size→x∈T):Keeps w w' T:=
 ⟨h.os,h.tape,h.output,h.size,fun k hk ht=>h.block k hk (fun hm=>ht (hT k hm hk))⟩
theorem Keeps.drew (w:World):Keeps w w.drew []:=⟨rfl,rfl,rfl,Nat.le_refl _,fun _ _ _=>rfl⟩
theorem Keeps.alloc (w:World)(o:Obj):Keeps w (w.alloc o) []:=⟨rfl,rfl,rfl,by simp,fun k hk _=>Below.heap_alloc _ _ _ hk⟩
theorem Keeps.setCell (w:World)(p:Addr)(u:Value):Keeps w (w.setCell p u) [p.block]:=
 ⟨rfl,rfl,rfl,by simp[World.setCell],fun k _ hs=>Below.heap_setCell _ _ _ _ (by simpa using hs)⟩
theorem Keeps.of_grown {row:Option Nat}(h:w.grownBy w' row):Keeps w w' row.toList:=
 ⟨h.os,h.tape,h.output,h.size,fun k hk hs=>h.block k hk (fun e=>hs (by rw[←e];simp))⟩
theorem Keeps.of_below (h:Below w.heap.size w w'):Keeps w w' []:=⟨h.os,h.tape,h.output,h.size,fun k hk _=>h.block k hk⟩
theorem Keeps.below {B:Nat}(h:Keeps w w' S)(hB:B≤w.heap.size)(hS:∀x,x∈S→B≤x):Below B w w' :=
 ⟨h.os,h.tape,h.output,h.size,fun k hk=>h.block k (by omega) (fun hm=>by have:=hS k hm;omega)⟩
theorem Keeps.cell (h:Keeps w w' S){p:Addr}(hp:p.block < w.heap.size)(hs:p.block∉S):w'.cell? p=w.cell? p:=World.cell?_of_block (w:=w) (h.block p.block hp hs)
end

section
variable {w w' :World} {g:Nat} {t:TypeId} {cs:Array Value} {S:List Nat}
theorem Row.lt (h:Row w g t cs):g < w.heap.size:=by
 rcases Nat.lt_or_ge g w.heap.size with hlt | hge
 ·exact hlt
 ·unfold Row at h;rw[Array.getElem?_eq_none hge]at h;cases h
theorem Row.cell (h:Row w g t cs)(i:Nat):w.cell? ⟨g,i,none⟩=cs[i]? :=cell_of_row w g i cs t (0,0) h
theorem Row.frozen (h:Row w g t cs)(i:Nat):w.frozen? ⟨g,i,none⟩=false:=by
 unfold Row at h;simp[World.frozen?,h]
theorem Row.new (w:World)(t:TypeId)(cs:Array Value):Row (w.alloc (.cells cs t)) w.heap.size t cs:=heap_alloc_new w _
theorem Row.alloc (h:Row w g t cs)(o:Obj):Row (w.alloc o) g t cs:=(Below.heap_alloc w o g h.lt).trans h
theorem Row.store (h:Row w g t cs)(i:Nat)(u:Value):Row (w.setCell ⟨g,i,none⟩ u) g t (cs.setIfInBounds i u):=by
 unfold Row at h ⊢
 simp[World.setCell,Array.getElem?_modify,h]
theorem Row.far (h:Row w g t cs){p:Addr}(hp:g≠p.block)(u:Value):Row (w.setCell p u) g t cs:=(Below.heap_setCell w p u g hp).trans h
theorem Row.keep (h:Row w g t cs)(hk:Keeps w w' S)(hs:g∉S):Row w' g t cs:=(hk.block g h.lt hs).trans h
theorem Row.below {B:Nat}(h:Row w g t cs)(hb:Below B w w')(hg:g < B):Row w' g t cs:=(hb.block g hg).trans h
theorem Row.ne_type {g' :Nat}{t' :TypeId}{cs' :Array Value}(h:Row w g t cs)(h' :Row w g' t' cs')(hne:t≠t'):g≠g' :=by
 rintro rfl;unfold Row at h h';rw[h]at h';injection h' with h'
 injection h' with _ ht
 exact hne ht
end

/-- A byte as a cell holds it. -/
def byteV (b:UInt8):Value:= .int .u8 (b.toNat:Int)

/-- The cells from A on read as xs (one cell each), in a block below B; nothing is asked of A where xs is empty. -/
def Lies (w:World)(B:Nat)(A:Option Addr)(xs:List Value):Prop:=
 0 < xs.length→∃b o,A=some ⟨b,o,none⟩∧b < B∧∀i u,xs[i]? =some u→w.cell? ⟨b,o+i,none⟩=some u

section
variable {w w' :World} {B B' :Nat} {A:Option Addr} {xs:List Value} {S:List Nat}
theorem Lies.mono (h:Lies w B A xs)(hB:B≤B'):Lies w B' A xs:=fun hn=>by
 obtain⟨b,o,e,hb,hc⟩:=h hn;exact⟨b,o,e,by omega,hc⟩
theorem Lies.cells (h:Lies w B A xs)(hk:∀p:Addr,p.block < B→w'.cell? p=w.cell? p):Lies w' B A xs:=fun hn=>by
 obtain⟨b,o,e,hb,hc⟩:=h hn;exact⟨b,o,e,hb,fun i u hu=>(hk ⟨b,o+i,none⟩ hb).trans (hc i u hu)⟩
theorem Lies.below (h:Lies w B A xs)(hb:Below B w w'):Lies w' B A xs:=h.cells fun _ hp=>hb.cell hp
theorem Lies.keep (h:Lies w B A xs)(hk:Keeps w w' S)(hB:B≤w.heap.size)(hs:∀x,x∈S→B≤x):Lies w' B A xs:=h.below (hk.below hB hs)
theorem Lies.keep' (h:Lies w B A xs)(hk:Keeps w w' S)(hB:B≤w.heap.size)(hs:∀b o,A=some ⟨b,o,none⟩→b∉S):Lies w' B A xs:=fun hn=>by
 obtain⟨b,o,e,hb,hc⟩:=h hn;exact⟨b,o,e,hb,fun i u hu=>(hk.cell (p:=⟨b,o+i,none⟩) (by simp;omega) (hs b o e)).trans (hc i u hu)⟩
theorem Lies.at_ (h:Lies w B A xs){k:Nat}(hk:k < xs.length):∃b o,A=some ⟨b,o,none⟩∧b < B∧w.cell? ⟨b,o+k,none⟩=some xs[k]:=by
 obtain⟨b,o,e,hb,hc⟩:=h (by omega);exact⟨b,o,e,hb,hc k _ (List.getElem?_eq_getElem hk)⟩
theorem Lies.cut (h:Lies w B A xs){k cap:Nat}(hc:xs.length≤cap):
  Lies w B (if cap=k then A else A.map (·.add k)) (xs.drop k):=fun hn=>by
 have hl:k < xs.length:=by simp at hn;omega
 obtain⟨b,o,rfl,hb,hcell⟩:=h (by omega);rw[if_neg (by omega)];refine⟨b,o+k, ?_,hb,fun i u hu=> ?_⟩
 ·unfold Addr.add;split
  ·rename_i h0;subst h0;simp
  ·simp
 ·rw[Nat.add_assoc];exact hcell _ u (by rw[←hu,List.getElem?_drop])
theorem Lies.take (h:Lies w B A xs)(k:Nat):Lies w B A (xs.take k):=fun hn=>by
 obtain⟨b,o,rfl,hb,hcell⟩:=h (by simp at hn;omega);exact⟨b,o,rfl,hb,fun i u hu=>hcell i u (by
  rw[List.getElem?_take]at hu
  split at hu
  ·exact hu
  ·cases hu)⟩
theorem Lies.of_own {base:Nat}{e:TypeId}{n c:Nat}(h:w.ownsRow base e 1 (.slice A n c) n xs):Lies w w.heap.size A xs:=fun hn=>by
 have hl:xs.length=n:=by simpa using h.1
 obtain⟨g,cap,hv,_,hlt⟩:=h.form (by omega);have hA:A=some ⟨g,0,none⟩:=by injection hv
 subst hA;refine⟨g,0,rfl,hlt,fun i u hu=> ?_⟩;have:=h.cells (g:=g) rfl i u hu;rw[←this];unfold Addr.add
 split
 ·rename_i h0;subst h0;rfl
 ·rfl
end

theorem byteV_one (l:List UInt8):∀u∈l.map byteV,u.oneCell' =true:=by
 intro u hu;obtain⟨x,_,rfl⟩:=List.mem_map.1 hu;rfl
theorem byteV_get (l:List UInt8){k:Nat}(h:k < l.length):(l.map byteV)[k]'(by simpa using h)= .int .u8 (l[k].toNat:Int):=by simp[byteV]

section
variable {P:Program} (w:World)
/-- append onto a row of the call's own (or onto nil), the source nil, empty or not. -/
theorem run_append_lies' (base:Nat)(t ty e:TypeId)(i:TypeInfo)(z:Value)(bytes:Nat)(ht:P.underlying t=some (.slice e))(hi:P.info? e=some i)(hz:i.zero=some z)
  (hsize:i.size=1) (hby:i.bytes=bytes) (hzs:z.cells.size=1)
  (v:Value) (n:Nat) (xs:List Value) (hown:w.ownsRow base e 1 v n xs)
  (B:Nat) (A:Option Addr) (m c:Nat) (news:List Value) (hm:news.length=m) (hr:Lies w B A news) (h1:∀u∈news,u.oneCell' =true)
  (h63:n+m≤maxLen) (hbytes:(n+m)*bytes≤140737488355328) (hbase:base≤w.heap.size):
  ∃v' w',(Builtin.append_ #[t,t] ty #[v,.slice A m c]).run P w= .ok v' w' ∧w'.ownsRow base e 1 v' (n+m) (xs++news)∧w.grownBy w' v.ownBlock∧
   (v'.ownBlock=v.ownBlock∨v'.ownBlock=some w.heap.size):=by
 have nothing:m=0→A=none→∃v' w',(Builtin.append_ #[t,t] ty #[v,.slice A m c]).run P w= .ok v' w' ∧w'.ownsRow base e 1 v' (n+m) (xs++news)∧w.grownBy w' v.ownBlock∧
   (v'.ownBlock=v.ownBlock∨v'.ownBlock=some w.heap.size):=by
  rintro rfl rfl;have hn:news= []:=List.eq_nil_of_length_eq_zero hm;subst hn;refine⟨v,w, ?_,by simpa using hown,⟨rfl,rfl,rfl,Nat.le_refl _,fun _ _ _=>rfl⟩,.inl rfl⟩
  rcases hown.2 with⟨rfl,rfl⟩ | ⟨g,cap,cur,rfl,_,_,hnc,_⟩
  ·simp[Builtin.append_,run_underlying ht,sizeOf,typeInfo,hi,Builtin.lenOf,Builtin.firstCells]
  ·simp[Builtin.append_,run_underlying ht,sizeOf,typeInfo,hi,Builtin.lenOf,Builtin.firstCells,hnc,storeCells]
 rcases Nat.eq_zero_or_pos m with h0 | h0
 ·rcases A with _ | ad
  ·exact nothing h0 rfl
  ·have hn:news= []:=List.eq_nil_of_length_eq_zero (by omega)
   subst hn;obtain⟨v',w',hrun,h2,h3,_,h5⟩:=run_append_own_at (P:=P) w base t ty e i z 1 bytes ht hi hz hsize hby hzs (by omega) v n xs hown ad m c [] (by simpa using hm) (fun j u hu=>by simp at hu) h1 h63 hbytes hbase;exact⟨v',w',hrun,h2,h3,h5⟩
 ·obtain⟨b,o,rfl,_,hc⟩:=hr (by omega)
  obtain⟨v',w',hrun,h2,h3,_,h5⟩:=run_append_own_at (P:=P) w base t ty e i z 1 bytes ht hi hz hsize hby hzs (by omega) v n xs hown ⟨b,o,none⟩ m c news (by simpa using hm)
   (fun j u hu=>by
    rw[←hc j u hu];unfold Addr.add
    split
    ·rename_i h0;subst h0;rfl
    ·rfl) h1 h63 hbytes hbase
  exact⟨v',w',hrun,h2,h3,h5⟩

theorem wpList_append_lies' {ops:Array Oper}{rest:List Oper}{o:Oper}{a:Act}{Q:Exit→Act→World→Prop}(hgd:o.guard=none)(s x:Operand)(t:TypeId)
  (ho:o.op= .call {callee:= .builtin .append,args:= #[s,x],argTypes:= #[t,t]})
  (base:Nat) (e:TypeId) (i:TypeInfo) (z:Value) (bytes:Nat) (ht:P.underlying t=some (.slice e)) (hi:P.info? e=some i) (hz:i.zero=some z)
  (hsize:i.size=1) (hby:i.bytes=bytes) (hzs:z.cells.size=1)
  (v:Value) (n:Nat) (xs:List Value) (hs:a.eval s=v) (hown:w.ownsRow base e 1 v n xs)
  (B:Nat) (A:Option Addr) (m c:Nat) (news:List Value) (hx:a.eval x= .slice A m c) (hm:news.length=m) (hr:Lies w B A news) (h1:∀u∈news,u.oneCell' =true)
  (h63:n+m≤maxLen) (hbytes:(n+m)*bytes≤140737488355328) (hbase:base≤w.heap.size)
  (h:∀v' w',w'.ownsRow base e 1 v' (n+m) (xs++news)→w.grownBy w' v.ownBlock→(v'.ownBlock=v.ownBlock∨v'.ownBlock=some w.heap.size)→wpList P ops Q rest (a.put o.dst v') w'):wpList P ops Q (o::rest) a w:=by
 refine wpList_plain hgd fun K hK=> ?_
 obtain⟨v',w',hrun,h2,h3,h4⟩:=run_append_lies' (P:=P) w base t o.type e i z bytes ht hi hz hsize hby hzs v n xs hown B A m c news hm hr h1 h63 hbytes hbase;unfold Oper.wp execOp;simp only[ho,resolve,invoke,builtin,Sem.run_bind,Sem.run_pure,Result.andThen_ok,List.map_toArray,List.map_cons,List.map_nil,hs,hx,hrun];exact hK _ _ (h v' w' h2 h3 h4)
end

section
variable {P:Program} (w:World)
end

/-- The value of an owned row, taken apart. -/
theorem own_slice {w:World}{base:Nat}{e:TypeId}{v:Value}{n:Nat}{xs:List Value}(h:w.ownsRow base e 1 v n xs):∃A c,v= .slice A n c∧n≤c∧c≤maxLen:=by
 rcases h.2 with⟨rfl,rfl⟩ | ⟨g,cap,cur,rfl,_,_,hnc,hcm,_⟩
 ·exact⟨none,0,rfl,Nat.le_refl _,by simp[maxLen]⟩
 ·exact⟨_,cap,rfl,hnc,hcm⟩
theorem own_keep {w w' :World}{base:Nat}{e:TypeId}{v:Value}{n:Nat}{xs:List Value}{S:List Nat}(h:w.ownsRow base e 1 v n xs)(hk:Keeps w w' S)(hs:∀g,v.ownBlock=some g→g∉S):w'.ownsRow base e 1 v n xs:=by
 obtain⟨h1,h2⟩:=h;refine⟨h1, ?_⟩
 rcases h2 with h2 | ⟨g,cap,cur,hv,hg,hh,r⟩
 ·exact .inl h2
 ·subst hv
  have hlt:g < w.heap.size:=(Array.getElem?_eq_some_iff.1 hh).1;exact .inr ⟨g,cap,cur,rfl,hg,(hk.block g hlt (hs g rfl)).trans hh,r⟩
theorem own_base {w:World}{base base' :Nat}{e:TypeId}{v:Value}{n:Nat}{xs:List Value}(h:w.ownsRow base e 1 v n xs)(hb:base' ≤base):w.ownsRow base' e 1 v n xs:=by
 obtain⟨h1,h2⟩:=h;refine⟨h1, ?_⟩
 rcases h2 with h2 | ⟨g,cap,cur,hv,hg,hh,r⟩
 ·exact .inl h2
 ·exact .inr ⟨g,cap,cur,hv,Nat.le_trans hb hg,hh,r⟩
theorem own_ne_row {w:World}{base:Nat}{e:TypeId}{v:Value}{n:Nat}{xs:List Value}{g:Nat}{t:TypeId}{cs:Array Value}(h:w.ownsRow base e 1 v n xs)(hg:Row w g t cs)(hne:e≠t):v.ownBlock≠some g:=by
 rcases h.2 with⟨rfl,_⟩ | ⟨g',cap,cur,rfl,_,hh,_⟩
 ·simp[Value.ownBlock]
 ·intro he
  have:g' =g:=by simpa [Value.ownBlock]using he
  subst this;exact Row.ne_type (t:=e) hh hg hne rfl

/-- The greatest length's cell holds some number. -/
def MaxL (w:World):Prop:=∃m:Int,w.cell? ⟨0,0,none⟩=some (.int .i64 m)
theorem MaxL.keep {w w' :World}{S:List Nat}(h:MaxL w)(hk:Keeps w w' S)(hs:0∉S):MaxL w' :=by
 obtain⟨m,hm⟩:=h;exact⟨m,(hk.cell (p:=⟨0,0,none⟩) (by
  show 0 < w.heap.size
  rcases Nat.lt_or_ge 0 w.heap.size with h | h
  ·exact h
  ·simp[World.cell?,Array.getElem?_eq_none h]at hm) hs).trans hm⟩
theorem MaxL.keeps {w w' :World}(h:MaxL w)(hk:Keeps w w' []):MaxL w' :=h.keep hk (by simp)

/-- One halving. -/
def crcOne (m:Nat):Nat:=if m % 2=1 then(m / 2)^^^3988292384 else m / 2
def crcR:Nat→Nat→Nat
 | 0,m=>m
 | k+1,m=>crcOne (crcR k m)
def crcWord (b:Nat):Nat:=crcR 8 b
def crcStep (s b:Nat):Nat:=crcWord ((s % 256)^^^b)^^^(s / 256)
def crcRun (s:Nat)(l:List UInt8):Nat:=l.foldl (fun s b=>crcStep s b.toNat) s
def crcSum (l:List UInt8):Nat:=4294967295 - crcRun 4294967295 l

/-- A number out of its bytes, the higher ones first. -/
def beN (l:List UInt8):Nat:=l.foldl (fun n b=>n*256+b.toNat) 0
theorem beN_snoc (l:List UInt8)(b:UInt8):beN (l++ [b])=beN l*256+b.toNat:=by simp[beN]
theorem beN_lt (l:List UInt8):beN l < 256^l.length:=by
 rw[←List.reverse_reverse l]
 induction l.reverse with
 | nil=>simp[beN]
 | cons b l ih=>
  have hb:b.toNat < 256:=b.toNat_lt;rw[List.reverse_cons,beN_snoc];simp only[List.length_append,List.length_reverse,List.length_cons,List.length_nil]at*;rw[Nat.pow_succ];omega
theorem or_byte (n b:Nat)(hb:b < 256):(n*256 ||| b)=n*256+b:=by
 have h:=Nat.two_pow_add_eq_or_of_lt (i:=8) (b:=b) (by omega) n;rw[show(2:Nat)^8=256 from rfl,Nat.mul_comm]at h;exact h.symm
theorem be_step (n b:Nat)(hn:n < 72057594037927936)(hb:b < 256):bits BinOp.or IntKind.u64 ((n:Int)*256) (b:Int)=((n*256+b:Nat):Int):=by
 have h:=u64_or_nat (n*256) b (by omega) (by omega);rw[or_byte n b hb]at h;rw[←h];rfl

/-- A number's bytes, the higher ones first: so many of them. -/
def toBE:Nat→Nat→List UInt8
 | 0,_=> []
 | k+1,n=>toBE k (n / 256)++ [UInt8.ofNat (n % 256)]
theorem toBE_length (k n:Nat):(toBE k n).length=k:=by
 induction k generalizing n with
 | zero=>rfl
 | succ k ih=>simp[toBE,ih]
/-- The first digits of a number, the higher ones first. -/
def digs (n k:Nat):Nat→List UInt8
 | 0=> []
 | j+1=>digs n k j++ [UInt8.ofNat (n / 256^(k - 1 - j))]
theorem digs_length (n k j:Nat):(digs n k j).length=j:=by
 induction j with
 | zero=>rfl
 | succ j ih=>simp[digs,ih]
theorem digs_le (n k j:Nat)(hj:j≤k):digs n (k+1) j=digs (n / 256) k j:=by
 induction j with
 | zero=>rfl
 | succ j ih=>
  rw[digs,digs,ih (by omega)]
  congr 2
  rw[Nat.div_div_eq_div_mul]
  congr 2
  rw[show k+1 - 1 - j=(k - 1 - j)+1 by omega,Nat.pow_succ,Nat.mul_comm]
theorem ofNat_mod (n:Nat):UInt8.ofNat (n % 256)=UInt8.ofNat n:=by
 apply UInt8.toNat_inj.1;simp[UInt8.toNat_ofNat']
theorem digs_all (k n:Nat):digs n k k=toBE k n:=by
 induction k generalizing n with
 | zero=>rfl
 | succ k ih=>
  rw[digs,toBE,←ih,digs_le n k k (Nat.le_refl _),ofNat_mod];simp
theorem digit_val (n m:Nat):((n:Int) / 2^(8*m) % 256)=((UInt8.ofNat (n / 256^m)).toNat:Int):=by
 have h:(256:Nat)^m=2^(8*m):=by rw[Nat.pow_mul]
 rw[UInt8.toNat_ofNat',h,Int.natCast_emod,Int.natCast_ediv,Int.natCast_pow];rfl
theorem toBE_beN_rev (l:List UInt8):toBE l.reverse.length (beN l.reverse)=l.reverse:=by
 induction l with
 | nil=>rfl
 | cons b t ih=>
  have hb:=b.toNat_lt;rw[List.reverse_cons,beN_snoc,List.length_append];show toBE t.reverse.length ((beN t.reverse*256+b.toNat) / 256)++ [UInt8.ofNat ((beN t.reverse*256+b.toNat) % 256)]=_;rw[show(beN t.reverse*256+b.toNat) / 256=beN t.reverse by omega,show(beN t.reverse*256+b.toNat) % 256=b.toNat by omega,ih];simp
theorem toBE_beN (l:List UInt8)(k:Nat)(h:l.length=k):toBE k (beN l)=l:=by
 have:=toBE_beN_rev l.reverse;rw[List.reverse_reverse,h]at this;exact this
theorem beN_toBE (k n:Nat)(h:n < 256^k):beN (toBE k n)=n:=by
 induction k generalizing n with
 | zero=>
  have:n=0:=by simpa using h
  subst this;rfl
 | succ k ih=>
  show beN (toBE k (n / 256)++ [UInt8.ofNat (n % 256)])=n;rw[beN_snoc,ih (n / 256) (by rw[Nat.pow_succ]at h;omega)];simp;omega
theorem toBE_front (j n:Nat):toBE (j+1) n=UInt8.ofNat (n / 256^j)::toBE j n:=by
 induction j generalizing n with
 | zero=>simp[toBE,ofNat_mod]
 | succ j ih=>
  rw[toBE,ih (n / 256)];rw[show toBE (j+1) n=toBE j (n / 256)++ [UInt8.ofNat (n % 256)]from rfl];simp only[List.cons_append]
  congr 2
  rw[Nat.div_div_eq_div_mul,Nat.pow_succ,Nat.mul_comm]
/-- So many noughts, and behind them the last digits. -/
def half (k j n:Nat):List UInt8:=List.replicate (k - j) 0++toBE j n
end Go.Proofs.YtahbikfbjenfpaaGreatDoor
