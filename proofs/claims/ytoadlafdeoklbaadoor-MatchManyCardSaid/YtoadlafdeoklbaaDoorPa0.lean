/- Words for memory: a block that is known whole, a slice that reads as a list, what a call keeps. -/
import Derived.WalkKit
import Derived.WalkSpells
import Derived.WalkLawsBesides
import Derived.Lib.Hide
import Derived.Maps.AppendAt
import Derived.Deep.AppendLies
import Derived.Deep.Draws
import Derived.Deep.QuietTactic
import Derived.BigQuiet
import Derived.OneCell
import Derived.Test.YtoadlafdeoklbaaDoorPz

namespace Go.Proofs.YtoadlafdeoklbaaDoor
open Go.RowKit

/-- Block g is just the cells cs of element type t, none of them frozen. -/
def Row (w:World)(g:Nat)(t:TypeId)(cs:Array Value):Prop:=w.heap[g]? =some (.cells cs t (0,0))

/-- What a call leaves alone: all blocks but those of S. -/
structure Keeps (w w' :World)(S:List Nat):Prop where
 os:w'.os=w.os
 tape:w'.tape=w.tape
 output:w'.output=w.output
 size:w.heap.size≤w'.heap.size
 block:∀k,k < w.heap.size→k∉S→w'.heap[k]? =w.heap[k]?

section
variable {w w' w'' :World} {S T:List Nat}
theorem Keeps.refl (w:World)(S:List Nat):Keeps w w S:=⟨rfl,rfl,rfl,Nat.le_refl _,fun _ _ _=>rfl⟩
theorem Keeps.trans (h:Keeps w w' S)(k:Keeps w' w'' T)(hT:∀x,x∈T→x < w.heap.size→x∈S):Keeps w w'' S:=
 ⟨k.os.trans h.os,k.tape.trans h.tape,k.output.trans h.output,Nat.le_trans h.size k.size,
 fun i hi hs=>(k.block i (Nat.lt_of_lt_of_le hi h.size) (fun hm=>hs (hT i hm hi))).trans (h.block i hi hs)⟩
theorem Keeps.weaken (h:Keeps w w' S)(hT:∀x,x∈S→x < w.heap.size→x∈T):Keeps w w' T:=
 ⟨h.os,h.tape,h.output,h.size,fun k hk ht=>h.block k hk (fun hm=>ht (hT k hm hk))⟩
theorem Keeps.drew (w:World):Keeps w w.drew []:=⟨rfl,rfl,rfl,Nat.le_refl _,fun _ _ _=>rfl⟩
theorem Keeps.alloc (w:World)(o:Obj):Keeps w (w.alloc o) []:=⟨rfl,rfl,rfl,by simp,fun k hk _=>Below.heap_alloc _ _ _ hk⟩
theorem Keeps.setCell (w:World)(p:Addr)(u:Value):Keeps w (w.setCell p u) [p.block]:=
 ⟨rfl,rfl,rfl,by simp[World.setCell],fun k _ hs=>Below.heap_setCell _ _ _ _ (by simpa using hs)⟩
theorem Keeps.of_grown {row:Option Nat}(h:w.grownBy w' row):Keeps w w' row.toList:=
 ⟨h.os,h.tape,h.output,h.size,fun k hk hs=>h.block k hk (fun e=>hs (by rw[←e];simp))⟩
theorem Keeps.of_below (h:Below w.heap.size w w'):Keeps w w' []:=⟨h.os,h.tape,h.output,h.size,fun k hk _=>h.block k hk⟩
theorem Keeps.below {B:Nat}(h:Keeps w w' S)(hB:B≤w.heap.size)(hS:∀x,x∈S→B≤x):Below B w w' :=
 ⟨h.os,h.tape,h.output,h.size,fun k hk=>h.block k (by omega) (fun hm=>by have:=hS k hm;omega)⟩
theorem Keeps.cell (h:Keeps w w' S){p:Addr}(hp:p.block < w.heap.size)(hs:p.block∉S):w'.cell? p=w.cell? p:=World.cell?_of_block (w:=w) (h.block p.block hp hs)
end

section
variable {w w' :World} {g:Nat} {t:TypeId} {cs:Array Value} {S:List Nat}
theorem Row.lt (h:Row w g t cs):g < w.heap.size:=by
 rcases Nat.lt_or_ge g w.heap.size with hlt | hge
 ·exact hlt
 ·unfold Row at h;rw[Array.getElem?_eq_none hge]at h;cases h
theorem Row.cell (h:Row w g t cs)(i:Nat):w.cell? ⟨g,i,none⟩=cs[i]? :=cell_of_row w g i cs t (0,0) h
theorem Row.frozen (h:Row w g t cs)(i:Nat):w.frozen? ⟨g,i,none⟩=false:=by
 unfold Row at h;simp[World.frozen?,h]
theorem Row.new (w:World)(t:TypeId)(cs:Array Value):Row (w.alloc (.cells cs t)) w.heap.size t cs:=heap_alloc_new w _
theorem Row.alloc (h:Row w g t cs)(o:Obj):Row (w.alloc o) g t cs:=(Below.heap_alloc w o g h.lt).trans h
theorem Row.store (h:Row w g t cs)(i:Nat)(u:Value):Row (w.setCell ⟨g,i,none⟩ u) g t (cs.setIfInBounds i u):=by
 unfold Row at h ⊢
 simp[World.setCell,Array.getElem?_modify,h]
theorem Row.keep (h:Row w g t cs)(hk:Keeps w w' S)(hs:g∉S):Row w' g t cs:=(hk.block g h.lt hs).trans h
theorem Row.below {B:Nat}(h:Row w g t cs)(hb:Below B w w')(hg:g < B):Row w' g t cs:=(hb.block g hg).trans h
theorem Row.ne_type {g' :Nat}{t' :TypeId}{cs' :Array Value}(h:Row w g t cs)(h' :Row w g' t' cs')(hne:t≠t'):g≠g' :=by
 rintro rfl;unfold Row at h h';rw[h]at h';injection h' with h'
 injection h' with _ ht
 exact hne ht
end

/-- A byte as a cell holds it. -/
def byteV (b:UInt8):Value:= .int .u8 (b.toNat:Int)

/-- The cells from A on read as xs (one cell each), in a block below B; nothing is asked of A where xs is empty. -/
def Lies (w:World)(B:Nat)(A:Option Addr)(xs:List Value):Prop:=
 0 < xs.length→∃b o,A=some ⟨b,o,none⟩∧b < B∧∀i u,xs[i]? =some u→w.cell? ⟨b,o+i,none⟩=some u

section
variable {w w' :World} {B B' :Nat} {A:Option Addr} {xs:List Value} {S:List Nat}
theorem Lies.mono (h:Lies w B A xs)(hB:B≤B'):Lies w B' A xs:=fun hn=>by
 obtain⟨b,o,e,hb,hc⟩:=h hn;exact⟨b,o,e,by omega,hc⟩
theorem Lies.cells (h:Lies w B A xs)(hk:∀p:Addr,p.block < B→w'.cell? p=w.cell? p):Lies w' B A xs:=fun hn=>by
 obtain⟨b,o,e,hb,hc⟩:=h hn;exact⟨b,o,e,hb,fun i u hu=>(hk ⟨b,o+i,none⟩ hb).trans (hc i u hu)⟩
theorem Lies.below (h:Lies w B A xs)(hb:Below B w w'):Lies w' B A xs:=h.cells fun _ hp=>hb.cell hp
theorem Lies.at_ (h:Lies w B A xs){k:Nat}(hk:k < xs.length):∃b o,A=some ⟨b,o,none⟩∧b < B∧w.cell? ⟨b,o+k,none⟩=some xs[k]:=by
 obtain⟨b,o,e,hb,hc⟩:=h (by omega);exact⟨b,o,e,hb,hc k _ (List.getElem?_eq_getElem hk)⟩
end

section
variable {P:Program} (w:World)
end

section
variable {P:Program} (w:World)
end

end Go.Proofs.YtoadlafdeoklbaaDoor
