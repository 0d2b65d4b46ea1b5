/- Law 14: two books. Law 14, plain: of one entry alone. append of one element to a list of any length that an argument may have. -/
import Derived.Test.YtoadlafdeoklbaaGreatDoorPa30
import Derived.Test.YtoadlafdeoklbaaGreatDoorPa7

namespace Go.Proofs.YtoadlafdeoklbaaGreatDoor
open Go.RowKit Go.Maps Go.Shelf

/-- Two books that were made since a world, apart from each other. -/
def Bk2 (w W:World)(d1:Nat)(L1:List Sb)(d2:Nat)(L2:List Sb):Prop:=∃X1 X2,Bk w.heap.size W d1 L1 X1∧Bk w.heap.size W d2 L2 X2∧(∀x∈X1,x∉X2)∧Keeps w W []
section
variable {w W W' :World} {d1 d2:Nat} {L1 L2:List Sb}
theorem Bk2.swap (h:Bk2 w W d1 L1 d2 L2):Bk2 w W d2 L2 d1 L1:=by
 obtain⟨X1,X2,h1,h2,h3,h4⟩:=h;exact⟨X2,X1,h2,h1,(fun x hx hy=>h3 x hy hx),h4⟩
theorem Bk2.k (h:Bk2 w W d1 L1 d2 L2):Keeps w W []:=by
 obtain⟨_,_,_,_,_,h4⟩:=h;exact h4
theorem Bk2.one (h:Bk2 w W d1 L1 d2 L2):BkIn w W d1 L1:=by
 obtain⟨X1,_,h1,_,_,h4⟩:=h;exact⟨X1,h1,h4⟩
theorem Bk2.two (h:Bk2 w W d1 L1 d2 L2):BkIn w W d2 L2:=h.swap.one
theorem Bk2.keeps (h:Bk2 w W d1 L1 d2 L2)(hk:Keeps W W' []):Bk2 w W' d1 L1 d2 L2:=by
 obtain⟨X1,X2,h1,h2,h3,h4⟩:=h;exact⟨X1,X2,h1.keeps hk,h2.keeps hk,h3,h4.then_ hk⟩
theorem Bk2.go {X1 X2 X' :List Nat}{L' :List Sb}(h1:Bk w.heap.size W d1 L1 X1)(h2:Bk w.heap.size W d2 L2 X2)(h3:∀x∈X1,x∉X2)(h4:Keeps w W [])(hg:BkGo w.heap.size W W' d1 L' X1 X'):Bk2 w W' d1 L' d2 L2:=
 ⟨X',X2,hg.bk,h2.keep hg.k (fun x hx hy=>h3 x hy hx),(fun x hx hy=>by
  rcases hg.x x hx with h | h
  ·exact h3 x h hy
  ·have:=(h2.base x hy).2
   omega),h4.trans hg.k fun y hy hlt=>by have:=(h1.base y hy).1;omega⟩
end
end Go.Proofs.YtoadlafdeoklbaaGreatDoor

namespace Go.Proofs.YtoadlafdeoklbaaGreatDoor
open Go

/-- An entry that may be set. -/
def mtVal (s:Sb):Bool:=tFilter s.f && mtSubOk s
/-- All of them set, one behind the other. -/
def mtAllA (L l:List Sb):List Sb:=l.foldl (fun L s=>(mtSetA L s).1) L
def mtSame (s x:Sb):Bool:=mtVal x && (x.f==s.f && x.c==s.c)
theorem told_none (n:List UInt8):mtTold [] n= []:=rfl
/-- Is what one tells told by all? -/
def foundIn (T:List (List UInt8×Int)):List (List UInt8×Int)→Bool
 | []=>true
 | t::_=>T.any fun x=>x.1==t.1 && decide (t.2≤x.2)
end Go.Proofs.YtoadlafdeoklbaaGreatDoor

namespace Go.Proofs.YtoadlafdeoklbaaGreatDoor
open Go.RowKit

/-- A slice type, its elements, their bytes. -/
structure ElemB (P:Program)(t e:TypeId)(k bytes:Nat):Prop where
 out:∃(i:TypeInfo) (z:Value),P.underlying t=some (.slice e)∧P.info? e=some i∧i.zero=some z∧i.size=k∧i.bytes=bytes∧bytes≤100000∧z.cells.size=k
section
variable {α:Type} {k bytes:Nat} {f:α→List Value} {w w' :World} {e t:TypeId} {A:Option Addr} {B:Nat}
end
end Go.Proofs.YtoadlafdeoklbaaGreatDoor
