/- Law 14: a book made since a world; known. -/
import Derived.Test.YtoadlafdeoklbaaDoorPa32

namespace Go.Proofs.YtoadlafdeoklbaaDoor
open Go.RowKit Go.Maps Go.Shelf

/-- A book that was made since a world. -/
def BkIn (w W:World)(d:Nat)(L:List Sb):Prop:=∃X,Bk w.heap.size W d L X∧Keeps w W []
theorem BkIn.go {w W W' :World}{d:Nat}{L L' :List Sb}{X X' :List Nat}(hk:Keeps w W [])(h:Bk w.heap.size W d L X)(hg:BkGo w.heap.size W W' d L' X X'):BkIn w W' d L' :=
 ⟨X',hg.bk,hk.trans hg.k fun y hy hlt=>by have:=(h.base y hy).1;omega⟩
theorem BkIn.keeps {w W W' :World}{d:Nat}{L:List Sb}(h:BkIn w W d L)(hk:Keeps W W' []):BkIn w W' d L:=by
 obtain⟨X,h1,h2⟩:=h;exact⟨X,h1.keeps hk,h2.then_ hk⟩
theorem BkIn.k {w W:World}{d:Nat}{L:List Sb}(h:BkIn w W d L):Keeps w W []:=by
 obtain⟨X,h1,h2⟩:=h;exact h2
theorem BkIn.ok {w W:World}{d:Nat}{L:List Sb}(h:BkIn w W d L):MtOk L:=by
 obtain⟨X,h1,h2⟩:=h;exact h1.ok
/-- Rows of other kinds stay. -/
def Else (W W' :World):Prop:=∀g t cs,Row W g t cs→t≠43→t≠49→Row W' g t cs
theorem Else.of {B:Nat}{W W' :World}{d:Nat}{L L' :List Sb}{X X' :List Nat}(h:Bk B W d L X)(hg:BkGo B W W' d L' X X'):Else W W' :=fun _ _ _ hr h1 h2=>hr.keep hg.k (h.far hr h1 h2)
theorem Else.list {α:Type}{f:α→List Value}{W W' :World}{e:TypeId}{k:Nat}{A:Option Addr}{l:List α}(h:Else W W')(hl:ListAt W e k f A l)(h1:e≠43)(h2:e≠49):ListAt W' e k f A l:=fun hp=>by
 obtain⟨b,o,cs,ea,hr,hc⟩:=hl hp;exact⟨b,o,cs,ea,h _ _ _ hr h1 h2,hc⟩
theorem mtNew_in (w W:World)(hk:Keeps w W []):Calls Tryd.prog 5 #[] W fun e w' =>∃d,e= .returned (ptr0 d)∧BkIn w w' d []∧Keeps W w' []:=
 (mtNew_any W w.heap.size hk.size).mono fun _ _ ⟨d,X,h1,h2,h3,_⟩=>⟨d,h1,⟨X,h2,hk.then_ h3⟩,h3⟩
section
variable {w W:World} {d:Nat} {L:List Sb}
theorem BkIn.set (h:BkIn w W d L)(hm:MaxL w)(s:Sb)(hs:s.f.length≤50000)(hc:s.c.length≤50000):Calls Tryd.prog 6 #[ptr0 d,sbV s] W fun e w' =>e= .returned (.tuple #[.bool (mtSetA L s).2.1,.int .i64 (mtSetA L s).2.2])∧BkIn w w' d (mtSetA L s).1∧Else W w' :=by
 obtain⟨X,h1,h2⟩:=h;exact(mtSet_any w.heap.size W d L X h1 (hm.keeps h2) s hs (by omega)).mono fun e w' ⟨g1,X',g2⟩=>⟨g1,BkIn.go h2 h1 g2,Else.of h1 g2⟩
theorem BkIn.drop (h:BkIn w W d L)(hm:MaxL w)(f c:List UInt8)(hs:f.length≤50000)(hc:c.length≤50000):Calls Tryd.prog 10 #[ptr0 d,.string ⟨f.toArray⟩,.string ⟨c.toArray⟩] W fun e w' =>e= .returned (.tuple #[.bool (mtDropA L f c).2.1,.int .i64 (mtDropA L f c).2.2])∧BkIn w w' d (mtDropA L f c).1∧Else W w' :=by
 obtain⟨X,h1,h2⟩:=h;exact(mtDropE_any w.heap.size W d L X h1 (hm.keeps h2) f c hs (by omega)).mono fun e w' ⟨g1,X',g2⟩=>⟨g1,BkIn.go h2 h1 g2,Else.of h1 g2⟩
theorem BkIn.meets (h:BkIn w W d L)(hm:MaxL w)(n:List UInt8)(hn:n.length≤50000):Calls Tryd.prog 8 #[ptr0 d,.string ⟨n.toArray⟩] W (MeetsPost W L n):=by
 obtain⟨X,h1,h2⟩:=h;exact mtMeets_any w.heap.size W d L X h1 (hm.keeps h2) n hn
theorem BkIn.nodes (h:BkIn w W d L):Calls Tryd.prog 9 #[ptr0 d] W fun e w' =>e= .returned (.int .i64 (mtNodes L:Nat))∧Keeps W w' []:=by
 obtain⟨X,h1,h2⟩:=h;exact mtNodes_any _ W d L X h1
theorem BkIn.len (h:BkIn w W d L):Calls Tryd.prog 7 #[ptr0 d] W fun e w' =>e= .returned (.int .i64 (L.length:Nat))∧w' =W:=by
 obtain⟨X,h1,h2⟩:=h;exact mtLen_any _ W d L X h1
end
end Go.Proofs.YtoadlafdeoklbaaDoor
