/- Short names for rows of cells and for lemmas of lists. -/
import Derived.Test.YtoadlafdeoklbaaGreatDoorProg
import Derived.Lib.Hide
namespace Go.Proofs.YtoadlafdeoklbaaGreatDoor
open Go Go.RowKit
abbrev zP (k : Int) (dup ret : Bool) (q : Int) (t b : List UInt8) (id : Int) (c : List UInt8) (cl : Bool) (keep : Int) (hw : Bool) (wt wb : List UInt8) (wq : Int) (wr hu hp : Bool) (u pw : List UInt8) (pr : Bool) (code : Int) (sw sc sf : Value) : Array Value := #[.int .i64 k, .bool dup, .bool ret, .int .i64 q, .string ⟨t.toArray⟩, .string ⟨b.toArray⟩, .int .i64 id, .string ⟨c.toArray⟩, .bool cl, .int .i64 keep, .bool hw, .string ⟨wt.toArray⟩, .string ⟨wb.toArray⟩, .int .i64 wq, .bool wr, .bool hu, .bool hp, .string ⟨u.toArray⟩, .string ⟨pw.toArray⟩, .bool pr, .int .i64 code, sw, sc, sf]
abbrev zL (k : Int) (dup ret : Bool) (q : Int) (t b : List UInt8) (id : Int) (c : List UInt8) (cl : Bool) (keep : Int) (hw : Bool) (wt wb : List UInt8) (wq : Int) (wr hu hp : Bool) (u pw : List UInt8) (pr : Bool) (code : Int) (sw sc sf : Value) : List Value := [.int .i64 k, .bool dup, .bool ret, .int .i64 q, .string ⟨t.toArray⟩, .string ⟨b.toArray⟩, .int .i64 id, .string ⟨c.toArray⟩, .bool cl, .int .i64 keep, .bool hw, .string ⟨wt.toArray⟩, .string ⟨wb.toArray⟩, .int .i64 wq, .bool wr, .bool hu, .bool hp, .string ⟨u.toArray⟩, .string ⟨pw.toArray⟩, .bool pr, .int .i64 code, sw, sc, sf]
abbrev zP0 : Array Value := #[.int .i64 0, .bool false, .bool false, .int .i64 0, .string ⟨#[]⟩, .string ⟨#[]⟩, .int .i64 0, .string ⟨#[]⟩, .bool false, .int .i64 0, .bool false, .string ⟨#[]⟩, .string ⟨#[]⟩, .int .i64 0, .bool false, .bool false, .bool false, .string ⟨#[]⟩, .string ⟨#[]⟩, .bool false, .int .i64 0, .slice none 0 0, .slice none 0 0, .slice none 0 0]
abbrev zL0 : List Value := [.int .i64 0, .bool false, .bool false, .int .i64 0, .string ⟨#[]⟩, .string ⟨#[]⟩, .int .i64 0, .string ⟨#[]⟩, .bool false, .int .i64 0, .bool false, .string ⟨#[]⟩, .string ⟨#[]⟩, .int .i64 0, .bool false, .bool false, .bool false, .string ⟨#[]⟩, .string ⟨#[]⟩, .bool false, .int .i64 0, .slice none 0 0, .slice none 0 0, .slice none 0 0]
theorem zsa {α : Type _} (l : List α) (i : Nat) (a : α) : l.toArray.setIfInBounds i a = (l.set i a).toArray := List.setIfInBounds_toArray ..
theorem zsc {α : Type _} {x : α} {xs : List α} {n : Nat} {a : α} : (x :: xs).set (n + 1) a = x :: xs.set n a := List.set_cons_succ ..
theorem zsz {α : Type _} {x : α} {xs : List α} {a : α} : (x :: xs).set 0 a = a :: xs := List.set_cons_zero ..
theorem zga {α : Type _} {xs : List α} {i : Nat} : xs.toArray[i]? = xs[i]? := List.getElem?_toArray ..
theorem zgz {α : Type _} {a : α} {l : List α} : (a :: l)[0]? = some a := List.getElem?_cons_zero ..
theorem zgs {α : Type _} {a : α} {l : List α} {i : Nat} : (a :: l)[i + 1]? = l[i]? := List.getElem?_cons_succ ..
theorem zts {α : Type _} {a : α} {as_ : List α} {i : Nat} : List.take (i + 1) (a :: as_) = a :: List.take i as_ := List.take_succ_cons ..
theorem ztz {α : Type _} {l : List α} : List.take 0 l = [] := List.take_zero ..
theorem zds {α : Type _} {a : α} {l : List α} {i : Nat} : List.drop (i + 1) (a :: l) = List.drop i l := List.drop_succ_cons ..
theorem zdz {α : Type _} {l : List α} : List.drop 0 l = l := List.drop_zero ..
theorem zh {p : Prop} (h : p) : RowKit.Hid p := Lib.hid h
end Go.Proofs.YtoadlafdeoklbaaGreatDoor
