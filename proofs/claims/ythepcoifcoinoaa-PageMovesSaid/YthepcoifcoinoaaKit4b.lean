/- More contracts of layer 4, as the statements' walks want them. -/
import Derived.Test.YthepcoifcoinoaaKnown4
import Derived.Test.YthepcoifcoinoaaOpen
namespace Go.Proofs.Ythepcoifcoinoaa
open Go.RowKit

/-- The rest of a region, some of whose operations have come up (its list told by the operations). -/
theorem wpAny_rest {P : Program} {ops : Array Oper} {Q' : Exit → Act → World → Prop} {a : Act} {w : World} {listed : Array Bool} {fuel : Nat} (C : World → Prop) (k : Nat) (l : List Oper) (hl : ops.toList.drop k = l) (hf : l.length = fuel) (hs : Region.noSelect ops = true) (hB : Region.lexFrom .any ops l.length k listed = true) (hC : C w)
    (h : wpQuiet P ops C (fun a' => ∀ w', C w' → Q' .normal a' w') l a) : wpAny P .any ops Q' fuel listed a w := by
  subst hf
  exact wpAny_mild C k l (fun j => by rw [← hl, List.getElem?_drop]; simp) hs hB hC h

theorem same_yes (W : World) (k t n : Int) (A1 A2 : Option Addr) (c1 c2 : Nat) (l : List UInt8) (h1 : Lies W W.heap.size A1 (l.map byteV)) (h2 : Lies W W.heap.size A2 (l.map byteV)) :
    Calls Try.prog 22 #[.agg #[.int .i64 k, .int .i64 t, .int .i64 n, .slice A1 l.length c1], .agg #[.int .i64 k, .int .i64 t, .int .i64 n, .slice A2 l.length c2]] W fun e w' => e = .returned (.bool true) ∧ Keeps W w' [] :=
  (same_any W k t n A1 c1 l k t n A2 c2 l h1 h2).mono fun e w' ⟨he, hk⟩ => ⟨by rw [he, samePg_iff.2 ⟨rfl, rfl, rfl, rfl⟩], hk⟩
theorem refSame_yes (W : World) (k t n : Int) (A1 A2 : Option Addr) (c1 c2 : Nat) (l : List UInt8) (h1 : Lies W W.heap.size A1 (l.map byteV)) (h2 : Lies W W.heap.size A2 (l.map byteV)) :
    Calls Try.prog 16 #[.agg #[.int .i64 k, .int .i64 t, .int .i64 n, .slice A1 l.length c1], .agg #[.int .i64 k, .int .i64 t, .int .i64 n, .slice A2 l.length c2]] W fun e w' => e = .returned (.bool true) ∧ Keeps W w' [] :=
  (refSame_any W k t n A1 c1 l k t n A2 c2 l h1 h2).mono fun e w' ⟨he, hk⟩ => ⟨by rw [he, samePg_iff.2 ⟨rfl, rfl, rfl, rfl⟩], hk⟩
/-- Look of a page's bytes. -/
theorem lookRaw (w : World) (base b o c : Nat) (a k t n : Int) (body : List UInt8) (hF : Full w base b o c (rawI a k t n body)) (hok : pageOk k t n body.length = true) (ha : withinB a 0 4095 = true) :
    Calls Try.prog 14 #[.slice (some ⟨b, o, none⟩) 256 c] w fun e w' =>
      ∃ A c', e = .returned (.tuple #[.int .i64 a, .agg #[.int .i64 k, .int .i64 t, .int .i64 n, .slice A body.length c'], .int .i64 0]) ∧ Owned w' w.heap.size (.slice A body.length c') body ∧ Keeps w w' [] := by
  refine (look256 w (some ⟨b, o, none⟩) c _ hF.len hF.bytes).mono ?_
  obtain ⟨_, _, h3, h4, h5, h6, h7, h8, h9⟩ := rawI_look a k t n body hok ha
  rintro e w' ⟨hk, ⟨_, _, _, A, c', rfl, ho⟩ | ⟨h0, _⟩⟩
  · rw [h5, h6, h7, h8, h9]
    rw [h9] at ho
    exact ⟨A, c', rfl, ho, hk⟩
  · exact absurd h3 h0
theorem Came.lies {W w' : World} {A : Option Addr} {c : Nat} {l : List UInt8} (h : Came W A c l) (hk : Keeps W w' []) : Lies w' w'.heap.size A (l.map byteV) := (h.2.2.2.below (hk.below (Nat.le_refl _) (by simp))).mono hk.size
theorem Came.keep {W w' : World} {A : Option Addr} {c : Nat} {l : List UInt8} (h : Came W A c l) (hk : Keeps W w' []) : Came w' A c l := ⟨h.1, h.2.1, h.2.2.1, h.lies hk⟩
theorem owned_lies {W w' : World} {base n c : Nat} {A : Option Addr} {l : List UInt8} (h : Owned W base (.slice A n c) l) (hk : Keeps W w' []) : Lies w' w'.heap.size A (l.map byteV) := by
  have h1 : Owned w' base (.slice A n c) l := own_keep h hk (by simp)
  obtain ⟨A', c', hv, _, _, _, hL⟩ := Owned.parts h1
  injection hv with e1 e2 e3
  rw [e1]
  exact hL
end Go.Proofs.Ythepcoifcoinoaa
