/- Walks: a copy of bytes. Facts on the types of bytes in this program. -/
import Derived.Test.YtfglgeoookbppaaGreatDoorProg
import Derived.Test.YtfglgeoookbppaaGreatDoorPa0

namespace Go.Proofs.YtfglgeoookbppaaGreatDoor
open Go.RowKit

theorem infoByte : (Tryz.prog.info? 5).map (fun i => (i.zero, i.size, i.bytes)) = some (some (.int .u8 0), 1, 1) := by kernel_rfl
theorem undBytes : Tryz.prog.underlying 39 = some (.slice 5) := by kernel_rfl

/-- The slice value v reads as the bytes l. -/
def Bytes (w : World) (B : Nat) (v : Value) (l : List UInt8) : Prop :=
  ∃ A c, v = .slice A l.length c ∧ l.length ≤ c ∧ (A = none → c = 0) ∧ c ≤ maxLen ∧ l.length ≤ 140737488351232 ∧ Lies w B A (l.map byteV)

/-- v is a row of the call's own (from block base on) that reads as the bytes l. -/
abbrev Owned (w : World) (base : Nat) (v : Value) (l : List UInt8) : Prop := w.ownsRow base 5 1 v l.length (l.map byteV)

theorem Bytes.below {w w' : World} {B : Nat} {v : Value} {l : List UInt8} (h : Bytes w B v l) (hb : Below B w w') : Bytes w' B v l := by
  obtain ⟨A, c, h1, h2, h3, h4, h5, h6⟩ := h
  exact ⟨A, c, h1, h2, h3, h4, h5, h6.below hb⟩
theorem Bytes.lies {w : World} {B n c : Nat} {A : Option Addr} {l : List UInt8} (h : Bytes w B (.slice A n c) l) : Lies w B A (l.map byteV) := by
  obtain ⟨A', c', h1, h2, h3, h4, h5, h6⟩ := h
  injection h1 with e1 e2 e3
  subst e1
  exact h6
theorem Bytes.mono {w : World} {B B' : Nat} {v : Value} {l : List UInt8} (h : Bytes w B v l) (hB : B ≤ B') : Bytes w B' v l := by
  obtain ⟨A, c, h1, h2, h3, h4, h5, h6⟩ := h
  exact ⟨A, c, h1, h2, h3, h4, h5, h6.mono hB⟩
theorem Bytes.len {w : World} {B : Nat} {v : Value} {l : List UInt8} (h : Bytes w B v l) : l.length ≤ 140737488351232 := by
  obtain ⟨A, c, h1, h2, h3, h4, h5, h6⟩ := h
  exact h5
theorem Owned.bytes {w : World} {base : Nat} {v : Value} {l : List UInt8} (h : Owned w base v l) (hl : l.length ≤ 140737488351232) : Bytes w w.heap.size v l := by
  obtain ⟨A, c, rfl, h1, h2⟩ := own_slice h
  refine ⟨A, c, rfl, h1, ?_, h2, hl, Lies.of_own h⟩
  rintro rfl
  rcases h.2 with ⟨hv, _⟩ | ⟨g, cap, cur, hv, _⟩
  · injection hv
  · cases hv
theorem Owned.block {w : World} {base n c : Nat} {ad : Addr} {l : List UInt8} (h : w.ownsRow base 5 1 (.slice (some ad) n c) n (l.map byteV)) : base ≤ ad.block ∧ ad.block < w.heap.size := h.lt _ rfl
theorem Owned.parts {w : World} {base : Nat} {v : Value} {l : List UInt8} (h : Owned w base v l) : ∃ A c, v = .slice A l.length c ∧ l.length ≤ c ∧ c ≤ maxLen ∧ (A = none → c = 0) ∧ Lies w w.heap.size A (l.map byteV) := by
  obtain ⟨A, c, rfl, h1, h2⟩ := own_slice h
  refine ⟨A, c, rfl, h1, h2, ?_, Lies.of_own h⟩
  rintro rfl
  rcases h.2 with ⟨hv, _⟩ | ⟨g, cap, cur, hv, _⟩
  · injection hv
  · cases hv

theorem run_empty_own (w : World) (base : Nat) (hb : base ≤ w.heap.size) : (w.alloc (.cells #[] 5)).ownsRow base 5 1 (.slice (some ⟨w.heap.size, 0, none⟩) 0 0) 0 [] :=
  ⟨rfl, .inr ⟨w.heap.size, 0, #[], rfl, hb, heap_alloc_new w _, Nat.le_refl _, by simp [maxLen], rfl, rfl⟩⟩
end Go.Proofs.YtfglgeoookbppaaGreatDoor
