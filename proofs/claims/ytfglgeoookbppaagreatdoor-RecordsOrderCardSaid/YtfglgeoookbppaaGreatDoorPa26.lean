/- Bytes made by make. -/
import Derived.Test.YtfglgeoookbppaaGreatDoorPa5
import Derived.Test.YtfglgeoookbppaaGreatDoorPa8
import Derived.Laws.MakeOwn
import Derived.Lib.ConvBytes
import Derived.Lib.Strings

namespace Go.Proofs.YtfglgeoookbppaaGreatDoor
open Go.RowKit

/-- Bytes as cells. -/
def byC (l : List UInt8) : Array Value := (l.map byteV).toArray
theorem byC_set (l : List UInt8) (i : Nat) (x : UInt8) : (byC l).setIfInBounds i (byteV x) = byC (l.set i x) := by
  simp [byC, List.map_set]
theorem byC_get (l : List UInt8) {i : Nat} (h : i < l.length) : (byC l)[i]? = some (byteV l[i]) := by
  unfold byC
  rw [List.getElem?_toArray, List.getElem?_map, List.getElem?_eq_getElem h]
  rfl
theorem made_by (n : Nat) : madeCells (Value.int .u8 0).cells n = byC (List.replicate n 0) := by
  unfold madeCells byC
  refine Array.ext (by simp) fun i h1 h2 => ?_
  simp [byteV, Value.cells, Nat.mod_one]
theorem mk_by (w : World) (n : Nat) (hn : n ≤ 1000000) : (Instr.makeSlice 39 (.int .i64 (n : Int)) (.int .i64 (n : Int))).run Tryz.prog w = .ok (.slice (some ⟨w.heap.size, 0, none⟩) n n) (w.alloc (.cells (byC (List.replicate n 0)) 5)) := by
  obtain ⟨i0, hi, hz0, hz1, hz2⟩ := info_parts infoByte
  have := run_makeSlice (P := Tryz.prog) w 39 5 i0 (.int .u8 0) undBytes hi hz0 .i64 .i64 n n (by omega) (Int.le_refl _) (by rw [hz1]; omega) (by rw [hz2]; omega) (by omega)
  rw [hz1, Nat.mul_one, Int.toNat_natCast, made_by] at this
  exact this
theorem lies_by {w : World} {b : Nat} {l : List UInt8} (h : Row w b 5 (byC l)) : Lies w w.heap.size (some ⟨b, 0, none⟩) (l.map byteV) := fun _ => by
  refine ⟨b, 0, rfl, h.lt, fun i u hu => ?_⟩
  rw [Nat.zero_add, h.cell, ← hu]
  unfold byC
  rw [List.getElem?_toArray]
theorem str_cut (l : List UInt8) (a e : Nat) : (⟨l.toArray⟩ : ByteArray).extract a e = ⟨((l.drop a).take (e - a)).toArray⟩ := by
  apply ByteArray.ext
  rw [ByteArray.data_extract]
  apply Array.ext'
  simp
theorem str_get {s : List UInt8} {S : ByteArray} (hS : (⟨s.toArray⟩ : ByteArray) = S) {i : Nat} (hi : i < s.length) (h : i < S.size) : S[i]'h = s[i] := by
  subst hS
  rfl
/-- A text as bytes: a new block. -/
theorem conv_by (w : World) (l : List UInt8) : ∃ cap w', (convert 9 39 (.string ⟨l.toArray⟩)).run Tryz.prog w = .ok (.slice (some ⟨w.heap.size, 0, none⟩) l.length cap) w' ∧ Keeps w w' [] ∧ ∀ (j : Nat) (h : j < l.length), w'.cell? ⟨w.heap.size, j, none⟩ = some (byteV l[j]) ∧ w.heap.size < w'.heap.size := by
  refine ⟨_, _, Lib.run_convert_string_bytes w _ _ _ ⟨l.toArray⟩ undString undBytes undByte, ⟨rfl, rfl, rfl, by rw [Lib.bytesWorld_size]; omega, fun k hk _ => Lib.bytesWorld_at_old w _ _ k hk⟩, fun j h => ⟨?_, by rw [Lib.bytesWorld_size]; omega⟩⟩
  rw [Lib.bytesWorld_cell w 5 ⟨l.toArray⟩ j (show j < l.length from h)]
  simp [byteV, List.getD_eq_getElem?_getD, List.getElem?_eq_getElem h]
end Go.Proofs.YtfglgeoookbppaaGreatDoor
