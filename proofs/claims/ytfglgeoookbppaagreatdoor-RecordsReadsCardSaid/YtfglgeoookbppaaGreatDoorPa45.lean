/- Bytes of a string, converted: a row of the call's own with a mark behind it; a store into it. -/
import Derived.Test.YtfglgeoookbppaaGreatDoorPa1
import Derived.Test.YtfglgeoookbppaaGreatDoorPa4
import Derived.Test.YtfglgeoookbppaaGreatDoorPa0
import Derived.Lib.ConvBytes
import Derived.Laws.BitsAllLaws

namespace Go.Proofs.YtfglgeoookbppaaGreatDoor
open Go.RowKit

def CvRow (W : World) (g : Nat) (l : List UInt8) : Prop := ∃ (cs : Array Value) (m : Nat), W.heap[g]? = some (.cells cs 5 (m, m + 1)) ∧ cs.size = m ∧ l.length ≤ m ∧ ∀ j (h : j < l.length), cs[j]? = some (byteV l[j])
section
variable {W W' : World} {g : Nat} {l : List UInt8}
theorem CvRow.lt (h : CvRow W g l) : g < W.heap.size := by
 obtain ⟨cs, m, h1, _⟩ := h
 exact (Array.getElem?_eq_some_iff.1 h1).1
theorem CvRow.keep {S : List Nat} (h : CvRow W g l) (hk : Keeps W W' S) (hs : g ∉ S) : CvRow W' g l := by
 have hl := h.lt
 obtain ⟨cs, m, h1, h2⟩ := h
 exact ⟨cs, m, (hk.block g hl hs).trans h1, h2⟩
theorem CvRow.cell (h : CvRow W g l) {j : Nat} (hj : j < l.length) : W.cell? ⟨g, j, none⟩ = some (byteV l[j]) := by
 obtain ⟨cs, m, h1, h2, h3, h4⟩ := h
 rw [cell_of_row W g j cs _ _ h1]
 exact h4 j hj
theorem CvRow.frozen (h : CvRow W g l) {j : Nat} (hj : j < l.length) : W.frozen? ⟨g, j, none⟩ = false := by
 obtain ⟨cs, m, h1, h2, h3, h4⟩ := h
 simp [World.frozen?, h1]
 omega
theorem CvRow.set (h : CvRow W g l) (j : Nat) (y : UInt8) : CvRow (W.setCell ⟨g, j, none⟩ (byteV y)) g (l.set j y) := by
 obtain ⟨cs, m, h1, h2, h3, h4⟩ := h
 refine ⟨cs.setIfInBounds j (byteV y), m, by simp [World.setCell, Array.getElem?_modify, h1], by simpa using h2, by simpa using h3, fun i hi => ?_⟩
 rw [List.length_set] at hi
 rw [Array.getElem?_setIfInBounds, List.getElem_set]
 split
 ·rw [if_pos (by omega)]
 ·exact h4 i hi
theorem CvRow.lies (h : CvRow W g l) : Lies W W.heap.size (some ⟨g, 0, none⟩) (l.map byteV) := fun _ => ⟨g, 0, rfl, h.lt, fun j u hu => by
 have hj : j < l.length := by
  have := (List.getElem?_eq_some_iff.1 hu).1
  simpa using this
 rw [Nat.zero_add, h.cell hj, ← hu]
 simp [hj]⟩
end
theorem conv_by4 (w : World) (l : List UInt8) : ∃ cap w', (convert 9 39 (.string ⟨l.toArray⟩)).run Tryz.prog w = .ok (.slice (some ⟨w.heap.size, 0, none⟩) l.length cap) w' ∧ l.length ≤ cap ∧ Keeps w w' [] ∧ CvRow w' w.heap.size l := by
 refine ⟨_, _, Lib.run_convert_string_bytes w _ _ _ ⟨l.toArray⟩ undString undBytes undByte, grownCap_ge _ _ _ _, ⟨rfl, rfl, rfl, by rw [Lib.bytesWorld_size]; omega, fun k hk _ => Lib.bytesWorld_at_old w _ _ k hk⟩, _, _, Lib.bytesWorld_at_new w 5 ⟨l.toArray⟩, rfl, ?_, fun j hj => ?_⟩
 ·rcases Nat.eq_zero_or_pos l.length with h0 | h0
  ·omega
  ·have h1 := Lib.bytesWorld_cell w 5 ⟨l.toArray⟩ (l.length - 1) (show l.length - 1 < l.length by omega)
   rw [cell_of_row _ _ _ _ _ _ (Lib.bytesWorld_at_new w 5 ⟨l.toArray⟩)] at h1
   have := (Array.getElem?_eq_some_iff.1 h1).1
   omega
 ·have h1 := Lib.bytesWorld_cell w 5 ⟨l.toArray⟩ j (show j < l.length from hj)
  rw [cell_of_row _ _ _ _ _ _ (Lib.bytesWorld_at_new w 5 ⟨l.toArray⟩)] at h1
  rw [h1]
  simp [byteV, List.getD_eq_getElem?_getD, List.getElem?_eq_getElem hj]
theorem u8_byte (b : Int) : ∃ c : Nat, c < 256 ∧ b % 256 = (c : Int) ∧ IntKind.u8.wrap b = (c : Int) := by
 have e : IntKind.u8.wrap b = b % 256 := by simp [IntKind.wrap, IntKind.bits, IntKind.signed]
 exact ⟨(b % 256).toNat, by omega, by omega, by omega⟩
theorem xor_some (v : UInt8) (c : Nat) (h : c < 256) : ∃ y : UInt8, bits BinOp.xor IntKind.u8 ((v.toNat : Nat) : Int) (c : Int) = ((y.toNat : Nat) : Int) := by
 refine ⟨v ^^^ UInt8.ofNat c, ?_⟩
 rw [u8_xor_nat _ _ v.toNat_lt h, UInt8.toNat_xor, UInt8.toNat_ofNat', Nat.mod_eq_of_lt h]
end Go.Proofs.YtfglgeoookbppaaGreatDoor
