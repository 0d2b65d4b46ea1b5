/- Walks over package crc (layer 1): the table of words; a new sum under way. Walks over package crc (layer 1): a new sum under way; is there none; the sum told. -/
import Derived.Test.YtfglgeoookbppaaGreatDoorPa41
import Derived.Test.YtfglgeoookbppaaGreatDoorPa0

namespace Go.Proofs.YtfglgeoookbppaaGreatDoor
open Go.RowKit

/-- The table of words in memory. -/
def Words (w : World) (g : Nat) : Prop := ∃ cs : Array Value, Row w g 196 cs ∧ ∀ i, i < 256 → cs[i]? = some (.int .u32 (crcWord i : Nat))
theorem Words.cell {w : World} {g : Nat} (h : Words w g) (i : Nat) (hi : i < 256) : w.cell? ⟨g, i, none⟩ = some (.int .u32 (crcWord i : Nat)) := by
  obtain ⟨cs, hr, hc⟩ := h
  rw [hr.cell, hc i hi]
theorem Words.below {w w' : World} {g B : Nat} (h : Words w g) (hb : Below B w w') (hg : g < B) : Words w' g := by
  obtain ⟨cs, hr, hc⟩ := h
  exact ⟨cs, hr.below hb hg, hc⟩
theorem Words.keep {w w' : World} {g : Nat} {S : List Nat} (h : Words w g) (hb : Keeps w w' S) (hg : g ∉ S) : Words w' g := by
  obtain ⟨cs, hr, hc⟩ := h
  exact ⟨cs, hr.keep hb hg, hc⟩
theorem Words.lt {w : World} {g : Nat} (h : Words w g) : g < w.heap.size := by
  obtain ⟨cs, hr, hc⟩ := h
  exact hr.lt
theorem table_size : Tryz.zeroCells196.size = 256 := by kernel_rfl

theorem words_step {cs : Array Value} {k : Nat} (hk : k < 256) (hs : cs.size = 256) (hc : ∀ i, i < k → cs[i]? = some (.int .u32 (crcWord i : Nat))) :
    (cs.setIfInBounds k (.int .u32 (crcWord k : Nat))).size = 256 ∧ ∀ i, i < k + 1 → (cs.setIfInBounds k (.int .u32 (crcWord k : Nat)))[i]? = some (.int .u32 (crcWord i : Nat)) := by
  refine ⟨by simpa using hs, fun i hi => ?_⟩
  rw [Array.getElem?_setIfInBounds]
  by_cases h : k = i
  · subst h; simp [hs, hk]
  · rw [if_neg h]; exact hc i (by omega)

set_option maxRecDepth 100000 in
set_option maxHeartbeats 400000 in
theorem words_any (w : World) :
    Calls Tryz.prog 152 #[] w fun e w' => e = .returned (.pointer (some ⟨w.heap.size, 0, none⟩)) ∧ Words w' w.heap.size ∧ Keeps w w' [] := by
  go_enter Tryz.func152, Tryz.ntmps152
  go_wp2
  go_loopw [2, 3] (fun _ i wr => ∃ k : Nat, ∃ cs : Array Value, k ≤ 256 ∧ i = .int .i64 k ∧ Row wr w.heap.size 196 cs ∧ cs.size = 256 ∧ (∀ i, i < k → cs[i]? = some (.int .u32 (crcWord i : Nat))) ∧ Keeps w wr [w.heap.size]) (fun _ i _ => 256 - (intOf i).toNat)
  case atStart => exact ⟨0, _, by omega, rfl, Row.new _ _ _, table_size, fun i h => absurd h (by omega), (Keeps.alloc _ _).weaken (by simp)⟩
  case round =>
    obtain ⟨k, cs, hk, rfl, hr, hs, hc, hkeep⟩ := hrel
    by_cases hlt : k < 256
    · obtain ⟨v0, hcell⟩ : ∃ v, wr.cell? ⟨w.heap.size, k, none⟩ = some v := ⟨_, by rw [hr.cell]; exact Array.getElem?_eq_getElem (by omega)⟩
      have hfr := hr.frozen k
      have HR := Lib.hid (And.intro hr hc)
      have HS := Lib.hid hs
      clear hr hc hs
      go_wp2_with (go_at_call 168; refine (word_any _ hlt _).mono ?_; rintro e w' ⟨rfl, rfl⟩)
      refine ⟨⟨k + 1, cs.setIfInBounds k (.int .u32 (crcWord k : Nat)), by omega, by go_num, HR.out.1.store _ _, (words_step hlt HS.out HR.out.2).1, (words_step hlt HS.out HR.out.2).2, ?_⟩, by simp [intOf]; omega⟩
      exact hkeep.trans (Keeps.setCell _ _ _) (by simp)
    · obtain rfl : k = 256 := by omega
      have HR := Lib.hid (And.intro hr hc)
      clear hr hc
      go_wp2
      go_ret
      exact ⟨rfl, ⟨cs, HR.out.1, HR.out.2⟩, hkeep.weaken (by simp)⟩
end Go.Proofs.YtfglgeoookbppaaGreatDoor

namespace Go.Proofs.YtfglgeoookbppaaGreatDoor
open Go.RowKit

theorem ret_int {k : IntKind} {a b : Int} (h : a = b) : Ending.returned (.int k a) = .returned (.int k b) := by rw [h]

/-- A sum under way at a: n bytes were written, the register holds s. -/
def Adder (w : World) (g a : Nat) (n : Int) (s : Nat) : Prop :=
  Words w g ∧ Row w a 179 #[.int .i64 n, .pointer (some ⟨g, 0, none⟩), .int .u32 (s : Int)] ∧ g < a

set_option maxRecDepth 100000 in
set_option maxHeartbeats 400000 in
theorem newAdder_any (w : World) :
    Calls Tryz.prog 133 #[] w fun e w' => ∃ g a, e = .returned (.pointer (some ⟨a, 0, none⟩)) ∧ Adder w' g a 0 4294967295 ∧ w.heap.size ≤ g ∧ Keeps w w' [] := by
  go_enter Tryz.func133, Tryz.ntmps133
  go_wp2_with (go_at_call 152; refine (words_any _).mono ?_; rintro e w' ⟨rfl, hw1, hk1⟩)
  have HW := Lib.hid (And.intro hw1 hk1)
  clear hw1 hk1
  go_wp2
  go_ret
  have hl := HW.out.1.lt
  refine ⟨w.heap.size, w'.heap.size, rfl, ⟨HW.out.1.keep (Keeps.alloc _ _) (by simp), Row.new _ _ _, hl⟩, Nat.le_refl _, HW.out.2.trans (Keeps.alloc _ _) (by simp)⟩

set_option maxRecDepth 100000 in
set_option maxHeartbeats 400000 in
theorem adderNone_any (w : World) (g a : Nat) (n : Int) (s : Nat) (h : Adder w g a n s) :
    Calls Tryz.prog 154 #[.pointer (some ⟨a, 0, none⟩)] w fun e w' => e = .returned (.bool false) ∧ w = w' := by
  obtain ⟨_, hr, _⟩ := h
  have h1 := hr.cell 1
  clear hr
  go_enter Tryz.func154, Tryz.ntmps154
  go_wp2
  go_ret
  exact ⟨rfl, rfl⟩

set_option maxRecDepth 100000 in
set_option maxHeartbeats 400000 in
theorem adderSum_any (w : World) (g a : Nat) (n : Int) (s : Nat) (h : Adder w g a n s) (hs : s < 4294967296) :
    Calls Tryz.prog 135 #[.pointer (some ⟨a, 0, none⟩)] w fun e w' => e = .returned (.int .u32 ((4294967295 - s : Nat) : Int)) ∧ w = w' := by
  have hn := adderNone_any w g a n s h
  obtain ⟨_, hr, _⟩ := h
  have h1 := hr.cell 2
  clear hr
  go_enter Tryz.func135, Tryz.ntmps135
  go_wp2_with (go_at_call 154; refine (hn).mono ?_; rintro e w' ⟨rfl, rfl⟩)
  go_wp2
  go_ret
  exact ⟨ret_int (not32 s hs), rfl⟩
end Go.Proofs.YtfglgeoookbppaaGreatDoor
