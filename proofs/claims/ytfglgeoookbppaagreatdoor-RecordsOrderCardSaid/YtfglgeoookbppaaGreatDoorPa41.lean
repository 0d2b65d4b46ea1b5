/- Walks over package crc (layer 1) and its reference: the word of a byte, the table of words, a new sum. -/
import Derived.Test.YtfglgeoookbppaaGreatDoorProg
import Derived.Test.YtfglgeoookbppaaGreatDoorPa12
import Derived.WalkKit
import Derived.WalkSpells
import Derived.WalkLawsBesides
import Derived.Lib.Hide

namespace Go.Proofs.YtfglgeoookbppaaGreatDoor
open Go.RowKit

set_option maxHeartbeats 400000 in
theorem word_any (b : Nat) (hb : b < 256) (w : World) :
    Calls Tryz.prog 168 #[.int .u8 b] w fun e w' => e = .returned (.int .u32 (crcWord b : Nat)) ∧ w = w' := by
  go_enter Tryz.func168, Tryz.ntmps168
  go_wp2
  go_loop [3, 6] (fun t i => ∃ k : Nat, k ≤ 8 ∧ i = .int .i64 k ∧ t = .int .u32 (crcR k b : Nat)) (fun _ i => 8 - (intOf i).toNat)
  case atStart => exact ⟨0, by omega, rfl, rfl⟩
  case round =>
    obtain ⟨k, hk, rfl, rfl⟩ := hrel
    have hm := crcR_lt k b (by omega)
    have h1 := crcOne_odd (crcR k b) hm
    have h2 := crcOne_even (crcR k b) hm
    have H1 := Lib.hid h1
    have H2 := Lib.hid h2
    clear h1 h2
    by_cases hlt : k < 8
    · go_wp2
      · refine ⟨⟨k + 1, by omega, by go_num, ?_⟩, by simp [intOf]; omega⟩
        rw [H1.out (by assumption)]; rfl
      · refine ⟨⟨k + 1, by omega, by go_num, ?_⟩, by simp [intOf]; omega⟩
        rw [H2.out (by assumption)]; rfl
    · obtain rfl : k = 8 := by omega
      go_wp2
      go_ret
      exact ⟨rfl, rfl⟩
end Go.Proofs.YtfglgeoookbppaaGreatDoor
