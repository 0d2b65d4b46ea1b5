/- Walks over package crc (layer 1): the sum of one part; the reference's word and sum. -/
import Derived.Test.YthepcoifcoinoaaCrc4
namespace Go.Proofs.Ythepcoifcoinoaa
open Go.RowKit

set_option maxRecDepth 100000 in
set_option maxHeartbeats 1000000 in
theorem crcSum_any (w : World) (pb : Nat) (A : Option Addr) (c : Nat) (l : List UInt8) (hc : l.length ≤ c) (hlen : l.length ≤ 140737488355328) (hpb : pb < w.heap.size)
    (hp : w.cell? ⟨pb, 0, none⟩ = some (.slice A l.length c)) (hL : Lies w w.heap.size A (l.map byteV)) :
    Calls Try.prog 40 #[.slice (some ⟨pb, 0, none⟩) 1 1] w fun e w' => e = .returned (.int .u32 (crcSum l : Nat)) ∧ Keeps w w' [] := by
  have HL := Lib.hid hL
  have HP := Lib.hid hp
  clear hL hp
  go_enter Try.func40, Try.ntmps40
  go_wp2_with (go_at_call 64; refine (newAdder_any _).mono ?_; rintro e w1 ⟨g, a, rfl, hA, hg, hk⟩)
  have HA := Lib.hid (And.intro hA hk)
  clear hA hk
  go_wp2_with fail
  have hb1 : Below w.heap.size w w1 := HA.out.2.below (Nat.le_refl _) (by simp)
  refine (callsIn_wide.1 (add_in 3 (by omega) w1 w.heap.size g a pb A c l hc hlen hpb hg HA.out.1 ((hb1.cell (p := ⟨pb, 0, none⟩) hpb).trans HP.out) (HL.out.below hb1))).mono ?_
  rintro e w2 ⟨⟨v, rfl⟩, hA2, hb2⟩
  have HA2 := Lib.hid (And.intro hA2 (And.intro hb1 hb2))
  clear hA2 hb1 hb2
  have hs := crcRun_lt l 4294967295 (by omega)
  go_wp2_with (go_at_call 66; refine (adderSum_any _ _ _ _ _ HA2.out.1 hs).mono ?_; rintro e w3 ⟨rfl, rfl⟩)
  go_wp2
  go_ret
  exact ⟨rfl, Keeps.of_below (HA2.out.2.1.trans HA2.out.2.2)⟩

theorem odd_rem (m : Nat) (h : m < 4294967296) : ((m : Int) % 2 == 1) = decide (m % 2 = 1) := by
  rw [Bool.eq_iff_iff]; simp; omega

set_option maxRecDepth 100000 in
set_option maxHeartbeats 1000000 in
theorem refWord_any (b : Nat) (hb : b < 256) (w : World) :
    Calls Try.prog 68 #[.int .u8 b] w fun e w' => e = .returned (.int .u32 (crcWord b : Nat)) ∧ w = w' := by
  go_enter Try.func68, Try.ntmps68
  go_wp2
  go_loop [3, 4, 5] (fun t i _ => ∃ k : Nat, k ≤ 8 ∧ i = .int .i64 k ∧ t = .int .u32 (crcR k b : Nat)) (fun _ i _ => 8 - (intOf i).toNat)
  case atStart => exact ⟨0, by omega, rfl, rfl⟩
  case round =>
    obtain ⟨k, hk, rfl, rfl⟩ := hrel
    have hm := crcR_lt k b (by omega)
    have hx := xor_poly32 (crcR k b) hm
    have hsucc : crcR (k + 1) b = crcOne (crcR k b) := rfl
    have HS := Lib.hid hsucc
    clear hsucc
    have HX := Lib.hid hx
    clear hx
    generalize hM : crcR k b = M at *
    by_cases hlt : k < 8
    · by_cases ho : M % 2 = 1
      · have h1 : ((M : Int) % 2 == 1) = true := by rw [odd_rem M hm]; simpa using ho
        go_wp2
        refine ⟨⟨k + 1, by omega, by go_num, ?_⟩, by simp [intOf]; omega⟩
        rw [HX.out, HS.out]; simp [crcOne, ho]
      · have h1 : ((M : Int) % 2 == 1) = false := by rw [odd_rem M hm]; simpa using ho
        go_wp2
        refine ⟨⟨k + 1, by omega, by go_num, ?_⟩, by simp [intOf]; omega⟩
        rw [HS.out]; simp [crcOne, ho]
    · obtain rfl : k = 8 := by omega
      go_wp2
      go_ret
      exact ⟨by rw [← hM]; rfl, rfl⟩

set_option maxRecDepth 100000 in
set_option maxHeartbeats 1000000 in
theorem refSum_any (w : World) (A : Option Addr) (c : Nat) (l : List UInt8) (hc : l.length ≤ c) (hlen : l.length ≤ 140737488355328) (hL : Lies w w.heap.size A (l.map byteV)) :
    Calls Try.prog 47 #[.slice A l.length c] w fun e w' => e = .returned (.int .u32 (crcSum l : Nat)) ∧ w = w' := by
  have HL := Lib.hid hL
  clear hL
  go_enter Try.func47, Try.ntmps47
  go_wp2
  go_loop [3, 4] (fun t i => ∃ k : Nat, k ≤ l.length ∧ i = .int .i64 k ∧ t = .int .u32 (crcRun 4294967295 (l.take k) : Nat)) (fun _ i => l.length - (intOf i).toNat)
  case atStart => exact ⟨0, by omega, rfl, rfl⟩
  case round =>
    obtain ⟨k, hk, rfl, rfl⟩ := hrel
    have hm := crcRun_lt (l.take k) 4294967295 (by omega)
    by_cases hlt : k < l.length
    · have hsucc : crcRun 4294967295 (l.take (k + 1)) = crcStep (crcRun 4294967295 (l.take k)) l[k].toNat := by
        rw [List.take_succ_eq_append_getElem hlt, crcRun_snoc]
      obtain ⟨b, o, rfl, hb, hcx⟩ := HL.out.at_ (k := k) (by simpa using hlt)
      rw [byteV_get l hlt] at hcx
      have hx : l[k].toNat < 256 := l[k].toNat_lt
      generalize l[k].toNat = x at *
      generalize crcRun 4294967295 (l.take k) = M at *
      have HS := Lib.hid hsucc
      clear hsucc
      have hi : M % 256 ^^^ x < 256 := Nat.xor_lt_two_pow (n := 8) (by omega) (by omega)
      have HI := Lib.hid (crcIdx' M x hx)
      have HN := Lib.hid (crcNext M x hm hx)
      go_wp2_with fail
      rw [HI.out]
      refine (refWord_any _ hi _).mono ?_
      rintro e w' ⟨rfl, rfl⟩
      go_wp2
      refine ⟨⟨k + 1, by omega, by go_num, ?_⟩, by simp [intOf]; omega⟩
      rw [HN.out, HS.out]
    · obtain rfl : k = l.length := by omega
      rw [List.take_length] at hm
      go_wp2
      go_ret
      exact ⟨ret_int (by unfold crcSum; omega), rfl⟩
end Go.Proofs.Ythepcoifcoinoaa
