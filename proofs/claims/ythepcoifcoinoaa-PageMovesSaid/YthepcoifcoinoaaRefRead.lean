/- Walks over the references of layers 3 and 4: a number read. -/
import Derived.Test.YthepcoifcoinoaaRefNum
namespace Go.Proofs.Ythepcoifcoinoaa
open Go.RowKit

theorem be_step' (n b : Nat) : (256 * (n : Int) + (b : Int)) = ((n * 256 + b : Nat) : Int) := by omega

theorem beN_small (l : List UInt8) (h : l.length ≤ 7) : beN l < 72057594037927936 := by
  have h1 := beN_lt l
  have h3 : 256 ^ l.length ≤ 256 ^ 7 := Nat.pow_le_pow_right (by omega) h
  have h4 : (256 : Nat) ^ 7 = 72057594037927936 := by decide
  omega

set_option maxRecDepth 100000 in
set_option maxHeartbeats 1000000 in
theorem refReadNum_any (w : World) (A : Option Addr) (c k : Nat) (l : List UInt8) (hL : Lies w w.heap.size A (l.map byteV)) (hc : l.length ≤ c) (hcm : c ≤ maxLen) (hk8 : k ≤ 8) (hkl : k ≤ l.length) :
    Calls Try.prog 58 #[.slice A l.length c, .int .i64 k] w fun e w' => e = .returned (.tuple #[.int .u64 (beN (l.take k) : Nat), .bool true]) ∧ w = w' := by
  have HL := Lib.hid hL
  clear hL
  have hb : decide ((l.length : Int) < (k : Int)) = false := by simp; omega
  go_enter Try.func58, Try.ntmps58
  go_wp2
  go_loop [6, 7] (fun t i => ∃ j : Nat, j ≤ k ∧ i = .int .i64 j ∧ t = .int .u64 (beN (l.take j) : Nat)) (fun _ i => k - (intOf i).toNat)
  case atStart => exact ⟨0, by omega, rfl, rfl⟩
  case round =>
    obtain ⟨j, hj, rfl, rfl⟩ := hrel
    by_cases hjk : j < k
    · have hjl : j < l.length := by omega
      obtain ⟨b, o, rfl, hb, hcx⟩ := HL.out.at_ (k := j) (by simpa using hjl)
      rw [byteV_get l hjl] at hcx
      have hsucc : beN (l.take (j + 1)) = beN (l.take j) * 256 + l[j].toNat := by rw [List.take_succ_eq_append_getElem hjl, beN_snoc]
      have hn : beN (l.take j) < 72057594037927936 := beN_small _ (by rw [List.length_take]; omega)
      have hx : l[j].toNat < 256 := l[j].toNat_lt
      generalize l[j].toNat = x at *
      generalize beN (l.take j) = M at *
      have HS := Lib.hid hsucc
      clear hsucc
      have HB := Lib.hid (be_step' M x)
      go_wp2
      refine ⟨⟨j + 1, by omega, by go_num, ?_⟩, by simp [intOf]; omega⟩
      rw [HS.out, ← HB.out]
    · obtain rfl : j = k := by omega
      go_wp2
      go_ret2
      exact ⟨rfl, rfl⟩

set_option maxRecDepth 100000 in
set_option maxHeartbeats 1000000 in
theorem readAt_any (w : World) (A : Option Addr) (c at_ k : Nat) (l : List UInt8) (hL : Lies w w.heap.size A (l.map byteV)) (hc : l.length ≤ c) (hcm : c ≤ maxLen) (hk1 : 1 ≤ k) (hk8 : k ≤ 8) (hkl : at_ + k ≤ l.length) :
    Calls Try.prog 46 #[.slice A l.length c, .int .i64 at_, .int .i64 k] w fun e w' => e = .returned (.int .i64 (wrap64 (beN ((l.drop at_).take k) : Nat))) ∧ w = w' := by
  have hL2 := hL.cut (k := at_) (cap := c) (by simpa using hc)
  have hne : ¬ c = at_ := by omega
  rw [← List.map_drop, if_neg hne] at hL2
  have HL := Lib.hid hL2
  clear hL hL2
  have hlen : (l.drop at_).length = l.length - at_ := by simp
  have HN := Lib.hid hlen
  have h1 : at_ ≤ l.length := by omega
  have hcm' : c ≤ 9223372036854775807 := by simpa [maxLen] using hcm
  go_enter Try.func46, Try.ntmps46
  go_wp2_with fail
  rw [← HN.out]
  refine (refReadNum_any _ _ _ k (l.drop at_) HL.out (by rw [HN.out]; omega) (by omega) hk8 (by rw [HN.out]; omega)).mono ?_
  rintro e w1 ⟨rfl, rfl⟩
  go_wp2
  go_ret
  exact ⟨rfl, rfl⟩
end Go.Proofs.Ythepcoifcoinoaa
