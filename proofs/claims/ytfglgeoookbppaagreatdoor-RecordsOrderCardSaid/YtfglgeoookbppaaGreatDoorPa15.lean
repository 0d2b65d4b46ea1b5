/- Package keys: a number's bits in order. -/
import Derived.Test.YtfglgeoookbppaaGreatDoorPa13
import Derived.Test.YtfglgeoookbppaaGreatDoorPa14
import Derived.Laws.Externs

namespace Go.Proofs.YtfglgeoookbppaaGreatDoor
open Go.RowKit Ieee

theorem run_f64bits (x : Nat) (w : World) : (callFunc 139 #[.float .f64 x]).run Tryz.prog w = .ok (.value (.int .u64 x)) w :=
  run_callFunc_extern Tryz.func139 (by kernel_rfl) (by kernel_rfl) (by kernel_rfl) (e := Extern.MathFloatBits.float64bits) (by kernel_rfl) _ w
theorem run_f64from (n : Int) (w : World) : (callFunc 117 #[.int .u64 n]).run Tryz.prog w = .ok (.value (.float .f64 n.toNat)) w :=
  run_callFunc_extern Tryz.func117 (by kernel_rfl) (by kernel_rfl) (by kernel_rfl) (e := Extern.MathFloatBits.float64frombits) (by kernel_rfl) _ w

theorem and_high (n : Nat) (h : n < 18446744073709551616) : bits BinOp.and IntKind.u64 (n : Int) 9223372036854775808 = if fS ≤ n then 9223372036854775808 else 0 := by
  have h1 := u64_and_nat n 9223372036854775808 h (by omega)
  have h2 : n &&& 2 ^ 63 = (n.testBit 63).toNat * 2 ^ 63 := by
    apply Nat.eq_of_testBit_eq
    intro i
    rw [Nat.testBit_and, Nat.testBit_two_pow]
    by_cases hi : 63 = i
    · subst hi
      cases n.testBit 63
      · simp
      · rw [show (true : Bool).toNat * 2 ^ 63 = 2 ^ 63 from by simp, Nat.testBit_two_pow]
        simp
    · cases hb : n.testBit 63
      · simp [hi]
      · rw [show (true : Bool).toNat * 2 ^ 63 = 2 ^ 63 from by simp, Nat.testBit_two_pow]
        simp [hi]
  rw [show ((9223372036854775808 : Nat) : Int) = 9223372036854775808 from rfl] at h1
  rw [h1, show (9223372036854775808 : Nat) = 2 ^ 63 from rfl, h2]
  unfold fS
  by_cases hc : 9223372036854775808 ≤ n
  · rw [if_pos hc, show n.testBit 63 = true by
      rw [Nat.testBit_eq_decide_div_mod_eq]; simp; omega]
    rfl
  · rw [if_neg hc, show n.testBit 63 = false by
      rw [Nat.testBit_eq_decide_div_mod_eq]; simp; omega]
    rfl
theorem or_high (n : Nat) (h : n < fS) : bits BinOp.or IntKind.u64 (n : Int) 9223372036854775808 = ((n + fS : Nat) : Int) := by
  unfold fS at *
  have h1 := u64_or_nat n 9223372036854775808 (by omega) (by omega)
  rw [show ((9223372036854775808 : Nat) : Int) = 9223372036854775808 from rfl] at h1
  rw [h1]
  have h2 := Nat.two_pow_add_eq_or_of_lt (i := 63) (b := n) (by omega) 1
  rw [Nat.mul_one, Nat.or_comm] at h2
  rw [show (9223372036854775808 : Nat) = 2 ^ 63 from rfl, ← h2, Nat.add_comm]
theorem not_word (n : Nat) (h : n < 18446744073709551616) : bits BinOp.xor IntKind.u64 IntKind.u64.max (n : Int) = ((18446744073709551615 - n : Nat) : Int) := by
  have h1 := u64_xor_nat 18446744073709551615 n (by omega) h
  have h2 : 18446744073709551615 ^^^ n = 18446744073709551615 - n := by
    have h3 : (BitVec.allOnes 64 ^^^ BitVec.ofNat 64 n).toNat = 18446744073709551615 - n := by
      rw [BitVec.allOnes_xor, BitVec.toNat_not, BitVec.toNat_ofNat, Nat.mod_eq_of_lt (by omega)]
    rw [BitVec.toNat_xor, BitVec.toNat_allOnes, BitVec.toNat_ofNat, Nat.mod_eq_of_lt (by omega)] at h3
    exact h3
  rw [h2] at h1
  rw [← h1]; rfl

theorem order_self_nan (x : Nat) : (FloatKind.f64.format.order x x != some Ordering.eq) = decide (fInf < x % fS) := by
  change (double.order x x != some Ordering.eq) = _
  by_cases h : fInf < x % fS
  · rw [order_nan x x (.inl h)]; simp [h]
  · rw [order_key x x (by omega) (by omega)]; simp [h]
theorem wholeW_key (x : Nat) (h : x % fS ≤ fInf) : wholeW x = if x % fS = 0 then 0 else x := by
  unfold wholeW
  rw [order_key x 0 h (by decide)]
  have h0 : fKey 0 = 0 := by decide
  rw [h0]
  by_cases hz : x % fS = 0
  · rw [if_pos hz, if_pos]
    unfold fKey
    rw [hz]
    simp
  · rw [if_neg hz, if_neg]
    intro hc
    have hc := Int.compare_eq_eq.1 (Option.some.inj hc)
    unfold fKey at hc
    split at hc <;> omega
theorem wholeW_nan (x : Nat) (h : fInf < x % fS) : wholeW x = x := by
  unfold wholeW
  rw [order_nan x 0 (.inl h), if_neg (by simp)]
set_option maxRecDepth 100000 in
set_option maxHeartbeats 2000000 in
theorem kBits_any (x : Nat) (hx : x < 18446744073709551616) (w : World) :
    Calls Tryz.prog 114 #[.float .f64 x] w fun e w' => e = .returned (.int .u64 (kOf x : Nat)) ∧ w = w' := by
  have hb := run_f64bits
  by_cases hn : fInf < x % fS
  · have h1 : (FloatKind.f64.format.order x x != some Ordering.eq) = true := by rw [order_self_nan]; simpa using hn
    have HE := Lib.hid (kOrd_nan hn)
    clear hn
    go_enter Tryz.func114, Tryz.ntmps114
    go_wp2
    go_ret
    exact ⟨by unfold kOf; rw [HE.out]; rfl, rfl⟩
  · have h1 : (FloatKind.f64.format.order x x != some Ordering.eq) = false := by rw [order_self_nan]; simpa using hn
    have hk := wholeW_key x (by omega)
    have hkb : kBits x = wholeW x := by unfold kBits; rw [if_neg hn, hk]
    obtain ⟨y, hy⟩ : ∃ y, wholeW x = y := ⟨_, rfl⟩
    have hyl : y < 18446744073709551616 := by rw [← hy, hk]; split <;> omega
    have HE := Lib.hid (show kOf x = kOrd y by unfold kOf; rw [hkb, hy])
    have HY := Lib.hid hy
    have ha := and_high y hyl
    clear hn hk hkb hy
    by_cases hs : fS ≤ y
    · rw [if_pos hs] at ha
      have h3 := not_word y hyl
      have HS := Lib.hid hs
      clear hs
      go_enter Tryz.func114, Tryz.ntmps114
      go_wp2_with (first | (go_at_call 140; refine (kWhole_any _ _).mono ?_; rintro e w' ⟨rfl, rfl⟩; rw [HY.out]) | go_in)
      go_ret
      exact ⟨by rw [HE.out, kOrd, if_pos HS.out]; rfl, rfl⟩
    · rw [if_neg hs] at ha
      have h3 := or_high y (by omega)
      have HS := Lib.hid hs
      clear hs
      go_enter Tryz.func114, Tryz.ntmps114
      go_wp2_with (first | (go_at_call 140; refine (kWhole_any _ _).mono ?_; rintro e w' ⟨rfl, rfl⟩; rw [HY.out]) | go_in)
      go_ret
      exact ⟨by rw [HE.out, kOrd, if_neg HS.out]; rfl, rfl⟩
end Go.Proofs.YtfglgeoookbppaaGreatDoor
