/- Plain mathematics: the sum of bytes (layer 1) is linear; which sums one, two, three turned bits may give. No program is named here. -/
import Derived.Test.YthepcoifcoinoaaMath
namespace Go.Proofs.Ythepcoifcoinoaa

theorem crcOne_bit (m : Nat) : crcOne m = (m / 2) ^^^ (if m % 2 = 1 then 3988292384 else 0) := by
  unfold crcOne
  split <;> simp
theorem xor_half (a b : Nat) : (a ^^^ b) / 2 = a / 2 ^^^ b / 2 := by
  apply Nat.eq_of_testBit_eq
  intro i
  simp [Nat.testBit_div_two]
theorem xor_odd (a b : Nat) : (a ^^^ b) % 2 = (a % 2) ^^^ (b % 2) := by
  rcases Nat.mod_two_eq_zero_or_one a with ha | ha <;> rcases Nat.mod_two_eq_zero_or_one b with hb | hb
  all_goals
    have h0 := Nat.testBit_xor a b 0
    simp only [Nat.testBit_zero, ha, hb] at h0
    rcases Nat.mod_two_eq_zero_or_one (a ^^^ b) with hc | hc <;> simp [hc] at h0 <;> simp [ha, hb, hc]
theorem xor4 (a b c d : Nat) : (a ^^^ b) ^^^ (c ^^^ d) = (a ^^^ c) ^^^ (b ^^^ d) := by
  apply Nat.eq_of_testBit_eq
  intro i
  simp only [Nat.testBit_xor]
  cases a.testBit i <;> cases b.testBit i <;> cases c.testBit i <;> cases d.testBit i <;> rfl
theorem crcOne_xor (a b : Nat) : crcOne (a ^^^ b) = crcOne a ^^^ crcOne b := by
  rw [crcOne_bit, crcOne_bit, crcOne_bit, xor_half, xor4]
  congr 1
  rw [xor_odd]
  rcases Nat.mod_two_eq_zero_or_one a with ha | ha <;> rcases Nat.mod_two_eq_zero_or_one b with hb | hb <;> simp [ha, hb]
theorem crcR_xor (k a b : Nat) : crcR k (a ^^^ b) = crcR k a ^^^ crcR k b := by
  induction k with
  | zero => rfl
  | succ k ih => rw [crcR, crcR, crcR, ih, crcOne_xor]
theorem crcR_zero (k : Nat) : crcR k 0 = 0 := by
  induction k with
  | zero => rfl
  | succ k ih => rw [crcR, ih]; rfl
theorem crcR_add (i j m : Nat) : crcR (i + j) m = crcR i (crcR j m) := by
  induction i with
  | zero => rw [Nat.zero_add]; rfl
  | succ i ih => rw [Nat.add_right_comm, crcR, crcR, ih]
theorem crcR_shift (k t : Nat) : crcR k (2 ^ k * t) = t := by
  induction k generalizing t with
  | zero => rw [Nat.pow_zero, Nat.one_mul]; rfl
  | succ k ih =>
    rw [crcR, show 2 ^ (k + 1) * t = 2 ^ k * (2 * t) by rw [Nat.pow_succ]; exact Nat.mul_assoc _ _ _, ih]
    unfold crcOne
    rw [if_neg (by omega)]
    omega
theorem crcOne_inj {a b : Nat} (ha : a < 4294967296) (hb : b < 4294967296) (h : crcOne a = crcOne b) : a = b := by
  have key : ∀ m : Nat, m < 4294967296 → (crcOne m).testBit 31 = decide (m % 2 = 1) := fun m hm => by
    rw [crcOne_bit, Nat.testBit_xor]
    have h1 : (m / 2).testBit 31 = false := Nat.testBit_lt_two_pow (by omega)
    rw [h1]
    split <;> rename_i h2 <;> simp [h2] <;> decide
  have h1 := key a ha
  have h2 := key b hb
  rw [h] at h1
  rw [h1] at h2
  have hp : a % 2 = b % 2 := by
    have := Nat.mod_two_eq_zero_or_one a
    have := Nat.mod_two_eq_zero_or_one b
    simp at h2
    omega
  unfold crcOne at h
  rw [hp] at h
  split at h
  · have h3 : a / 2 = b / 2 := by
      have := congrArg (· ^^^ 3988292384) h
      simpa [Nat.xor_assoc] using this
    omega
  · omega
theorem crcR_inj (k : Nat) {a b : Nat} (ha : a < 4294967296) (hb : b < 4294967296) (h : crcR k a = crcR k b) : a = b := by
  induction k with
  | zero => exact h
  | succ k ih => exact ih (crcOne_inj (crcR_lt k a ha) (crcR_lt k b hb) h)
theorem low_high (s : Nat) : s = (s % 256) ^^^ (2 ^ 8 * (s / 256)) := by
  have h := Nat.two_pow_add_eq_or_of_lt (i := 8) (b := s % 256) (by omega) (s / 256)
  have h2 : (2 ^ 8 * (s / 256)) ||| (s % 256) = (s % 256) ^^^ (2 ^ 8 * (s / 256)) := by
    apply Nat.eq_of_testBit_eq
    intro i
    rw [Nat.testBit_or, Nat.testBit_xor]
    by_cases hi : i < 8
    · have : (2 ^ 8 * (s / 256)).testBit i = false := by
        rw [Nat.testBit_two_pow_mul]
        simp
        intro h8
        omega
      simp [this]
    · have : (s % 256).testBit i = false := Nat.testBit_lt_two_pow (Nat.lt_of_lt_of_le (Nat.mod_lt _ (by omega)) (Nat.pow_le_pow_right (n := 2) (i := 8) (by omega) (by omega)))
      simp [this]
  rw [← h2, ← h]
  omega
/-- A step of the sum is eight halvings. -/
theorem crcStep_eq (s b : Nat) : crcStep s b = crcR 8 (s ^^^ b) := by
  unfold crcStep crcWord
  have h : crcR 8 (2 ^ 8 * (s / 256)) = s / 256 := crcR_shift 8 _
  rw [← h, ← crcR_xor]
  congr 1
  conv => rhs; rw [low_high s]
  rw [Nat.xor_assoc, Nat.xor_assoc]
  congr 1
  exact Nat.xor_comm _ _

/-! ### Runs over lists -/
/-- Two lists of bytes, turned into each other's difference. -/
def xorL (a b : List UInt8) : List UInt8 := List.zipWith (· ^^^ ·) a b
theorem crcRun_xor : ∀ (a b : List UInt8) (s d : Nat), a.length = b.length → crcRun (s ^^^ d) (xorL a b) = crcRun s a ^^^ crcRun d b
  | [], [], _, _, _ => rfl
  | x :: a, y :: b, s, d, h => by
    have hl : a.length = b.length := by simpa using h
    show crcRun (crcStep (s ^^^ d) (x ^^^ y).toNat) (xorL a b) = crcRun (crcStep s x.toNat) a ^^^ crcRun (crcStep d y.toNat) b
    rw [← crcRun_xor a b _ _ hl, crcStep_eq, crcStep_eq, crcStep_eq, ← crcR_xor, UInt8.toNat_xor, xor4]
  | [], _ :: _, _, _, h => by simp at h
  | _ :: _, [], _, _, h => by simp at h
theorem crcRun_zeros (k s : Nat) : crcRun s (List.replicate k 0) = crcR (8 * k) s := by
  induction k generalizing s with
  | zero => rfl
  | succ k ih =>
    rw [List.replicate_succ]
    show crcRun (crcStep s (0 : UInt8).toNat) (List.replicate k 0) = _
    rw [ih, crcStep_eq, show 8 * (k + 1) = 8 * k + 8 by omega, crcR_add]
    simp
/-- One byte b, so many noughts ahead of it and behind it. -/
def spike (i b k : Nat) : List UInt8 := List.replicate i 0 ++ UInt8.ofNat b :: List.replicate k 0
theorem crcRun_spike (i b k : Nat) (hb : b < 256) : crcRun 0 (spike i b k) = crcR (8 * (k + 1)) b := by
  unfold spike
  rw [crcRun_append, crcRun_zeros, crcR_zero]
  show crcRun (crcStep 0 (UInt8.ofNat b).toNat) (List.replicate k 0) = _
  rw [crcRun_zeros, crcStep_eq, show 8 * (k + 1) = 8 * k + 8 by omega, crcR_add]
  congr 1
  simp [Nat.mod_eq_of_lt hb]
theorem beN_append (a b : List UInt8) : beN (a ++ b) = beN a * 256 ^ b.length + beN b := by
  induction b generalizing a with
  | nil => simp [beN]
  | cons x b ih =>
    rw [show a ++ x :: b = (a ++ [x]) ++ b by simp, ih, beN_snoc, show x :: b = [x] ++ b from rfl, ih [x], show beN [x] = x.toNat by simp [beN]]
    simp only [List.length_append, List.length_cons, List.length_nil]
    rw [Nat.add_mul, Nat.mul_assoc, Nat.pow_add, Nat.pow_one, Nat.add_assoc]
/-- 2 to the n is a halving of 2 to the 31. -/
theorem two_pow_crc (n : Nat) (h : n ≤ 31) : 2 ^ n = crcR (31 - n) 2147483648 := by
  have := crcR_shift (31 - n) (2 ^ n)
  rw [← Nat.pow_add, show 31 - n + n = 31 by omega] at this
  exact this.symm
end Go.Proofs.Ythepcoifcoinoaa
