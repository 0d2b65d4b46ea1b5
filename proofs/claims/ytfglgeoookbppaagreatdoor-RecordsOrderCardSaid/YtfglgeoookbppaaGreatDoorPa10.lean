/- Plain mathematics of binary floating point: the rungs of the double format, what they are worth, that what a word is worth is written as that word, and how words stand to each other. No program is named here. Plain mathematics of binary floating point: a number that the double format has is written as itself; twice and half of one. No program is named here. Plain mathematics of binary floating point: twice and half of a number. No program is named here. Plain mathematics of binary floating point: whole numbers as words, and back. No program is named here. Plain mathematics of binary floating point: a number brought to where its digits are whole, by halves and doubles. No program is named here. Plain mathematics of layer 18: how the bits of numbers stand. No program is named here. -/
import Ieee.Arith

namespace Go.Proofs.YtfglgeoookbppaaGreatDoor
open Ieee

/-- Rungs to a binade; the rung of infinity; what the sign adds. -/
def fB : Nat := 4503599627370496
def fInf : Nat := 9218868437227405312
def fS : Nat := 9223372036854775808
theorem d_binade : double.binade = fB := by decide
theorem d_inf : double.infRung = fInf := by decide +kernel
theorem d_sign : double.signWeight = fS := by decide
theorem d_least : double.leastPlace = -1074 := by decide

/-- What a rung is worth, in units of the least place; its digits and their place. -/
def rMag (r : Nat) : Nat := if r < fB then r else fB + r % fB
def rUp (r : Nat) : Nat := if r < fB then 0 else r / fB - 1
def rVal (r : Nat) : Nat := rMag r * 2 ^ rUp r

/-- A finite word is a number of its rung's digits. -/
theorem read_num (w : Nat) (h : w % fS < fInf) : double.read w = .number (w / fS % 2 == 1) (rMag (w % fS)) (-1074 + (rUp (w % fS) : Nat)) := by
  unfold Format.read
  simp only [d_binade, d_inf, d_sign, d_least]
  unfold rMag rUp
  by_cases hb : w % fS < fB
  · simp only [hb, if_true]; simp
  · simp only [hb, if_false, h, if_true]
theorem read_inf (w : Nat) (h : w % fS = fInf) : double.read w = .infinity (w / fS % 2 == 1) := by
  unfold Format.read
  simp only [d_binade, d_inf, d_sign, d_least, h]
  rw [if_neg (by decide), if_neg (by decide), if_pos trivial]
theorem read_nan (w : Nat) (h : fInf < w % fS) : double.read w = .nan (w / fS % 2 == 1) (w % fS - fInf) := by
  unfold Format.read
  simp only [d_binade, d_inf, d_sign, d_least]
  rw [if_neg (by unfold fB; unfold fInf at h; omega), if_neg (by omega), if_neg (by omega)]

theorem rMag_lt (r : Nat) : rMag r < 2 * fB := by
  unfold rMag
  split
  · omega
  · have : r % fB < fB := Nat.mod_lt _ (by decide)
    omega
theorem rVal_low {r : Nat} (h : r < fB) : rVal r = r := by simp [rVal, rMag, rUp, h]
theorem rVal_high {r : Nat} (h : fB ≤ r) : rVal r = (fB + r % fB) * 2 ^ (r / fB - 1) := by simp [rVal, rMag, rUp, Nat.not_lt.2 h]

/-- A rung above is worth more. -/
theorem rVal_succ (r : Nat) : rVal r < rVal (r + 1) := by
  have hB : 0 < fB := by decide
  by_cases h : r + 1 < fB
  · rw [rVal_low h, rVal_low (by omega)]; omega
  · by_cases h2 : r < fB
    · obtain rfl : r = fB - 1 := by omega
      rw [rVal_low (by omega), rVal_high (by omega)]
      decide
    · rw [rVal_high (by omega), rVal_high (by omega)]
      have e1 := Nat.div_add_mod r fB
      have m1 : r % fB < fB := Nat.mod_lt _ hB
      by_cases hc : r % fB + 1 = fB
      · have d2 : (r + 1) / fB = r / fB + 1 := by
          rw [show r + 1 = fB * (r / fB + 1) by rw [Nat.mul_add, Nat.mul_one]; omega, Nat.mul_div_cancel_left _ hB]
        have m2 : (r + 1) % fB = 0 := by
          rw [show r + 1 = fB * (r / fB + 1) by rw [Nat.mul_add, Nat.mul_one]; omega, Nat.mul_mod_right]
        rw [d2, m2]
        have hk : r / fB ≥ 1 := Nat.div_pos (by omega) hB
        obtain ⟨k, hk⟩ : ∃ k, r / fB = k + 1 := ⟨r / fB - 1, by omega⟩
        rw [hk, Nat.add_sub_cancel, Nat.add_sub_cancel, Nat.pow_succ]
        have hp : 0 < 2 ^ k := Nat.pow_pos (by omega)
        rw [show (fB + 0) * (2 ^ k * 2) = (2 * fB) * 2 ^ k by rw [Nat.add_zero, Nat.mul_comm (2 ^ k) 2, ← Nat.mul_assoc, Nat.mul_comm fB 2]]
        exact Nat.mul_lt_mul_of_pos_right (by omega) hp
      · have d2 : (r + 1) / fB = r / fB := by
          apply Nat.div_eq_of_lt_le
          · rw [Nat.mul_comm]; omega
          · rw [Nat.add_mul, Nat.one_mul, Nat.mul_comm]; omega
        have m2 : (r + 1) % fB = r % fB + 1 := by
          have e2 := Nat.div_add_mod (r + 1) fB
          rw [d2] at e2
          omega
        rw [d2, m2]
        exact Nat.mul_lt_mul_of_pos_right (by omega) (Nat.pow_pos (by omega))
theorem rVal_lt {r s : Nat} (h : r < s) : rVal r < rVal s := by
  induction s with
  | zero => omega
  | succ s ih =>
    rcases Nat.lt_or_ge r s with h1 | h1
    · exact Nat.lt_trans (ih h1) (rVal_succ s)
    · obtain rfl : r = s := by omega
      exact rVal_succ r
theorem rVal_inj {r s : Nat} (h : rVal r = rVal s) : r = s := by
  rcases Nat.lt_trichotomy r s with h1 | h1 | h1
  · have := rVal_lt h1; omega
  · exact h1
  · have := rVal_lt h1; omega
theorem rVal_compare (r s : Nat) : compare (rVal r : Int) (rVal s : Int) = compare (r : Int) (s : Int) := by
  rcases Nat.lt_trichotomy r s with h | h | h
  · have := rVal_lt h
    rw [Int.compare_eq_lt.2 (by omega), Int.compare_eq_lt.2 (by omega)]
  · subst h; rw [Int.compare_eq_eq.2 rfl, Int.compare_eq_eq.2 rfl]
  · have := rVal_lt h
    rw [Int.compare_eq_gt.2 (by omega), Int.compare_eq_gt.2 (by omega)]

/-- How a word stands: its rung with its sign. -/
def fNeg (w : Nat) : Bool := w / fS % 2 == 1
def fKey (w : Nat) : Int := if fNeg w then -((w % fS : Nat) : Int) else ((w % fS : Nat) : Int)
def fNum (w : Nat) : Bool := decide (w % fS ≤ fInf)

theorem compare_scale (a b p : Int) (hp : 0 < p) : compare (a * p) (b * p) = compare a b := by
  rcases Int.lt_trichotomy a b with h | h | h
  · rw [Int.compare_eq_lt.2 h, Int.compare_eq_lt.2 (Int.mul_lt_mul_of_pos_right h hp)]
  · subst h; rw [Int.compare_eq_eq.2 rfl, Int.compare_eq_eq.2 rfl]
  · rw [Int.compare_eq_gt.2 h, Int.compare_eq_gt.2 (Int.mul_lt_mul_of_pos_right h hp)]
def sgn (n : Bool) (m : Nat) : Int := if n then -(m : Int) else (m : Int)
theorem signed_eq (n : Bool) (m u : Nat) : signed n m u = sgn n (m * 2 ^ u) := by
  unfold signed sgn
  rw [Nat.shiftLeft_eq]
theorem sgn_mul (n : Bool) (m p : Nat) : sgn n (m * p) = sgn n m * (p : Int) := by
  unfold sgn
  cases n
  · simp
  · simp [Int.neg_mul]
theorem rVal_pos {r : Nat} : rVal r = 0 ↔ r = 0 := by
  have h0 : rVal 0 = 0 := by decide
  constructor
  · intro h
    exact rVal_inj (h.trans h0.symm)
  · intro h; subst h; exact h0
theorem sgn_compare (a b : Bool) (r s : Nat) : compare (sgn a (rVal r)) (sgn b (rVal s)) = compare (sgn a r) (sgn b s) := by
  have hr := @rVal_pos r
  have hs := @rVal_pos s
  cases a <;> cases b <;> simp only [sgn, if_true, if_false, Bool.false_eq_true]
  · exact rVal_compare r s
  · by_cases h : r = 0 ∧ s = 0
    · rw [Int.compare_eq_eq.2 (by omega), Int.compare_eq_eq.2 (by omega)]
    · rw [Int.compare_eq_gt.2 (by omega), Int.compare_eq_gt.2 (by omega)]
  · by_cases h : r = 0 ∧ s = 0
    · rw [Int.compare_eq_eq.2 (by omega), Int.compare_eq_eq.2 (by omega)]
    · rw [Int.compare_eq_lt.2 (by omega), Int.compare_eq_lt.2 (by omega)]
  · rcases Nat.lt_trichotomy r s with h | h | h
    · have := rVal_lt h
      rw [Int.compare_eq_gt.2 (by omega), Int.compare_eq_gt.2 (by omega)]
    · subst h; rw [Int.compare_eq_eq.2 rfl, Int.compare_eq_eq.2 rfl]
    · have := rVal_lt h
      rw [Int.compare_eq_lt.2 (by omega), Int.compare_eq_lt.2 (by omega)]

theorem order_key (x y : Nat) (hx : x % fS ≤ fInf) (hy : y % fS ≤ fInf) : double.order x y = some (compare (fKey x) (fKey y)) := by
  have kx : fKey x = sgn (fNeg x) (x % fS) := rfl
  have ky : fKey y = sgn (fNeg y) (y % fS) := rfl
  unfold Format.order
  rw [kx, ky]
  rcases Nat.lt_or_ge (x % fS) fInf with h1 | h1 <;> rcases Nat.lt_or_ge (y % fS) fInf with h2 | h2
  · rw [read_num x h1, read_num y h2]
    simp only [Datum.order]
    rw [← sgn_compare]
    congr 1
    generalize hu : rUp (x % fS) = u
    generalize hv : rUp (y % fS) = v
    have e1 : rVal (x % fS) = rMag (x % fS) * 2 ^ (u - min u v) * 2 ^ min u v := by
      rw [Nat.mul_assoc, ← Nat.pow_add, show u - min u v + min u v = u by omega, rVal, hu]
    have e2 : rVal (y % fS) = rMag (y % fS) * 2 ^ (v - min u v) * 2 ^ min u v := by
      rw [Nat.mul_assoc, ← Nat.pow_add, show v - min u v + min u v = v by omega, rVal, hv]
    have hp : (0 : Int) < ((2 ^ min u v : Nat) : Int) := by
      have : 0 < 2 ^ min u v := Nat.pow_pos (by omega)
      omega
    rw [e1, e2, sgn_mul _ _ (2 ^ min u v), sgn_mul _ _ (2 ^ min u v), compare_scale _ _ _ hp, signed_eq, signed_eq]
    have t1 : ((-1074 + (u : Int)) - min (-1074 + (u : Int)) (-1074 + (v : Int))).toNat = u - min u v := by omega
    have t2 : ((-1074 + (v : Int)) - min (-1074 + (u : Int)) (-1074 + (v : Int))).toNat = v - min u v := by omega
    rw [t1, t2]
    rfl
  · have h2' : y % fS = fInf := by omega
    rw [read_num x h1, read_inf y h2', h2']
    simp only [Datum.order]
    change some (if fNeg y then Ordering.gt else Ordering.lt) = _
    cases fNeg y
    · cases fNeg x <;> simp only [sgn, if_true, if_false, Bool.false_eq_true] <;> rw [Int.compare_eq_lt.2 (by unfold fInf at *; omega)]
    · cases fNeg x <;> simp only [sgn, if_true, if_false, Bool.false_eq_true] <;> rw [Int.compare_eq_gt.2 (by unfold fInf at *; omega)]
  · have h1' : x % fS = fInf := by omega
    rw [read_inf x h1', read_num y h2, h1']
    simp only [Datum.order]
    change some (if fNeg x then Ordering.lt else Ordering.gt) = _
    cases fNeg x
    · cases fNeg y <;> simp only [sgn, if_true, if_false, Bool.false_eq_true] <;> rw [Int.compare_eq_gt.2 (by unfold fInf at *; omega)]
    · cases fNeg y <;> simp only [sgn, if_true, if_false, Bool.false_eq_true] <;> rw [Int.compare_eq_lt.2 (by unfold fInf at *; omega)]
  · have h1' : x % fS = fInf := by omega
    have h2' : y % fS = fInf := by omega
    rw [read_inf x h1', read_inf y h2', h1', h2']
    simp only [Datum.order]
    change some (compare (fNeg y).toNat (fNeg x).toNat) = _
    cases fNeg x <;> cases fNeg y <;> decide +kernel
theorem order_nan (x y : Nat) (h : fInf < x % fS ∨ fInf < y % fS) : double.order x y = none := by
  unfold Format.order
  rcases h with h | h
  · rw [read_nan x h]; rfl
  · rw [read_nan y h]
    rcases Nat.lt_trichotomy (x % fS) fInf with h1 | h1 | h1
    · rw [read_num x h1]; rfl
    · rw [read_inf x h1]; rfl
    · rw [read_nan x h1]; rfl
end Go.Proofs.YtfglgeoookbppaaGreatDoor

namespace Go.Proofs.YtfglgeoookbppaaGreatDoor
open Ieee

theorem log2_shift (n k : Nat) (h : n ≠ 0) : (n * 2 ^ k).log2 = n.log2 + k := by
  induction k with
  | zero => simp
  | succ k ih =>
    rw [Nat.pow_succ, ← Nat.mul_assoc, Nat.mul_comm _ 2, Nat.log2_two_mul (by have : 0 < 2 ^ k := Nat.pow_pos (by omega); exact Nat.mul_ne_zero h (by omega)), ih]
    omega
theorem rMag_log {r : Nat} (h : fB ≤ r) : (rMag r).log2 = 52 := by
  unfold rMag
  rw [if_neg (by omega)]
  have hm : r % fB < fB := Nat.mod_lt _ (by decide)
  have hB : fB = 2 ^ 52 := by decide
  apply Nat.le_antisymm
  · have : fB + r % fB < 2 ^ 53 := by
      have : (2 : Nat) ^ 53 = 2 * fB := by decide
      omega
    have := (Nat.log2_lt (by rw [hB]; omega)).2 this
    omega
  · exact (Nat.le_log2 (by rw [hB]; omega)).2 (by rw [← hB]; omega)
theorem rMag_log_low {r : Nat} (h : r < fB) (h0 : r ≠ 0) : (rMag r).log2 ≤ 51 := by
  unfold rMag
  rw [if_pos h]
  have hB : fB = 2 ^ 52 := by decide
  have := (Nat.log2_lt h0).2 (show r < 2 ^ 52 by omega)
  omega
theorem rung_parts (r : Nat) : rUp r * fB + rMag r = r := by
  unfold rUp rMag
  split
  · omega
  · rename_i h
    have e := Nat.div_add_mod r fB
    obtain ⟨k, hk⟩ : ∃ k, r / fB = k + 1 := ⟨r / fB - 1, by have : 0 < r / fB := Nat.div_pos (by omega) (by decide); omega⟩
    rw [hk] at e ⊢
    rw [Nat.add_sub_cancel]
    rw [Nat.mul_add, Nat.mul_one, Nat.mul_comm] at e
    omega
theorem cut_exact (neg : Bool) (n m d : Nat) (h : n = m * 2 ^ d) (hm : m ≠ 0) : Toward.even.cut neg n d = m := by
  have hp : 0 < 2 ^ d := Nat.pow_pos (by omega)
  have hl : n.log2 = m.log2 + d := by rw [h, log2_shift _ _ hm]
  unfold Toward.cut
  have hg : (1 <<< min d (n.log2 + 2) : Nat) = 2 ^ d := by
    rw [show min d (n.log2 + 2) = d by omega, Nat.shiftLeft_eq, Nat.one_mul]
  simp only [hg]
  rw [h, Nat.mul_div_cancel _ hp, Nat.mul_mod_left]
  have : ¬ 2 ^ d < 2 * 0 := by omega
  have h2 : (2 ^ d == 2 * 0) = false := by simp
  simp [h2]

theorem nearest_exact (neg : Bool) (mag r : Nat) (place : Int) (h0 : mag ≠ 0) (hr : r < fInf) (h : mag * 2 ^ (place + 1074).toNat = rVal r * 2 ^ (-1074 - place).toNat) :
    double.nearest neg mag place = double.word neg r := by
  obtain ⟨a, ha⟩ : ∃ a, (place + 1074).toNat = a := ⟨_, rfl⟩
  obtain ⟨b, hb⟩ : ∃ b, (-1074 - place).toNat = b := ⟨_, rfl⟩
  rw [ha, hb] at h
  have hpl : place = (a : Int) - b - 1074 := by omega
  have hM0 : rMag r ≠ 0 := fun hz => by
    have hp : 0 < 2 ^ a := Nat.pow_pos (by omega)
    have : mag * 2 ^ a = 0 := by rw [h, rVal, hz, Nat.zero_mul, Nat.zero_mul]
    rcases Nat.mul_eq_zero.1 this with h1 | h1
    · exact h0 h1
    · omega
  have h' : mag * 2 ^ a = rMag r * 2 ^ (rUp r + b) := by rw [h, rVal, Nat.mul_assoc, ← Nat.pow_add]
  have hlog : mag.log2 + a = (rMag r).log2 + (rUp r + b) := by
    rw [← log2_shift mag a h0, h', log2_shift _ _ hM0]
  have hlast : max (place + (mag.log2 : Int) - 52) (-1074) = (rUp r : Int) - 1074 := by
    by_cases hb' : r < fB
    · have hu : rUp r = 0 := by simp [rUp, hb']
      have hr0 : r ≠ 0 := fun hz => by subst hz; exact hM0 (by decide)
      have := rMag_log_low hb' hr0
      omega
    · have := rMag_log (r := r) (by omega)
      omega
  unfold Format.nearest
  rw [if_neg h0]
  have hfb : double.fractionBits = 52 := rfl
  simp only [d_least, d_binade, d_inf, hfb]
  rw [show (((52 : Nat) : Int)) = 52 from rfl, hlast]
  have hk : Toward.even.cut neg (mag <<< (place - ((rUp r : Int) - 1074)).toNat) (((rUp r : Int) - 1074) - place).toNat = rMag r := by
    apply cut_exact _ _ _ _ _ hM0
    rw [Nat.shiftLeft_eq]
    rcases Nat.lt_or_ge a (rUp r + b) with hlt | hge
    · rw [show (place - ((rUp r : Int) - 1074)).toNat = 0 by omega, show (((rUp r : Int) - 1074) - place).toNat = rUp r + b - a by omega, Nat.pow_zero, Nat.mul_one]
      have hp : 0 < 2 ^ a := Nat.pow_pos (by omega)
      apply Nat.eq_of_mul_eq_mul_right hp
      rw [h', Nat.mul_assoc, ← Nat.pow_add, show rUp r + b - a + a = rUp r + b by omega]
    · rw [show (place - ((rUp r : Int) - 1074)).toNat = a - (rUp r + b) by omega, show (((rUp r : Int) - 1074) - place).toNat = 0 by omega, Nat.pow_zero, Nat.mul_one]
      have hp : 0 < 2 ^ (rUp r + b) := Nat.pow_pos (by omega)
      apply Nat.eq_of_mul_eq_mul_right hp
      rw [Nat.mul_assoc, ← Nat.pow_add, show a - (rUp r + b) + (rUp r + b) = a by omega, h']
  rw [hk, show (((rUp r : Int) - 1074) - -1074).toNat = rUp r by omega, rung_parts r, Nat.min_eq_left (by omega)]
end Go.Proofs.YtfglgeoookbppaaGreatDoor

namespace Go.Proofs.YtfglgeoookbppaaGreatDoor
open Ieee

/-- The rung of twice as much. -/
def dbl (r : Nat) : Nat := if r < fB then 2 * r else r + fB
theorem rVal_dbl (r : Nat) : rVal (dbl r) = 2 * rVal r := by
  have hB : 0 < fB := by decide
  unfold dbl
  split
  · rename_i h
    rw [rVal_low h]
    by_cases h2 : 2 * r < fB
    · exact rVal_low h2
    · have h3 : 2 * r / fB = 1 := Nat.div_eq_of_lt_le (by omega) (by omega)
      have h4 : 2 * r % fB = 2 * r - fB := by rw [Nat.mod_eq_sub_mod (by omega), Nat.mod_eq_of_lt (by omega)]
      rw [rVal_high (by omega), h3, h4, Nat.sub_self, Nat.pow_zero, Nat.mul_one]
      omega
  · rename_i h
    have h3 : (r + fB) / fB = r / fB + 1 := Nat.add_div_right _ hB
    have h4 : (r + fB) % fB = r % fB := Nat.add_mod_right _ _
    obtain ⟨k, hk⟩ : ∃ k, r / fB = k + 1 := ⟨r / fB - 1, by have : 0 < r / fB := Nat.div_pos (by omega) hB; omega⟩
    rw [rVal_high (by omega), rVal_high (by omega), h3, h4, hk, Nat.add_sub_cancel, Nat.add_sub_cancel, Nat.pow_succ, Nat.mul_comm (2 ^ k) 2, ← Nat.mul_assoc, Nat.mul_comm _ 2, Nat.mul_assoc]
def fTwo : Nat := 4611686018427387904
def fHalf : Nat := 4602678819172646912
theorem word_parts (n : Bool) (r : Nat) (h : r < fS) : (double.word n r) % fS = r ∧ fNeg (double.word n r) = n := by
  unfold Format.word fNeg
  rw [d_sign]
  have hS : 0 < fS := by decide
  cases n
  · simp only [Bool.false_eq_true, if_false]
    exact ⟨Nat.mod_eq_of_lt h, by rw [Nat.div_eq_of_lt h]; rfl⟩
  · simp only [if_true]
    refine ⟨by rw [Nat.add_mod_left, Nat.mod_eq_of_lt h], ?_⟩
    rw [show fS + r = r + fS * 1 by omega, Nat.add_mul_div_left _ _ hS, Nat.div_eq_of_lt h]; rfl
theorem read_two : double.read fTwo = .number false fB (-1074 + 1023) := by decide +kernel
theorem read_half : double.read fHalf = .number false fB (-1074 + 1021) := by decide +kernel

theorem mul_scale (K : Nat) (hK : K = 1074) (x r2 : Nat) (c : Nat) (p q : Nat) (hc : double.read c = .number false fB (-1074 + (q : Int))) (hx : x % fS < fInf) (h2 : r2 < fInf) (hpq : p = q + 52) (hv : rVal (x % fS) * 2 ^ p = rVal r2 * 2 ^ K) :
    double.mul x c = some (double.word (fNeg x) r2) := by
  unfold Format.mul
  rw [read_num x hx, hc]
  simp only [Datum.product, Option.map_some]
  change some (double.nearest ((fNeg x) ^^ false) (rMag (x % fS) * fB) (-1074 + (rUp (x % fS) : Int) + (-1074 + (q : Int)))) = _
  rw [Bool.xor_false]
  congr 1
  have hB : fB = 2 ^ 52 := by decide
  by_cases h0 : rMag (x % fS) = 0
  · have hr2 : r2 = 0 := by
      have h1 : rVal r2 * 2 ^ K = 0 := by rw [← hv, rVal, h0, Nat.zero_mul, Nat.zero_mul]
      have h3 : 0 < 2 ^ K := Nat.pow_pos (by omega)
      rcases Nat.mul_eq_zero.1 h1 with h4 | h4
      · exact rVal_pos.1 h4
      · exact absurd h4 (Nat.ne_of_gt h3)
    subst hr2
    unfold Format.nearest
    rw [if_pos (by rw [h0, Nat.zero_mul])]
  · apply nearest_exact _ _ _ _ (Nat.mul_ne_zero h0 (by decide)) h2
    have e1 : (-1074 + (rUp (x % fS) : Int) + (-1074 + (q : Int)) + 1074).toNat = rUp (x % fS) + q - K := by omega
    have e2 : (-1074 - (-1074 + (rUp (x % fS) : Int) + (-1074 + (q : Int)))).toNat = K - (rUp (x % fS) + q) := by omega
    rw [e1, e2]
    rw [rVal, Nat.mul_assoc, ← Nat.pow_add] at hv
    generalize rUp (x % fS) = u at *
    generalize rMag (x % fS) = m at *
    generalize rVal r2 = v at *
    rw [hB, Nat.mul_assoc, ← Nat.pow_add]
    rcases Nat.lt_or_ge (u + q) K with hlt | hge
    · rw [show u + q - K = 0 by omega, Nat.add_zero]
      have hp : 0 < 2 ^ (u + q) := Nat.pow_pos (by omega)
      apply Nat.eq_of_mul_eq_mul_right hp
      rw [Nat.mul_assoc, ← Nat.pow_add, Nat.mul_assoc, ← Nat.pow_add, show 52 + (u + q) = u + p by omega, show K - (u + q) + (u + q) = K by omega, hv]
    · rw [show K - (u + q) = 0 by omega, Nat.pow_zero, Nat.mul_one]
      have hp : 0 < 2 ^ K := Nat.pow_pos (by omega)
      apply Nat.eq_of_mul_eq_mul_right hp
      rw [Nat.mul_assoc, ← Nat.pow_add, show 52 + (u + q - K) + K = u + p by omega, hv]
/-- Twice a number. -/
theorem mul_two (x : Nat) (hx : x % fS < fInf) (h2 : dbl (x % fS) < fInf) : double.mul x fTwo = some (double.word (fNeg x) (dbl (x % fS))) := by
  obtain ⟨K, hK⟩ : ∃ K, K = 1074 := ⟨_, rfl⟩
  refine mul_scale K hK x _ fTwo (K + 1) 1023 read_two hx h2 (by omega) ?_
  rw [rVal_dbl, Nat.pow_succ, Nat.mul_comm (2 ^ K) 2, ← Nat.mul_assoc, Nat.mul_comm _ 2]
/-- Half of a number that is twice another one. -/
theorem mul_half (x r : Nat) (hx : x % fS < fInf) (h : x % fS = dbl r) : double.mul x fHalf = some (double.word (fNeg x) r) := by
  have hr : r < fInf := by
    unfold dbl at h
    split at h <;> unfold fInf at * <;> unfold fB at * <;> omega
  obtain ⟨K, hK⟩ : ∃ K, K = 1073 := ⟨_, rfl⟩
  refine mul_scale (K + 1) (by omega) x r fHalf K 1021 read_half hx hr (by omega) ?_
  rw [h, rVal_dbl, Nat.pow_succ, Nat.mul_comm (2 ^ K) 2, ← Nat.mul_assoc, Nat.mul_comm _ 2]
end Go.Proofs.YtfglgeoookbppaaGreatDoor

namespace Go.Proofs.YtfglgeoookbppaaGreatDoor
open Ieee

/-- The rung of a whole number. -/
def intRung (m : Nat) : Nat := if m = 0 then 0 else (1022 + m.log2) * fB + m * 2 ^ (52 - m.log2)
theorem intRung_parts {m : Nat} (h0 : m ≠ 0) (hm : m < 2 * fB) : m.log2 ≤ 52 ∧ fB ≤ m * 2 ^ (52 - m.log2) ∧ m * 2 ^ (52 - m.log2) < 2 * fB := by
  have hB : fB = 2 ^ 52 := by decide
  have h2 : 2 * fB = 2 ^ 53 := by decide
  have hl : m.log2 < 53 := (Nat.log2_lt h0).2 (by rw [← h2]; exact hm)
  have lo : 2 ^ m.log2 ≤ m := Nat.log2_self_le h0
  have hi : m < 2 ^ (m.log2 + 1) := Nat.lt_log2_self
  generalize m.log2 = k at *
  refine ⟨by omega, ?_, ?_⟩
  · rw [hB, show 52 = k + (52 - k) by omega, Nat.pow_add]
    rw [show k + (52 - k) - k = 52 - k by omega]
    exact Nat.mul_le_mul_right _ lo
  · rw [h2, show 53 = (k + 1) + (52 - k) by omega, Nat.pow_add]
    exact Nat.mul_lt_mul_of_pos_right hi (Nat.pow_pos (by omega))
theorem intRung_val {m : Nat} (hm : m < 2 * fB) (K : Nat) (hK : K = 1074) : rVal (intRung m) = m * 2 ^ K ∧ intRung m < fInf := by
  by_cases h0 : m = 0
  · subst h0
    exact ⟨by rw [Nat.zero_mul]; decide, by decide⟩
  · obtain ⟨h1, h2, h3⟩ := intRung_parts h0 hm
    unfold intRung
    rw [if_neg h0]
    obtain ⟨g, hg⟩ : ∃ g, m * 2 ^ (52 - m.log2) = fB + g := ⟨m * 2 ^ (52 - m.log2) - fB, by omega⟩
    have hgl : g < fB := by omega
    have hge : fB ≤ (1022 + m.log2) * fB + (fB + g) := by omega
    have hd : ((1022 + m.log2) * fB + (fB + g)) / fB = 1023 + m.log2 := by
      rw [show (1022 + m.log2) * fB + (fB + g) = g + fB * (1023 + m.log2) by rw [show 1023 + m.log2 = (1022 + m.log2) + 1 by omega, Nat.mul_add, Nat.mul_comm fB (1022 + m.log2)]; omega,
        Nat.add_mul_div_left _ _ (by decide), Nat.div_eq_of_lt hgl, Nat.zero_add]
    have hmod : ((1022 + m.log2) * fB + (fB + g)) % fB = g := by
      rw [show (1022 + m.log2) * fB + (fB + g) = g + fB * (1023 + m.log2) by rw [show 1023 + m.log2 = (1022 + m.log2) + 1 by omega, Nat.mul_add, Nat.mul_comm fB (1022 + m.log2)]; omega,
        Nat.add_mul_mod_self_left, Nat.mod_eq_of_lt hgl]
    constructor
    · rw [hg, rVal_high hge, hd, hmod, ← hg, Nat.mul_assoc, ← Nat.pow_add, show 52 - m.log2 + (1023 + m.log2 - 1) = K by omega]
    · rw [hg]
      have : (1022 + m.log2) * fB ≤ 1074 * fB := Nat.mul_le_mul_right _ (by omega)
      unfold fInf
      unfold fB at *
      omega
theorem nearest_int {m : Nat} (hm : m < 2 * fB) (neg : Bool) : double.nearest neg m 0 = double.word neg (intRung m) := by
  by_cases h0 : m = 0
  · subst h0
    unfold Format.nearest intRung
    rw [if_pos rfl, if_pos rfl]
  · obtain ⟨K, hK⟩ : ∃ K, K = 1074 := ⟨_, rfl⟩
    obtain ⟨h1, h2⟩ := intRung_val hm K hK
    refine nearest_exact _ _ _ _ h0 h2 ?_
    rw [h1, show ((0 : Int) + 1074).toNat = K by omega, show ((-1074 : Int) - 0).toNat = 0 by omega, Nat.pow_zero, Nat.mul_one]

theorem cut_zero (neg : Bool) (n m d : Nat) (h : n = m * 2 ^ d) : Toward.zero.cut neg n d = m := by
  have hp : 0 < 2 ^ d := Nat.pow_pos (by omega)
  unfold Toward.cut
  by_cases hm : m = 0
  · subst hm
    rw [Nat.zero_mul] at h
    subst h
    simp
  · have hl : n.log2 = m.log2 + d := by rw [h, log2_shift _ _ hm]
    have hg : (1 <<< min d (n.log2 + 2) : Nat) = 2 ^ d := by
      rw [show min d (n.log2 + 2) = d by omega, Nat.shiftLeft_eq, Nat.one_mul]
    simp only [hg]
    rw [h, Nat.mul_div_cancel _ hp]
    rfl
/-- A word that is worth a whole number, as that number. -/
theorem toInt_word (w m : Nat) (hw : w < fInf) (K : Nat) (hK : K = 1074) (hv : rVal w = m * 2 ^ K) : (double.read w).toInt .zero = some (m : Int) := by
  have hS : fInf < fS := by decide
  have h1 : w % fS = w := Nat.mod_eq_of_lt (by omega)
  rw [read_num w (by omega), h1, show w / fS = 0 from Nat.div_eq_of_lt (by omega)]
  unfold Datum.toInt Datum.integral
  simp only
  have hk : Toward.zero.cut (0 % 2 == 1) (rMag w <<< (-1074 + (rUp w : Int)).toNat) (-(-1074 + (rUp w : Int))).toNat = m := by
    apply cut_zero
    rw [Nat.shiftLeft_eq]
    unfold rVal at hv
    generalize rUp w = u at *
    generalize rMag w = g at *
    rcases Nat.lt_or_ge u K with hlt | hge
    · rw [show (-1074 + (u : Int)).toNat = 0 by omega, show (-(-1074 + (u : Int))).toNat = K - u by omega, Nat.pow_zero, Nat.mul_one]
      have hp : 0 < 2 ^ u := Nat.pow_pos (by omega)
      apply Nat.eq_of_mul_eq_mul_right hp
      rw [hv, Nat.mul_assoc, ← Nat.pow_add, show K - u + u = K by omega]
    · rw [show (-1074 + (u : Int)).toNat = u - K by omega, show (-(-1074 + (u : Int))).toNat = 0 by omega, Nat.pow_zero, Nat.mul_one]
      have hp : 0 < 2 ^ K := Nat.pow_pos (by omega)
      apply Nat.eq_of_mul_eq_mul_right hp
      rw [Nat.mul_assoc, ← Nat.pow_add, show u - K + K = u by omega, hv]
  rw [hk]
  simp [signed]
end Go.Proofs.YtfglgeoookbppaaGreatDoor

namespace Go.Proofs.YtfglgeoookbppaaGreatDoor
open Ieee

/-- The rungs of 2^52 and of 2^53. -/
def r52 : Nat := 4841369599423283200
def r53 : Nat := 4845873199050653696
theorem r52_eq : r52 = 1075 * fB ∧ r53 = 1076 * fB := by decide
theorem rVal_at (K : Nat) (hK : K = 1074) (t : Nat) (ht : t < fB) : rVal (1075 * fB + t) = (fB + t) * 2 ^ K := by
  have hB : 0 < fB := by decide
  have hge : fB ≤ 1075 * fB + t := by have : fB ≤ 1075 * fB := Nat.le_mul_of_pos_left _ (by omega); omega
  have hd : (1075 * fB + t) / fB = 1075 := by
    rw [show 1075 * fB + t = t + fB * 1075 by rw [Nat.mul_comm]; omega, Nat.add_mul_div_left _ _ hB, Nat.div_eq_of_lt ht]
  have hm : (1075 * fB + t) % fB = t := by
    rw [show 1075 * fB + t = t + fB * 1075 by rw [Nat.mul_comm]; omega, Nat.add_mul_mod_self_left, Nat.mod_eq_of_lt ht]
  rw [rVal_high hge, hd, hm, show 1075 - 1 = K by omega]
/-- Twice, so many times. -/
def dblN : Nat → Nat → Nat
  | 0, r => r
  | k + 1, r => dbl (dblN k r)
theorem rVal_dblN (k r : Nat) : rVal (dblN k r) = rVal r * 2 ^ k := by
  induction k with
  | zero => simp [dblN]
  | succ k ih => rw [dblN, rVal_dbl, ih, Nat.pow_succ, Nat.mul_comm 2, Nat.mul_assoc]
/-- A rung's number is below another one's just if the rung is. -/
theorem rVal_lt_iff (r s : Nat) : rVal r < rVal s ↔ r < s := by
  constructor
  · intro h
    rcases Nat.lt_or_ge r s with h1 | h1
    · exact h1
    · rcases Nat.eq_or_lt_of_le h1 with h2 | h2
      · subst h2; omega
      · have := rVal_lt h2; omega
  · exact rVal_lt
/-- A subnormal number, doubled at most 1074 times, stays below 2^52. -/
theorem dblN_low (K : Nat) (hK : K = 1074) (r k : Nat) (hr : r < fB) (hk : k ≤ K) : dblN k r < r52 := by
  rw [← rVal_lt_iff, rVal_dblN, r52_eq.1, show 1075 * fB = 1075 * fB + 0 from rfl, rVal_at K hK 0 (by decide), rVal_low hr, Nat.add_zero]
  have h1 : 2 ^ k ≤ 2 ^ K := Nat.pow_le_pow_right (by omega) hk
  have h2 : 0 < 2 ^ K := Nat.pow_pos (by omega)
  exact Nat.lt_of_le_of_lt (Nat.mul_le_mul_left _ h1) (Nat.mul_lt_mul_of_pos_right hr h2)
theorem dblN_last (K : Nat) (hK : K = 1074) (r : Nat) (hr : r < fB) : (double.read (dblN K r)).toInt .zero = some (r : Int) := by
  have h := dblN_low K hK r K hr (Nat.le_refl _)
  exact toInt_word _ r (Nat.lt_trans h (by decide)) K hK (by rw [rVal_dblN, rVal_low hr])
/-- A normal number: its binade and its fraction; halved and doubled it keeps the fraction. -/
theorem norm_parts {r : Nat} (h1 : fB ≤ r) (h2 : r < fInf) : 1 ≤ r / fB ∧ r / fB ≤ 2046 ∧ r % fB < fB ∧ r = (r / fB) * fB + r % fB := by
  have hB : 0 < fB := by decide
  refine ⟨Nat.div_pos h1 hB, ?_, Nat.mod_lt _ hB, ?_⟩
  · have : r / fB < 2047 := (Nat.div_lt_iff_lt_mul hB).2 (by unfold fInf fB at *; omega)
    omega
  · have := Nat.div_add_mod r fB
    rw [Nat.mul_comm] at this
    exact this.symm
theorem dbl_norm (E t : Nat) (h : 1 ≤ E) : dbl (E * fB + t) = (E + 1) * fB + t := by
  unfold dbl
  have : fB ≤ E * fB := Nat.le_mul_of_pos_left _ h
  rw [if_neg (by omega), Nat.add_mul, Nat.one_mul]
  omega
theorem toInt_norm (t : Nat) (ht : t < fB) : (double.read (1075 * fB + t)).toInt .zero = some ((fB + t : Nat) : Int) := by
  obtain ⟨K, hK⟩ : ∃ K, K = 1074 := ⟨_, rfl⟩
  refine toInt_word _ (fB + t) ?_ K hK (rVal_at K hK t ht)
  unfold fInf fB at *
  omega
end Go.Proofs.YtfglgeoookbppaaGreatDoor

namespace Go.Proofs.YtfglgeoookbppaaGreatDoor
open Ieee

/-- A number's bits as a key has them (of no number one word, of -0 those of 0), and these in order. -/
def kBits (w : Nat) : Nat := if fInf < w % fS then 9221120237041090560 else if w % fS = 0 then 0 else w
def kOrd (n : Nat) : Nat := if fS ≤ n then 18446744073709551615 - n else n + fS
theorem word_cases {w : Nat} (h : w < 18446744073709551616) : (w < fS ∧ fNeg w = false ∧ w % fS = w) ∨ (fS ≤ w ∧ fNeg w = true ∧ w = fS + w % fS) := by
  unfold fNeg
  rcases Nat.lt_or_ge w fS with h1 | h1
  · refine .inl ⟨h1, by rw [Nat.div_eq_of_lt h1]; rfl, Nat.mod_eq_of_lt h1⟩
  · have hd : w / fS = 1 := Nat.div_eq_of_lt_le (by omega) (by unfold fS at *; omega)
    have hm : w % fS = w - fS := by rw [Nat.mod_eq_sub_mod h1, Nat.mod_eq_of_lt (by unfold fS at *; omega)]
    exact .inr ⟨h1, by rw [hd]; rfl, by omega⟩
theorem kOrd_key {w : Nat} (h : w < 18446744073709551616) (hn : w % fS ≤ fInf) : ((kOrd (kBits w) : Nat) : Int) = (if fKey w < 0 then (fS : Int) - 1 + fKey w else (fS : Int) + fKey w) := by
  unfold kBits
  rw [if_neg (by omega)]
  have hS : fInf < fS := by decide
  rcases word_cases h with ⟨h1, h2, h3⟩ | ⟨h1, h2, h3⟩
  · have hk : fKey w = (w : Int) := by unfold fKey; rw [h2, h3]; rfl
    rw [hk, if_neg (show ¬ ((w : Nat) : Int) < 0 by omega)]
    by_cases h0 : w % fS = 0
    · rw [if_pos h0]
      unfold kOrd
      rw [if_neg (by unfold fS; omega)]
      omega
    · rw [if_neg h0]
      unfold kOrd
      rw [if_neg (by omega)]
      omega
  · have hk : fKey w = -((w % fS : Nat) : Int) := by unfold fKey; rw [h2]; rfl
    rw [hk]
    by_cases h0 : w % fS = 0
    · rw [if_pos h0, h0]
      unfold kOrd
      rw [if_neg (by unfold fS; omega)]
      simp
    · rw [if_neg h0, if_pos (show -((w % fS : Nat) : Int) < 0 by omega)]
      unfold kOrd
      rw [if_pos h1]
      unfold fS at *
      omega
theorem kOrd_nan {w : Nat} (hn : fInf < w % fS) : kOrd (kBits w) = 18444492273895866368 := by
  unfold kBits
  rw [if_pos hn]
  decide
theorem fKey_le {w : Nat} (hn : w % fS ≤ fInf) : fKey w ≤ (fInf : Int) ∧ -(fInf : Int) ≤ fKey w := by
  unfold fKey
  split <;> omega
/-- Numbers' bits in order stand as the numbers do. -/
theorem kOrd_lt {x y : Nat} (hx : x < 18446744073709551616) (hy : y < 18446744073709551616) (nx : x % fS ≤ fInf) (ny : y % fS ≤ fInf) : kOrd (kBits x) < kOrd (kBits y) ↔ fKey x < fKey y := by
  have h1 := kOrd_key hx nx
  have h2 := kOrd_key hy ny
  split at h1 <;> split at h2 <;> omega
theorem kOrd_eq {x y : Nat} (hx : x < 18446744073709551616) (hy : y < 18446744073709551616) (nx : x % fS ≤ fInf) (ny : y % fS ≤ fInf) : kOrd (kBits x) = kOrd (kBits y) ↔ fKey x = fKey y := by
  have h1 := kOrd_lt hx hy nx ny
  have h2 := kOrd_lt hy hx ny nx
  omega
/-- No number stands behind all. -/
theorem kOrd_nan_lt {x y : Nat} (hx : x < 18446744073709551616) (nx : x % fS ≤ fInf) (ny : fInf < y % fS) : kOrd (kBits x) < kOrd (kBits y) := by
  have h1 := kOrd_key hx nx
  have h2 := kOrd_nan ny
  have h3 := fKey_le nx
  unfold fInf fS at *
  split at h1 <;> omega
end Go.Proofs.YtfglgeoookbppaaGreatDoor
