/- Plain mathematics for the walks: the sum of bytes (layer 1) as a function on natural numbers, and small facts on bits. No program is named here. Plain mathematics: a number and its bytes, the higher ones first. No program is named here. -/
import Derived.RowKit
import Derived.Laws.BitsAllLaws
import Derived.Below

namespace Go.Proofs.YtfglgeoookbppaaGreatDoor
open Go.RowKit

/-- One halving. -/
def crcOne (m : Nat) : Nat := if m % 2 = 1 then (m / 2) ^^^ 3988292384 else m / 2
def crcR : Nat → Nat → Nat
  | 0, m => m
  | k + 1, m => crcOne (crcR k m)
def crcWord (b : Nat) : Nat := crcR 8 b
def crcStep (s b : Nat) : Nat := crcWord ((s % 256) ^^^ b) ^^^ (s / 256)
def crcRun (s : Nat) (l : List UInt8) : Nat := l.foldl (fun s b => crcStep s b.toNat) s
def crcSum (l : List UInt8) : Nat := 4294967295 - crcRun 4294967295 l

theorem crcOne_lt (m : Nat) (h : m < 4294967296) : crcOne m < 4294967296 := by
  unfold crcOne
  split
  · exact Nat.xor_lt_two_pow (n := 32) (by omega) (by omega)
  · omega
theorem crcR_lt (k m : Nat) (h : m < 4294967296) : crcR k m < 4294967296 := by
  induction k with
  | zero => exact h
  | succ k ih => exact crcOne_lt _ ih
theorem crcWord_lt (b : Nat) (h : b < 256) : crcWord b < 4294967296 := crcR_lt 8 b (by omega)
theorem crcStep_lt (s b : Nat) (hs : s < 4294967296) (hb : b < 256) : crcStep s b < 4294967296 := by
  unfold crcStep
  exact Nat.xor_lt_two_pow (n := 32) (crcWord_lt _ (Nat.xor_lt_two_pow (n := 8) (by omega) (by omega))) (by omega)
theorem crcRun_lt (l : List UInt8) : ∀ (s : Nat), s < 4294967296 → crcRun s l < 4294967296 := by
  induction l with
  | nil => exact fun s h => h
  | cons b l ih => exact fun s h => ih _ (crcStep_lt _ _ h b.toNat_lt)
theorem crcRun_append (s : Nat) (a b : List UInt8) : crcRun s (a ++ b) = crcRun (crcRun s a) b := by simp [crcRun]
theorem crcRun_snoc (s : Nat) (a : List UInt8) (b : UInt8) : crcRun s (a ++ [b]) = crcStep (crcRun s a) b.toNat := by simp [crcRun]
theorem crcRun_nil (s : Nat) : crcRun s [] = s := rfl
theorem crcSum_lt (l : List UInt8) : crcSum l < 4294967296 := by unfold crcSum; omega

/-- Odd, as the program asks it. -/
theorem and_one32 (m : Nat) (h : m < 4294967296) : bits BinOp.and IntKind.u32 (m : Int) 1 = ((m % 2 : Nat) : Int) := by
  have := u32_and_nat m 1 h (by omega)
  rw [show ((1 : Nat) : Int) = 1 from rfl] at this
  rw [this, Nat.and_one_is_mod]
theorem xor_poly32 (m : Nat) (h : m < 4294967296) : bits BinOp.xor IntKind.u32 ((m : Int) / 2) 3988292384 = ((m / 2 ^^^ 3988292384 : Nat) : Int) := by
  have := u32_xor_nat (m / 2) 3988292384 (by omega) (by omega)
  rw [show ((3988292384 : Nat) : Int) = 3988292384 from rfl] at this
  rw [← this]; rfl
theorem crcOne_odd (m : Nat) (h : m < 4294967296) (ho : (bits BinOp.and IntKind.u32 (m : Int) 1 == 1) = true) : bits BinOp.xor IntKind.u32 ((m : Int) / 2) 3988292384 = (crcOne m : Int) := by
  rw [and_one32 m h] at ho
  have : m % 2 = 1 := by have := (beq_iff_eq.1 ho); omega
  rw [xor_poly32 m h, crcOne, if_pos this]
theorem crcOne_even (m : Nat) (h : m < 4294967296) (ho : (bits BinOp.and IntKind.u32 (m : Int) 1 == 1) = false) : (m : Int) / 2 = (crcOne m : Int) := by
  rw [and_one32 m h] at ho
  have : m % 2 ≠ 1 := by have := (beq_eq_false_iff_ne.1 ho); omega
  rw [crcOne, if_neg this]; omega
theorem crcIdx (s x : Nat) (hx : x < 256) : bits BinOp.xor IntKind.u8 (IntKind.u8.wrap (s : Int)) (x : Int) = ((s % 256 ^^^ x : Nat) : Int) := by
  have h := u8_xor_nat (s % 256) x (by omega) hx
  rw [← h, IntKind.wrap_u8]; rfl
theorem crcIdx' (s x : Nat) (hx : x < 256) : bits BinOp.xor IntKind.u8 ((s : Int) % 256) (x : Int) = ((s % 256 ^^^ x : Nat) : Int) := by
  have h := u8_xor_nat (s % 256) x (by omega) hx
  rw [← h]; rfl
theorem crcNext (s x : Nat) (hs : s < 4294967296) (hx : x < 256) : bits BinOp.xor IntKind.u32 ((crcWord (s % 256 ^^^ x) : Nat) : Int) ((s : Int) / 256) = ((crcStep s x : Nat) : Int) := by
  have hi : s % 256 ^^^ x < 256 := Nat.xor_lt_two_pow (n := 8) (by omega) (by omega)
  have h := u32_xor_nat (crcWord (s % 256 ^^^ x)) (s / 256) (crcWord_lt _ hi) (by omega)
  rw [crcStep, ← h]; rfl
theorem xor_ones32 (s : Nat) (h : s < 4294967296) : 4294967295 ^^^ s = 4294967295 - s := by
  have h1 : (BitVec.allOnes 32 ^^^ BitVec.ofNat 32 s).toNat = 4294967295 - s := by
    rw [BitVec.allOnes_xor, BitVec.toNat_not, BitVec.toNat_ofNat, Nat.mod_eq_of_lt (by omega)]
  rw [BitVec.toNat_xor, BitVec.toNat_allOnes, BitVec.toNat_ofNat, Nat.mod_eq_of_lt (by omega)] at h1
  exact h1
theorem not32 (s : Nat) (h : s < 4294967296) : bits BinOp.xor IntKind.u32 IntKind.u32.max (s : Int) = ((4294967295 - s : Nat) : Int) := by
  have := u32_xor_nat 4294967295 s (by omega) h
  rw [xor_ones32 s h] at this
  rw [← this]; rfl

/-- A number out of its bytes, the higher ones first. -/
def beN (l : List UInt8) : Nat := l.foldl (fun n b => n * 256 + b.toNat) 0
theorem beN_snoc (l : List UInt8) (b : UInt8) : beN (l ++ [b]) = beN l * 256 + b.toNat := by simp [beN]
theorem beN_lt (l : List UInt8) : beN l < 256 ^ l.length := by
  rw [← List.reverse_reverse l]
  induction l.reverse with
  | nil => simp [beN]
  | cons b l ih =>
    have hb : b.toNat < 256 := b.toNat_lt
    rw [List.reverse_cons, beN_snoc]
    simp only [List.length_append, List.length_reverse, List.length_cons, List.length_nil] at *
    rw [Nat.pow_succ]; omega
theorem or_byte (n b : Nat) (hb : b < 256) : (n * 256 ||| b) = n * 256 + b := by
  have h := Nat.two_pow_add_eq_or_of_lt (i := 8) (b := b) (by omega) n
  rw [show (2 : Nat) ^ 8 = 256 from rfl, Nat.mul_comm] at h
  exact h.symm
theorem be_step (n b : Nat) (hn : n < 72057594037927936) (hb : b < 256) : bits BinOp.or IntKind.u64 ((n : Int) * 256) (b : Int) = ((n * 256 + b : Nat) : Int) := by
  have h := u64_or_nat (n * 256) b (by omega) (by omega)
  rw [or_byte n b hb] at h
  rw [← h]; rfl
end Go.Proofs.YtfglgeoookbppaaGreatDoor

namespace Go.Proofs.YtfglgeoookbppaaGreatDoor
open Go.RowKit

/-- A number's bytes, the higher ones first: so many of them. -/
def toBE : Nat → Nat → List UInt8
  | 0, _ => []
  | k + 1, n => toBE k (n / 256) ++ [UInt8.ofNat (n % 256)]
theorem toBE_length (k n : Nat) : (toBE k n).length = k := by
  induction k generalizing n with
  | zero => rfl
  | succ k ih => simp [toBE, ih]
theorem pow_split (k n : Nat) (h : n < 256 ^ (k + 1)) : n / 256 ^ k < 256 := by
  rw [Nat.div_lt_iff_lt_mul (Nat.pow_pos (by omega)), Nat.mul_comm, ← Nat.pow_succ]; exact h
/-- The first digits of a number, the higher ones first. -/
def digs (n k : Nat) : Nat → List UInt8
  | 0 => []
  | j + 1 => digs n k j ++ [UInt8.ofNat (n / 256 ^ (k - 1 - j))]
theorem digs_length (n k j : Nat) : (digs n k j).length = j := by
  induction j with
  | zero => rfl
  | succ j ih => simp [digs, ih]
theorem digs_le (n k j : Nat) (hj : j ≤ k) : digs n (k + 1) j = digs (n / 256) k j := by
  induction j with
  | zero => rfl
  | succ j ih =>
    rw [digs, digs, ih (by omega)]
    congr 2
    rw [Nat.div_div_eq_div_mul]
    congr 2
    rw [show k + 1 - 1 - j = (k - 1 - j) + 1 by omega, Nat.pow_succ, Nat.mul_comm]
theorem ofNat_mod (n : Nat) : UInt8.ofNat (n % 256) = UInt8.ofNat n := by
  apply UInt8.toNat_inj.1
  simp [UInt8.toNat_ofNat']
theorem digs_all (k n : Nat) : digs n k k = toBE k n := by
  induction k generalizing n with
  | zero => rfl
  | succ k ih =>
    rw [digs, toBE, ← ih, digs_le n k k (Nat.le_refl _), ofNat_mod]
    simp
theorem digit_val (n m : Nat) : ((n : Int) / 2 ^ (8 * m) % 256) = ((UInt8.ofNat (n / 256 ^ m)).toNat : Int) := by
  have h : (256 : Nat) ^ m = 2 ^ (8 * m) := by rw [Nat.pow_mul]
  rw [UInt8.toNat_ofNat', h, Int.natCast_emod, Int.natCast_ediv, Int.natCast_pow]
  rfl
theorem toBE_beN_rev (l : List UInt8) : toBE l.reverse.length (beN l.reverse) = l.reverse := by
  induction l with
  | nil => rfl
  | cons b t ih =>
    have hb := b.toNat_lt
    rw [List.reverse_cons, beN_snoc, List.length_append]
    show toBE t.reverse.length ((beN t.reverse * 256 + b.toNat) / 256) ++ [UInt8.ofNat ((beN t.reverse * 256 + b.toNat) % 256)] = _
    rw [show (beN t.reverse * 256 + b.toNat) / 256 = beN t.reverse by omega, show (beN t.reverse * 256 + b.toNat) % 256 = b.toNat by omega, ih]
    simp
theorem toBE_beN (l : List UInt8) (k : Nat) (h : l.length = k) : toBE k (beN l) = l := by
  have := toBE_beN_rev l.reverse
  rw [List.reverse_reverse, h] at this
  exact this
theorem beN_toBE (k n : Nat) (h : n < 256 ^ k) : beN (toBE k n) = n := by
  induction k generalizing n with
  | zero =>
    have : n = 0 := by simpa using h
    subst this
    rfl
  | succ k ih =>
    show beN (toBE k (n / 256) ++ [UInt8.ofNat (n % 256)]) = n
    rw [beN_snoc, ih (n / 256) (by rw [Nat.pow_succ] at h; omega)]
    simp
    omega
theorem toBE_front (j n : Nat) : toBE (j + 1) n = UInt8.ofNat (n / 256 ^ j) :: toBE j n := by
  induction j generalizing n with
  | zero => simp [toBE, ofNat_mod]
  | succ j ih =>
    rw [toBE, ih (n / 256)]
    rw [show toBE (j + 1) n = toBE j (n / 256) ++ [UInt8.ofNat (n % 256)] from rfl]
    simp only [List.cons_append]
    congr 2
    rw [Nat.div_div_eq_div_mul, Nat.pow_succ, Nat.mul_comm]
/-- So many noughts, and behind them the last digits. -/
def half (k j n : Nat) : List UInt8 := List.replicate (k - j) 0 ++ toBE j n
theorem half_length (k j n : Nat) (h : j ≤ k) : (half k j n).length = k := by simp [half, toBE_length]; omega
theorem half_set (k j n : Nat) (h : j < k) : (half k j n).set (k - 1 - j) (UInt8.ofNat (n / 256 ^ j)) = half k (j + 1) n := by
  unfold half
  rw [toBE_front, show k - j = (k - (j + 1)) + 1 by omega, List.replicate_succ', List.append_assoc]
  rw [List.set_append_right _ _ (by simp; omega)]
  simp [show k - 1 - j - (k - (j + 1)) = 0 by omega]
end Go.Proofs.YtfglgeoookbppaaGreatDoor
