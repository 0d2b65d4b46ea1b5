/- Plain mathematics for the walks: the sum of bytes (layer 1) as a function on natural numbers, and small facts on bits. No program is named here. -/
import Derived.RowKit
import Derived.Laws.BitsAllLaws
import Derived.Below

namespace Go.Proofs.Ythepcoifcoinoaa
open Go.RowKit

/-- One halving. -/
def crcOne (m : Nat) : Nat := if m % 2 = 1 then (m / 2) ^^^ 3988292384 else m / 2
def crcR : Nat → Nat → Nat
  | 0, m => m
  | k + 1, m => crcOne (crcR k m)
def crcWord (b : Nat) : Nat := crcR 8 b
def crcStep (s b : Nat) : Nat := crcWord ((s % 256) ^^^ b) ^^^ (s / 256)
def crcRun (s : Nat) (l : List UInt8) : Nat := l.foldl (fun s b => crcStep s b.toNat) s
def crcSum (l : List UInt8) : Nat := 4294967295 - crcRun 4294967295 l

theorem crcOne_lt (m : Nat) (h : m < 4294967296) : crcOne m < 4294967296 := by
  unfold crcOne
  split
  · exact Nat.xor_lt_two_pow (n := 32) (by omega) (by omega)
  · omega
theorem crcR_lt (k m : Nat) (h : m < 4294967296) : crcR k m < 4294967296 := by
  induction k with
  | zero => exact h
  | succ k ih => exact crcOne_lt _ ih
theorem crcWord_lt (b : Nat) (h : b < 256) : crcWord b < 4294967296 := crcR_lt 8 b (by omega)
theorem crcStep_lt (s b : Nat) (hs : s < 4294967296) (hb : b < 256) : crcStep s b < 4294967296 := by
  unfold crcStep
  exact Nat.xor_lt_two_pow (n := 32) (crcWord_lt _ (Nat.xor_lt_two_pow (n := 8) (by omega) (by omega))) (by omega)
theorem crcRun_lt (l : List UInt8) : ∀ (s : Nat), s < 4294967296 → crcRun s l < 4294967296 := by
  induction l with
  | nil => exact fun s h => h
  | cons b l ih => exact fun s h => ih _ (crcStep_lt _ _ h b.toNat_lt)
theorem crcRun_append (s : Nat) (a b : List UInt8) : crcRun s (a ++ b) = crcRun (crcRun s a) b := by simp [crcRun]
theorem crcRun_snoc (s : Nat) (a : List UInt8) (b : UInt8) : crcRun s (a ++ [b]) = crcStep (crcRun s a) b.toNat := by simp [crcRun]
theorem crcRun_nil (s : Nat) : crcRun s [] = s := rfl
theorem crcSum_lt (l : List UInt8) : crcSum l < 4294967296 := by unfold crcSum; omega

/-- Odd, as the program asks it. -/
theorem and_one32 (m : Nat) (h : m < 4294967296) : bits BinOp.and IntKind.u32 (m : Int) 1 = ((m % 2 : Nat) : Int) := by
  have := u32_and_nat m 1 h (by omega)
  rw [show ((1 : Nat) : Int) = 1 from rfl] at this
  rw [this, Nat.and_one_is_mod]
theorem xor_poly32 (m : Nat) (h : m < 4294967296) : bits BinOp.xor IntKind.u32 ((m : Int) / 2) 3988292384 = ((m / 2 ^^^ 3988292384 : Nat) : Int) := by
  have := u32_xor_nat (m / 2) 3988292384 (by omega) (by omega)
  rw [show ((3988292384 : Nat) : Int) = 3988292384 from rfl] at this
  rw [← this]; rfl
theorem crcOne_odd (m : Nat) (h : m < 4294967296) (ho : (bits BinOp.and IntKind.u32 (m : Int) 1 == 1) = true) : bits BinOp.xor IntKind.u32 ((m : Int) / 2) 3988292384 = (crcOne m : Int) := by
  rw [and_one32 m h] at ho
  have : m % 2 = 1 := by have := (beq_iff_eq.1 ho); omega
  rw [xor_poly32 m h, crcOne, if_pos this]
theorem crcOne_even (m : Nat) (h : m < 4294967296) (ho : (bits BinOp.and IntKind.u32 (m : Int) 1 == 1) = false) : (m : Int) / 2 = (crcOne m : Int) := by
  rw [and_one32 m h] at ho
  have : m % 2 ≠ 1 := by have := (beq_eq_false_iff_ne.1 ho); omega
  rw [crcOne, if_neg this]; omega
theorem crcIdx (s x : Nat) (hx : x < 256) : bits BinOp.xor IntKind.u8 (IntKind.u8.wrap (s : Int)) (x : Int) = ((s % 256 ^^^ x : Nat) : Int) := by
  have h := u8_xor_nat (s % 256) x (by omega) hx
  rw [← h, IntKind.wrap_u8]; rfl
theorem crcIdx' (s x : Nat) (hx : x < 256) : bits BinOp.xor IntKind.u8 ((s : Int) % 256) (x : Int) = ((s % 256 ^^^ x : Nat) : Int) := by
  have h := u8_xor_nat (s % 256) x (by omega) hx
  rw [← h]; rfl
theorem crcNext (s x : Nat) (hs : s < 4294967296) (hx : x < 256) : bits BinOp.xor IntKind.u32 ((crcWord (s % 256 ^^^ x) : Nat) : Int) ((s : Int) / 256) = ((crcStep s x : Nat) : Int) := by
  have hi : s % 256 ^^^ x < 256 := Nat.xor_lt_two_pow (n := 8) (by omega) (by omega)
  have h := u32_xor_nat (crcWord (s % 256 ^^^ x)) (s / 256) (crcWord_lt _ hi) (by omega)
  rw [crcStep, ← h]; rfl
theorem xor_ones32 (s : Nat) (h : s < 4294967296) : 4294967295 ^^^ s = 4294967295 - s := by
  have h1 : (BitVec.allOnes 32 ^^^ BitVec.ofNat 32 s).toNat = 4294967295 - s := by
    rw [BitVec.allOnes_xor, BitVec.toNat_not, BitVec.toNat_ofNat, Nat.mod_eq_of_lt (by omega)]
  rw [BitVec.toNat_xor, BitVec.toNat_allOnes, BitVec.toNat_ofNat, Nat.mod_eq_of_lt (by omega)] at h1
  exact h1
theorem not32 (s : Nat) (h : s < 4294967296) : bits BinOp.xor IntKind.u32 IntKind.u32.max (s : Int) = ((4294967295 - s : Nat) : Int) := by
  have := u32_xor_nat 4294967295 s (by omega) h
  rw [xor_ones32 s h] at this
  rw [← this]; rfl

/-- A number out of its bytes, the higher ones first. -/
def beN (l : List UInt8) : Nat := l.foldl (fun n b => n * 256 + b.toNat) 0
theorem beN_snoc (l : List UInt8) (b : UInt8) : beN (l ++ [b]) = beN l * 256 + b.toNat := by simp [beN]
theorem beN_lt (l : List UInt8) : beN l < 256 ^ l.length := by
  rw [← List.reverse_reverse l]
  induction l.reverse with
  | nil => simp [beN]
  | cons b l ih =>
    have hb : b.toNat < 256 := b.toNat_lt
    rw [List.reverse_cons, beN_snoc]
    simp only [List.length_append, List.length_reverse, List.length_cons, List.length_nil] at *
    rw [Nat.pow_succ]; omega
theorem or_byte (n b : Nat) (hb : b < 256) : (n * 256 ||| b) = n * 256 + b := by
  have h := Nat.two_pow_add_eq_or_of_lt (i := 8) (b := b) (by omega) n
  rw [show (2 : Nat) ^ 8 = 256 from rfl, Nat.mul_comm] at h
  exact h.symm
theorem be_step (n b : Nat) (hn : n < 72057594037927936) (hb : b < 256) : bits BinOp.or IntKind.u64 ((n : Int) * 256) (b : Int) = ((n * 256 + b : Nat) : Int) := by
  have h := u64_or_nat (n * 256) b (by omega) (by omega)
  rw [or_byte n b hb] at h
  rw [← h]; rfl
end Go.Proofs.Ythepcoifcoinoaa
