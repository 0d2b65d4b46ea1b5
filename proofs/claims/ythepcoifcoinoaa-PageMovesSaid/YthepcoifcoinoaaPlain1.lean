/- Plain law of a page's bytes (layer 4): numbers and their bytes. -/
import Derived.Test.YthepcoifcoinoaaParse
namespace Go.Proofs.Ythepcoifcoinoaa
open Go.RowKit

theorem toBE_beN_rev (l : List UInt8) : toBE l.reverse.length (beN l.reverse) = l.reverse := by
  induction l with
  | nil => rfl
  | cons b t ih =>
    have hb := b.toNat_lt
    rw [List.reverse_cons, beN_snoc, List.length_append]
    show toBE t.reverse.length ((beN t.reverse * 256 + b.toNat) / 256) ++ [UInt8.ofNat ((beN t.reverse * 256 + b.toNat) % 256)] = _
    rw [show (beN t.reverse * 256 + b.toNat) / 256 = beN t.reverse by omega, show (beN t.reverse * 256 + b.toNat) % 256 = b.toNat by omega, ih]
    simp
theorem toBE_beN (l : List UInt8) (k : Nat) (h : l.length = k) : toBE k (beN l) = l := by
  have := toBE_beN_rev l.reverse
  rw [List.reverse_reverse, h] at this
  exact this
theorem beN_toBE (k n : Nat) (h : n < 256 ^ k) : beN (toBE k n) = n := by
  induction k generalizing n with
  | zero =>
    have : n = 0 := by simpa using h
    subst this
    rfl
  | succ k ih =>
    show beN (toBE k (n / 256) ++ [UInt8.ofNat (n % 256)]) = n
    rw [beN_snoc, ih (n / 256) (by rw [Nat.pow_succ] at h; omega)]
    simp
    omega
theorem allZero_replicate (l : List UInt8) (h : allZero l = true) : l = List.replicate l.length 0 := by
  apply List.eq_replicate_iff.2
  refine ⟨rfl, fun b hb => ?_⟩
  simpa using (List.all_eq_true.1 h) b hb
end Go.Proofs.Ythepcoifcoinoaa
