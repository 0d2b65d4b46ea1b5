/- Plain mathematics: bits of a page's bytes turned, and what that does to its sum. No program is named here. -/
import Derived.Test.YthepcoifcoinoaaCrcTab
namespace Go.Proofs.Ythepcoifcoinoaa

theorem byte_join (n x : Nat) (h : x < 256) : n * 256 + x = (2 ^ 8 * n) ^^^ x := by
  have := low_high (n * 256 + x)
  rw [show (n * 256 + x) % 256 = x by omega, show (n * 256 + x) / 256 = n by omega, Nat.xor_comm] at this
  exact this
theorem shift_xor (a b : Nat) : 2 ^ 8 * (a ^^^ b) = (2 ^ 8 * a) ^^^ (2 ^ 8 * b) := by
  apply Nat.eq_of_testBit_eq
  intro i
  rw [Nat.testBit_xor, Nat.testBit_two_pow_mul, Nat.testBit_two_pow_mul, Nat.testBit_two_pow_mul, Nat.testBit_xor]
  cases decide (8 ≤ i) <;> simp
theorem beFold_xor : ∀ (a b : List UInt8) (n m : Nat), a.length = b.length →
    (xorL a b).foldl (fun n b => n * 256 + b.toNat) (n ^^^ m) = a.foldl (fun n b => n * 256 + b.toNat) n ^^^ b.foldl (fun n b => n * 256 + b.toNat) m
  | [], [], _, _, _ => rfl
  | x :: a, y :: b, n, m, h => by
    have hl : a.length = b.length := by simpa using h
    have hx := x.toNat_lt
    have hy := y.toNat_lt
    have hs : (n ^^^ m) * 256 + (x ^^^ y).toNat = (n * 256 + x.toNat) ^^^ (m * 256 + y.toNat) := by
      rw [UInt8.toNat_xor, byte_join n _ hx, byte_join m _ hy, byte_join _ _ (Nat.xor_lt_two_pow (n := 8) hx hy), shift_xor, xor4]
    show (xorL a b).foldl _ ((n ^^^ m) * 256 + (x ^^^ y).toNat) = _
    rw [hs, beFold_xor a b _ _ hl]
    rfl
  | [], _ :: _, _, _, h => by simp at h
  | _ :: _, [], _, _, h => by simp at h
theorem beN_xor (a b : List UInt8) (h : a.length = b.length) : beN (xorL a b) = beN a ^^^ beN b := by
  have := beFold_xor a b 0 0 h
  exact this

/-- The sum's trace of a page's bytes: of the right sum it is all ones. -/
def synd (l : List UInt8) : Nat := beN (l.take 4) ^^^ crcRun 4294967295 (l.drop 4)
theorem synd_right (l : List UInt8) : beN (l.take 4) = crcSum (l.drop 4) ↔ synd l = 4294967295 := by
  unfold synd crcSum
  have hr := crcRun_lt (l.drop 4) 4294967295 (by omega)
  rw [← xor_ones32 _ hr]
  generalize crcRun 4294967295 (l.drop 4) = r at *
  constructor
  · intro h
    rw [h, Nat.xor_assoc, Nat.xor_self, Nat.xor_zero]
  · intro h
    rw [← h, Nat.xor_assoc, Nat.xor_self, Nat.xor_zero]
theorem synd_xor (a b : List UInt8) (h : a.length = b.length) : synd (xorL a b) = synd a ^^^ (beN (b.take 4) ^^^ crcRun 0 (b.drop 4)) := by
  unfold synd
  have h1 : (xorL a b).take 4 = xorL (a.take 4) (b.take 4) := by unfold xorL; rw [List.take_zipWith]
  have h2 : (xorL a b).drop 4 = xorL (a.drop 4) (b.drop 4) := by unfold xorL; rw [List.drop_zipWith]
  rw [h1, h2, beN_xor _ _ (by simp [h]), ← xor4]
  congr 1
  have := crcRun_xor (a.drop 4) (b.drop 4) 4294967295 0 (by simp [h])
  rw [Nat.xor_zero] at this
  exact this

/-- The exponent of a bit's trace. -/
def expo (i : Nat) : Nat := if i < 32 then 7 + 8 * (i / 8) - i % 8 else 8 * (256 - i / 8) + 31 - i % 8
theorem expo_lt (i : Nat) (h : i < 2048) : expo i < 2048 := by unfold expo; split <;> omega
theorem expo_inj {i j : Nat} (hi : i < 2048) (hj : j < 2048) (h : expo i = expo j) : i = j := by
  unfold expo at h
  split at h <;> split at h <;> omega
theorem beN_zeros (k : Nat) : beN (List.replicate k 0) = 0 := by
  induction k with
  | zero => rfl
  | succ k ih => rw [List.replicate_succ', beN_snoc, ih]; rfl
theorem ofNat_pow (q : Nat) (h : q < 8) : (UInt8.ofNat (2 ^ q)).toNat = 2 ^ q := by
  have : 2 ^ q < 2 ^ 8 := Nat.pow_lt_pow_right (by omega) h
  rw [UInt8.toNat_ofNat']
  exact Nat.mod_eq_of_lt this
theorem spike_trace (i : Nat) (h : i < 2048) : beN ((spike (i / 8) (2 ^ (i % 8)) (255 - i / 8)).take 4) ^^^ crcRun 0 ((spike (i / 8) (2 ^ (i % 8)) (255 - i / 8)).drop 4) = trace (expo i) := by
  have hq : i % 8 < 8 := Nat.mod_lt _ (by omega)
  have hv := ofNat_pow (i % 8) hq
  by_cases h32 : i < 32
  · have hp : i / 8 < 4 := by omega
    have h4 : spike (i / 8) (2 ^ (i % 8)) (255 - i / 8) = (List.replicate (i / 8) 0 ++ UInt8.ofNat (2 ^ (i % 8)) :: List.replicate (3 - i / 8) 0) ++ List.replicate 252 0 := by
      unfold spike
      rw [List.append_assoc, List.cons_append, List.replicate_append_replicate, show 3 - i / 8 + 252 = 255 - i / 8 by omega]
    have hl : (List.replicate (i / 8) 0 ++ UInt8.ofNat (2 ^ (i % 8)) :: List.replicate (3 - i / 8) 0).length = 4 := by simp; omega
    rw [h4, List.take_left' hl, List.drop_left' hl, crcRun_zeros, crcR_zero, Nat.xor_zero, beN_append, beN_zeros, Nat.zero_mul, Nat.zero_add,
      show UInt8.ofNat (2 ^ (i % 8)) :: List.replicate (3 - i / 8) 0 = [UInt8.ofNat (2 ^ (i % 8))] ++ List.replicate (3 - i / 8) 0 from rfl, beN_append, beN_zeros, Nat.add_zero, List.length_replicate,
      show beN [UInt8.ofNat (2 ^ (i % 8))] = (UInt8.ofNat (2 ^ (i % 8))).toNat by simp [beN], hv, show (256 : Nat) = 2 ^ 8 from rfl, ← Nat.pow_mul, ← Nat.pow_add, two_pow_crc _ (by omega)]
    unfold trace expo
    rw [if_pos h32]
    congr 1
    omega
  · have h4 : spike (i / 8) (2 ^ (i % 8)) (255 - i / 8) = List.replicate 4 0 ++ spike (i / 8 - 4) (2 ^ (i % 8)) (255 - i / 8) := by
      unfold spike
      rw [← List.append_assoc, List.replicate_append_replicate, show 4 + (i / 8 - 4) = i / 8 by omega]
    have hl : (List.replicate 4 (0 : UInt8)).length = 4 := by simp
    have hb : 2 ^ (i % 8) < 256 := by
      have : 2 ^ (i % 8) < 2 ^ 8 := Nat.pow_lt_pow_right (by omega) hq
      exact this
    rw [h4, List.take_left' hl, List.drop_left' hl, beN_zeros, Nat.zero_xor, crcRun_spike _ _ _ hb, two_pow_crc _ (by omega), ← crcR_add]
    unfold trace expo
    rw [if_neg h32]
    congr 1
    omega

/-- A bit turned, if there is such a bit. -/
def turnBit (l : List UInt8) (i : Int) : List UInt8 :=
  if 0 ≤ i ∧ i < 2048 then l.set (i.toNat / 8) (l.getD (i.toNat / 8) 0 ^^^ UInt8.ofNat (2 ^ (i.toNat % 8))) else l
theorem turnBit_length (l : List UInt8) (i : Int) : (turnBit l i).length = l.length := by
  unfold turnBit; split <;> simp
theorem turnBit_out (l : List UInt8) (i : Int) (h : ¬ (0 ≤ i ∧ i < 2048)) : turnBit l i = l := by unfold turnBit; rw [if_neg h]
theorem turnBit_spike (l : List UInt8) (hl : l.length = 256) (i : Int) (h : 0 ≤ i ∧ i < 2048) : turnBit l i = xorL l (spike (i.toNat / 8) (2 ^ (i.toNat % 8)) (255 - i.toNat / 8)) := by
  unfold turnBit
  rw [if_pos h]
  have hp : i.toNat / 8 < 256 := by omega
  generalize i.toNat / 8 = p at *
  generalize 2 ^ (i.toNat % 8) = b at *
  apply List.ext_getElem
  · simp [xorL, spike, hl]; omega
  · intro j h1 h2
    have hj : j < 256 := by simpa [hl] using h1
    simp only [xorL, List.getElem_zipWith, List.getElem_set]
    by_cases hjp : p = j
    · subst hjp
      rw [if_pos rfl]
      congr 1
      · simp [List.getD, List.getElem?_eq_getElem (show p < l.length by omega)]
      · simp [spike]
    · rw [if_neg hjp]
      have : (spike p b (255 - p))[j]'(by simp [spike]; omega) = 0 := by
        unfold spike
        rw [List.getElem_append]
        split
        · simp
        · rename_i hge
          simp at hge
          rw [List.getElem_cons]
          split
          · rename_i h0; simp at h0; omega
          · simp
      rw [this]
      simp
theorem turnBit_twice (l : List UInt8) (i : Int) : turnBit (turnBit l i) i = l := by
  by_cases h : 0 ≤ i ∧ i < 2048
  · unfold turnBit
    rw [if_pos h, if_pos h]
    generalize i.toNat / 8 = p
    generalize UInt8.ofNat (2 ^ (i.toNat % 8)) = v
    rw [List.set_set]
    by_cases hp : p < l.length
    · have e : (l.set p (l.getD p 0 ^^^ v)).getD p 0 = l.getD p 0 ^^^ v := by
        simp [List.getD, hp]
      rw [e, UInt8.xor_assoc, UInt8.xor_self, UInt8.xor_zero]
      apply List.ext_getElem
      · simp
      · intro j h1 h2
        rw [List.getElem_set]
        split
        · rename_i h3; subst h3; simp [List.getD, List.getElem?_eq_getElem hp]
        · rfl
    · rw [List.set_eq_of_length_le (by omega)]
  · rw [turnBit_out _ _ h, turnBit_out _ _ h]
/-- What a turned bit does to the trace. -/
def bitTrace (i : Int) : Nat := if 0 ≤ i ∧ i < 2048 then trace (expo i.toNat) else 0
theorem synd_turn (l : List UInt8) (hl : l.length = 256) (i : Int) : synd (turnBit l i) = synd l ^^^ bitTrace i := by
  unfold bitTrace
  by_cases h : 0 ≤ i ∧ i < 2048
  · rw [if_pos h, turnBit_spike l hl i h, synd_xor _ _ (by simp [spike, hl]; omega), spike_trace _ (by omega)]
  · rw [if_neg h, turnBit_out _ _ h, Nat.xor_zero]
/-- One to three bits turned: the sum is as it was just if all is as it was. -/
theorem turned (l : List UInt8) (hl : l.length = 256) (a b c : Int) (hs : synd l = 4294967295) (hs' : synd (turnBit (turnBit (turnBit l a) b) c) = 4294967295) : turnBit (turnBit (turnBit l a) b) c = l := by
  rw [synd_turn _ (by rw [turnBit_length, turnBit_length, hl]), synd_turn _ (by rw [turnBit_length, hl]), synd_turn _ hl, hs] at hs'
  have h0 : bitTrace a ^^^ bitTrace b ^^^ bitTrace c = 0 := by
    have := congrArg (4294967295 ^^^ ·) hs'
    simp only [← Nat.xor_assoc, Nat.xor_self, Nat.zero_xor] at this
    exact this
  have ne : ∀ i j : Int, (0 ≤ i ∧ i < 2048) → (0 ≤ j ∧ j < 2048) → i ≠ j → expo i.toNat ≠ expo j.toNat := fun i j hi hj hij he => by
    have := expo_inj (by omega) (by omega) he
    omega
  have lt : ∀ i : Int, (0 ≤ i ∧ i < 2048) → expo i.toNat < 2048 := fun i hi => expo_lt _ (by omega)
  unfold bitTrace at h0
  by_cases ha : 0 ≤ a ∧ a < 2048 <;> by_cases hb : 0 ≤ b ∧ b < 2048 <;> by_cases hc : 0 ≤ c ∧ c < 2048 <;> simp only [ha, hb, hc, and_self, if_true, if_false] at h0
  · exfalso
    by_cases e1 : a = b
    · subst e1; rw [Nat.xor_self, Nat.zero_xor] at h0; exact trace_one _ h0
    by_cases e2 : a = c
    · subst e2; rw [Nat.xor_comm, ← Nat.xor_assoc, Nat.xor_self, Nat.zero_xor] at h0; exact trace_one _ h0
    by_cases e3 : b = c
    · subst e3; rw [Nat.xor_assoc, Nat.xor_self, Nat.xor_zero] at h0; exact trace_one _ h0
    exact trace_three' (ne a b ha hb e1) (ne a c ha hc e2) (ne b c hb hc e3) (lt a ha) (lt b hb) (lt c hc) h0
  · rw [turnBit_out _ c hc]
    by_cases e1 : a = b
    · subst e1; exact turnBit_twice l a
    · exact absurd (by simpa using h0) (trace_two' (ne a b ha hb e1) (lt a ha) (lt b hb))
  · rw [turnBit_out _ b hb]
    by_cases e1 : a = c
    · subst e1; exact turnBit_twice l a
    · exact absurd (by simpa using h0) (trace_two' (ne a c ha hc e1) (lt a ha) (lt c hc))
  · exact absurd (by simpa using h0) (trace_one _)
  · rw [turnBit_out _ a ha]
    by_cases e1 : b = c
    · subst e1; exact turnBit_twice l b
    · exact absurd (by simpa using h0) (trace_two' (ne b c hb hc e1) (lt b hb) (lt c hc))
  · exact absurd (by simpa using h0) (trace_one _)
  · exact absurd (by simpa using h0) (trace_one _)
  · rw [turnBit_out _ a ha, turnBit_out _ b hb, turnBit_out _ c hc]
end Go.Proofs.Ythepcoifcoinoaa
