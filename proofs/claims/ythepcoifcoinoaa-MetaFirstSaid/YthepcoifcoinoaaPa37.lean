/- Plain mathematics: the sum of bytes (layer 1) is linear; which sums one, two, three turned bits may give. No program is named here. Plain mathematics: one, two, three turned bits of 2048 never leave the sum as it was. No program is named here. Plain mathematics: bits of a page's bytes turned, and what that does to its sum. No program is named here. Plain mathematics: one byte of a page's bytes made another one, and what that does to its sum. No program is named here. -/
import Derived.Test.YthepcoifcoinoaaPRa6

namespace Go.Proofs.Ythepcoifcoinoaa

theorem crcOne_bit (m : Nat) : crcOne m = (m / 2) ^^^ (if m % 2 = 1 then 3988292384 else 0) := by
  unfold crcOne
  split <;> simp
theorem xor_half (a b : Nat) : (a ^^^ b) / 2 = a / 2 ^^^ b / 2 := by
  apply Nat.eq_of_testBit_eq
  intro i
  simp [Nat.testBit_div_two]
theorem xor_odd (a b : Nat) : (a ^^^ b) % 2 = (a % 2) ^^^ (b % 2) := by
  rcases Nat.mod_two_eq_zero_or_one a with ha | ha <;> rcases Nat.mod_two_eq_zero_or_one b with hb | hb
  all_goals
    have h0 := Nat.testBit_xor a b 0
    simp only [Nat.testBit_zero, ha, hb] at h0
    rcases Nat.mod_two_eq_zero_or_one (a ^^^ b) with hc | hc <;> simp [hc] at h0 <;> simp [ha, hb, hc]
theorem xor4 (a b c d : Nat) : (a ^^^ b) ^^^ (c ^^^ d) = (a ^^^ c) ^^^ (b ^^^ d) := by
  apply Nat.eq_of_testBit_eq
  intro i
  simp only [Nat.testBit_xor]
  cases a.testBit i <;> cases b.testBit i <;> cases c.testBit i <;> cases d.testBit i <;> rfl
theorem crcOne_xor (a b : Nat) : crcOne (a ^^^ b) = crcOne a ^^^ crcOne b := by
  rw [crcOne_bit, crcOne_bit, crcOne_bit, xor_half, xor4]
  congr 1
  rw [xor_odd]
  rcases Nat.mod_two_eq_zero_or_one a with ha | ha <;> rcases Nat.mod_two_eq_zero_or_one b with hb | hb <;> simp [ha, hb]
theorem crcR_xor (k a b : Nat) : crcR k (a ^^^ b) = crcR k a ^^^ crcR k b := by
  induction k with
  | zero => rfl
  | succ k ih => rw [crcR, crcR, crcR, ih, crcOne_xor]
theorem crcR_zero (k : Nat) : crcR k 0 = 0 := by
  induction k with
  | zero => rfl
  | succ k ih => rw [crcR, ih]; rfl
theorem crcR_add (i j m : Nat) : crcR (i + j) m = crcR i (crcR j m) := by
  induction i with
  | zero => rw [Nat.zero_add]; rfl
  | succ i ih => rw [Nat.add_right_comm, crcR, crcR, ih]
theorem crcR_shift (k t : Nat) : crcR k (2 ^ k * t) = t := by
  induction k generalizing t with
  | zero => rw [Nat.pow_zero, Nat.one_mul]; rfl
  | succ k ih =>
    rw [crcR, show 2 ^ (k + 1) * t = 2 ^ k * (2 * t) by rw [Nat.pow_succ]; exact Nat.mul_assoc _ _ _, ih]
    unfold crcOne
    rw [if_neg (by omega)]
    omega
theorem crcOne_inj {a b : Nat} (ha : a < 4294967296) (hb : b < 4294967296) (h : crcOne a = crcOne b) : a = b := by
  have key : ∀ m : Nat, m < 4294967296 → (crcOne m).testBit 31 = decide (m % 2 = 1) := fun m hm => by
    rw [crcOne_bit, Nat.testBit_xor]
    have h1 : (m / 2).testBit 31 = false := Nat.testBit_lt_two_pow (by omega)
    rw [h1]
    split <;> rename_i h2 <;> simp [h2] <;> decide
  have h1 := key a ha
  have h2 := key b hb
  rw [h] at h1
  rw [h1] at h2
  have hp : a % 2 = b % 2 := by
    have := Nat.mod_two_eq_zero_or_one a
    have := Nat.mod_two_eq_zero_or_one b
    simp at h2
    omega
  unfold crcOne at h
  rw [hp] at h
  split at h
  · have h3 : a / 2 = b / 2 := by
      have := congrArg (· ^^^ 3988292384) h
      simpa [Nat.xor_assoc] using this
    omega
  · omega
theorem crcR_inj (k : Nat) {a b : Nat} (ha : a < 4294967296) (hb : b < 4294967296) (h : crcR k a = crcR k b) : a = b := by
  induction k with
  | zero => exact h
  | succ k ih => exact ih (crcOne_inj (crcR_lt k a ha) (crcR_lt k b hb) h)
theorem low_high (s : Nat) : s = (s % 256) ^^^ (2 ^ 8 * (s / 256)) := by
  have h := Nat.two_pow_add_eq_or_of_lt (i := 8) (b := s % 256) (by omega) (s / 256)
  have h2 : (2 ^ 8 * (s / 256)) ||| (s % 256) = (s % 256) ^^^ (2 ^ 8 * (s / 256)) := by
    apply Nat.eq_of_testBit_eq
    intro i
    rw [Nat.testBit_or, Nat.testBit_xor]
    by_cases hi : i < 8
    · have : (2 ^ 8 * (s / 256)).testBit i = false := by
        rw [Nat.testBit_two_pow_mul]
        simp
        intro h8
        omega
      simp [this]
    · have : (s % 256).testBit i = false := Nat.testBit_lt_two_pow (Nat.lt_of_lt_of_le (Nat.mod_lt _ (by omega)) (Nat.pow_le_pow_right (n := 2) (i := 8) (by omega) (by omega)))
      simp [this]
  rw [← h2, ← h]
  omega
/-- A step of the sum is eight halvings. -/
theorem crcStep_eq (s b : Nat) : crcStep s b = crcR 8 (s ^^^ b) := by
  unfold crcStep crcWord
  have h : crcR 8 (2 ^ 8 * (s / 256)) = s / 256 := crcR_shift 8 _
  rw [← h, ← crcR_xor]
  congr 1
  conv => rhs; rw [low_high s]
  rw [Nat.xor_assoc, Nat.xor_assoc]
  congr 1
  exact Nat.xor_comm _ _

/-! ### Runs over lists -/
/-- Two lists of bytes, turned into each other's difference. -/
def xorL (a b : List UInt8) : List UInt8 := List.zipWith (· ^^^ ·) a b
theorem crcRun_xor : ∀ (a b : List UInt8) (s d : Nat), a.length = b.length → crcRun (s ^^^ d) (xorL a b) = crcRun s a ^^^ crcRun d b
  | [], [], _, _, _ => rfl
  | x :: a, y :: b, s, d, h => by
    have hl : a.length = b.length := by simpa using h
    show crcRun (crcStep (s ^^^ d) (x ^^^ y).toNat) (xorL a b) = crcRun (crcStep s x.toNat) a ^^^ crcRun (crcStep d y.toNat) b
    rw [← crcRun_xor a b _ _ hl, crcStep_eq, crcStep_eq, crcStep_eq, ← crcR_xor, UInt8.toNat_xor, xor4]
  | [], _ :: _, _, _, h => by simp at h
  | _ :: _, [], _, _, h => by simp at h
theorem crcRun_zeros (k s : Nat) : crcRun s (List.replicate k 0) = crcR (8 * k) s := by
  induction k generalizing s with
  | zero => rfl
  | succ k ih =>
    rw [List.replicate_succ]
    show crcRun (crcStep s (0 : UInt8).toNat) (List.replicate k 0) = _
    rw [ih, crcStep_eq, show 8 * (k + 1) = 8 * k + 8 by omega, crcR_add]
    simp
/-- One byte b, so many noughts ahead of it and behind it. -/
def spike (i b k : Nat) : List UInt8 := List.replicate i 0 ++ UInt8.ofNat b :: List.replicate k 0
theorem crcRun_spike (i b k : Nat) (hb : b < 256) : crcRun 0 (spike i b k) = crcR (8 * (k + 1)) b := by
  unfold spike
  rw [crcRun_append, crcRun_zeros, crcR_zero]
  show crcRun (crcStep 0 (UInt8.ofNat b).toNat) (List.replicate k 0) = _
  rw [crcRun_zeros, crcStep_eq, show 8 * (k + 1) = 8 * k + 8 by omega, crcR_add]
  congr 1
  simp [Nat.mod_eq_of_lt hb]
theorem beN_append (a b : List UInt8) : beN (a ++ b) = beN a * 256 ^ b.length + beN b := by
  induction b generalizing a with
  | nil => simp [beN]
  | cons x b ih =>
    rw [show a ++ x :: b = (a ++ [x]) ++ b by simp, ih, beN_snoc, show x :: b = [x] ++ b from rfl, ih [x], show beN [x] = x.toNat by simp [beN]]
    simp only [List.length_append, List.length_cons, List.length_nil]
    rw [Nat.add_mul, Nat.mul_assoc, Nat.pow_add, Nat.pow_one, Nat.add_assoc]
/-- 2 to the n is a halving of 2 to the 31. -/
theorem two_pow_crc (n : Nat) (h : n ≤ 31) : 2 ^ n = crcR (31 - n) 2147483648 := by
  have := crcR_shift (31 - n) (2 ^ n)
  rw [← Nat.pow_add, show 31 - n + n = 31 by omega] at this
  exact this.symm
end Go.Proofs.Ythepcoifcoinoaa

namespace Go.Proofs.Ythepcoifcoinoaa

def crcTab : Nat → Nat → List Nat
  | 0, _ => []
  | k + 1, m => crcOne m :: crcTab k (crcOne m)
def bitMap (g : Nat → Nat) : List Nat → Nat
  | [] => 0
  | x :: l => Nat.lor (bitMap g l) (Nat.shiftLeft 1 (g x))
def bitOff (M k : Nat) : Bool := Nat.beq (Nat.land (Nat.shiftRight M k) 1) 0
def hashA (x : Nat) : Nat := x % 65521
def hashB (x : Nat) : Nat := x % 65519
def hashC (x : Nat) : Nat := x % 65497
def apartB (A B C : Nat) : List Nat → Bool
  | [] => true
  | x :: l => (bitOff A (hashA (x ^^^ 2147483648)) || (bitOff B (hashB (x ^^^ 2147483648)) || bitOff C (hashC (x ^^^ 2147483648)))) && apartB A B C l
def notIn (x : Nat) : List Nat → Bool
  | [] => true
  | y :: l => (! Nat.beq x y) && notIn x l

set_option maxRecDepth 100000 in
theorem tab_apart : apartB (bitMap hashA (crcTab 2047 2147483648)) (bitMap hashB (crcTab 2047 2147483648)) (bitMap hashC (crcTab 2047 2147483648)) (crcTab 2047 2147483648) = true := by decide +kernel
set_option maxRecDepth 100000 in
theorem tab_notIn : notIn 2147483648 (crcTab 2047 2147483648) = true := by decide +kernel

theorem mem_crcTab (n : Nat) : ∀ (c m : Nat), c < n → crcR (c + 1) m ∈ crcTab n m := by
  induction n with
  | zero => intro c m h; omega
  | succ n ih =>
    intro c m h
    rcases c with _ | c
    · exact List.mem_cons_self
    · refine List.mem_cons_of_mem _ ?_
      have := ih c (crcOne m) (by omega)
      rwa [show crcOne m = crcR 1 m from rfl, ← crcR_add] at this
theorem bitOff_eq (M k : Nat) : bitOff M k = !(M.testBit k) := by
  have h : (M.testBit k) = ((Nat.land (Nat.shiftRight M k) 1) != 0) := by
    show ((1 &&& (M >>> k)) != 0) = ((M >>> k &&& 1) != 0)
    rw [Nat.and_comm]
  rw [h]
  unfold bitOff
  cases hb : Nat.beq (Nat.land (Nat.shiftRight M k) 1) 0
  · rw [show ((M.shiftRight k).land 1 != 0) = true from bne_iff_ne.2 (Nat.ne_of_beq_eq_false hb)]; rfl
  · rw [show ((M.shiftRight k).land 1 != 0) = false by rw [Nat.eq_of_beq_eq_true hb]; rfl]; rfl
theorem bitMap_mem (g : Nat → Nat) : ∀ (l : List Nat) (x : Nat), x ∈ l → (bitMap g l).testBit (g x) = true
  | y :: l, x, h => by
    show ((bitMap g l) ||| (1 <<< (g y))).testBit (g x) = true
    rw [Nat.testBit_or]
    rcases List.mem_cons.1 h with rfl | h
    · simp [Nat.testBit_shiftLeft]
    · rw [bitMap_mem g l x h]; rfl
theorem apartB_spec (T : List Nat) : ∀ (l : List Nat), apartB (bitMap hashA T) (bitMap hashB T) (bitMap hashC T) l = true → ∀ x ∈ l, x ^^^ 2147483648 ∉ T
  | y :: l, h, x, hx => by
    simp only [apartB, Bool.and_eq_true] at h
    rcases List.mem_cons.1 hx with rfl | hx
    · intro hm
      have h1 := h.1
      rw [bitOff_eq, bitOff_eq, bitOff_eq, bitMap_mem hashA T _ hm, bitMap_mem hashB T _ hm, bitMap_mem hashC T _ hm] at h1
      cases h1
    · exact apartB_spec T l h.2 x hx
theorem notIn_spec : ∀ (l : List Nat) (x : Nat), notIn x l = true → x ∉ l
  | [], _, _ => by simp
  | y :: l, x, h => by
    simp only [notIn, Bool.and_eq_true, Bool.not_eq_true'] at h
    intro hm
    rcases List.mem_cons.1 hm with rfl | hm
    · exact Nat.ne_of_beq_eq_false h.1 rfl
    · exact notIn_spec l x h.2 hm

/-- The trace of the turned bit of exponent e. -/
def trace (e : Nat) : Nat := crcR e 2147483648
theorem trace_lt (e : Nat) : trace e < 4294967296 := crcR_lt e _ (by omega)
theorem trace_one (e : Nat) : trace e ≠ 0 := fun h => by
  have := crcR_inj e (a := 2147483648) (b := 0) (by omega) (by omega) (h.trans (crcR_zero e).symm)
  omega
theorem xor_lt32 {a b : Nat} (ha : a < 4294967296) (hb : b < 4294967296) : a ^^^ b < 4294967296 := Nat.xor_lt_two_pow (n := 32) ha hb
theorem trace_two {p q : Nat} (h : p < q) (hq : q < 2048) : trace p ^^^ trace q ≠ 0 := fun h0 => by
  have h1 : trace p = trace q := by
    have := congrArg (· ^^^ trace q) h0
    simpa [Nat.xor_assoc] using this
  have h2 : crcR p 2147483648 = crcR p (crcR (q - p) 2147483648) := by
    rw [← crcR_add, show p + (q - p) = q by omega]; exact h1
  have h3 := crcR_inj p (by omega) (crcR_lt (q - p) _ (by omega)) h2
  have h4 := mem_crcTab 2047 (q - p - 1) 2147483648 (by omega)
  rw [show q - p - 1 + 1 = q - p by omega, ← h3] at h4
  exact notIn_spec _ _ tab_notIn h4
theorem trace_three {p q r : Nat} (h : p < q) (h' : q < r) (hr : r < 2048) : trace p ^^^ trace q ^^^ trace r ≠ 0 := fun h0 => by
  have h1 : crcR p (crcR (q - p) 2147483648 ^^^ 2147483648) = crcR p (crcR (r - p) 2147483648) := by
    rw [crcR_xor, ← crcR_add, ← crcR_add, show p + (q - p) = q by omega, show p + (r - p) = r by omega]
    show trace q ^^^ trace p = trace r
    have := congrArg (· ^^^ trace r) h0
    rw [Nat.xor_comm (trace q)]
    simpa [Nat.xor_assoc] using this
  have h2 := crcR_inj p (xor_lt32 (crcR_lt (q - p) _ (by omega)) (by omega)) (crcR_lt (r - p) _ (by omega)) h1
  have h3 := mem_crcTab 2047 (q - p - 1) 2147483648 (by omega)
  have h4 := mem_crcTab 2047 (r - p - 1) 2147483648 (by omega)
  rw [show q - p - 1 + 1 = q - p by omega] at h3
  rw [show r - p - 1 + 1 = r - p by omega, ← h2] at h4
  exact apartB_spec _ _ tab_apart _ h3 h4
/-- Whatever their order. -/
theorem trace_two' {p q : Nat} (h : p ≠ q) (hp : p < 2048) (hq : q < 2048) : trace p ^^^ trace q ≠ 0 := by
  rcases Nat.lt_or_gt_of_ne h with h | h
  · exact trace_two h hq
  · rw [Nat.xor_comm]; exact trace_two h hp
theorem trace_three' {p q r : Nat} (h1 : p ≠ q) (h2 : p ≠ r) (h3 : q ≠ r) (hp : p < 2048) (hq : q < 2048) (hr : r < 2048) : trace p ^^^ trace q ^^^ trace r ≠ 0 := by
  have sw1 : ∀ a b c : Nat, a ^^^ b ^^^ c = b ^^^ a ^^^ c := fun a b c => by rw [Nat.xor_comm a b]
  have sw2 : ∀ a b c : Nat, a ^^^ b ^^^ c = a ^^^ c ^^^ b := fun a b c => by rw [Nat.xor_assoc, Nat.xor_comm b c, ← Nat.xor_assoc]
  rcases Nat.lt_or_gt_of_ne h1 with a | a <;> rcases Nat.lt_or_gt_of_ne h2 with b | b <;> rcases Nat.lt_or_gt_of_ne h3 with c | c
  · exact trace_three a c hr
  · rw [sw2]; exact trace_three b c hq
  · omega
  · rw [sw2, sw1]; exact trace_three b a hq
  · rw [sw1]; exact trace_three a b hr
  · omega
  · rw [sw1, sw2]; exact trace_three c b hp
  · rw [sw1, sw2, sw1]; exact trace_three c a hp
end Go.Proofs.Ythepcoifcoinoaa

namespace Go.Proofs.Ythepcoifcoinoaa

theorem byte_join (n x : Nat) (h : x < 256) : n * 256 + x = (2 ^ 8 * n) ^^^ x := by
  have := low_high (n * 256 + x)
  rw [show (n * 256 + x) % 256 = x by omega, show (n * 256 + x) / 256 = n by omega, Nat.xor_comm] at this
  exact this
theorem shift_xor (a b : Nat) : 2 ^ 8 * (a ^^^ b) = (2 ^ 8 * a) ^^^ (2 ^ 8 * b) := by
  apply Nat.eq_of_testBit_eq
  intro i
  rw [Nat.testBit_xor, Nat.testBit_two_pow_mul, Nat.testBit_two_pow_mul, Nat.testBit_two_pow_mul, Nat.testBit_xor]
  cases decide (8 ≤ i) <;> simp
theorem beFold_xor : ∀ (a b : List UInt8) (n m : Nat), a.length = b.length →
    (xorL a b).foldl (fun n b => n * 256 + b.toNat) (n ^^^ m) = a.foldl (fun n b => n * 256 + b.toNat) n ^^^ b.foldl (fun n b => n * 256 + b.toNat) m
  | [], [], _, _, _ => rfl
  | x :: a, y :: b, n, m, h => by
    have hl : a.length = b.length := by simpa using h
    have hx := x.toNat_lt
    have hy := y.toNat_lt
    have hs : (n ^^^ m) * 256 + (x ^^^ y).toNat = (n * 256 + x.toNat) ^^^ (m * 256 + y.toNat) := by
      rw [UInt8.toNat_xor, byte_join n _ hx, byte_join m _ hy, byte_join _ _ (Nat.xor_lt_two_pow (n := 8) hx hy), shift_xor, xor4]
    show (xorL a b).foldl _ ((n ^^^ m) * 256 + (x ^^^ y).toNat) = _
    rw [hs, beFold_xor a b _ _ hl]
    rfl
  | [], _ :: _, _, _, h => by simp at h
  | _ :: _, [], _, _, h => by simp at h
theorem beN_xor (a b : List UInt8) (h : a.length = b.length) : beN (xorL a b) = beN a ^^^ beN b := by
  have := beFold_xor a b 0 0 h
  exact this

/-- The sum's trace of a page's bytes: of the right sum it is all ones. -/
def synd (l : List UInt8) : Nat := beN (l.take 4) ^^^ crcRun 4294967295 (l.drop 4)
theorem synd_right (l : List UInt8) : beN (l.take 4) = crcSum (l.drop 4) ↔ synd l = 4294967295 := by
  unfold synd crcSum
  have hr := crcRun_lt (l.drop 4) 4294967295 (by omega)
  rw [← xor_ones32 _ hr]
  generalize crcRun 4294967295 (l.drop 4) = r at *
  constructor
  · intro h
    rw [h, Nat.xor_assoc, Nat.xor_self, Nat.xor_zero]
  · intro h
    rw [← h, Nat.xor_assoc, Nat.xor_self, Nat.xor_zero]
theorem synd_xor (a b : List UInt8) (h : a.length = b.length) : synd (xorL a b) = synd a ^^^ (beN (b.take 4) ^^^ crcRun 0 (b.drop 4)) := by
  unfold synd
  have h1 : (xorL a b).take 4 = xorL (a.take 4) (b.take 4) := by unfold xorL; rw [List.take_zipWith]
  have h2 : (xorL a b).drop 4 = xorL (a.drop 4) (b.drop 4) := by unfold xorL; rw [List.drop_zipWith]
  rw [h1, h2, beN_xor _ _ (by simp [h]), ← xor4]
  congr 1
  have := crcRun_xor (a.drop 4) (b.drop 4) 4294967295 0 (by simp [h])
  rw [Nat.xor_zero] at this
  exact this

/-- The exponent of a bit's trace. -/
def expo (i : Nat) : Nat := if i < 32 then 7 + 8 * (i / 8) - i % 8 else 8 * (256 - i / 8) + 31 - i % 8
theorem expo_lt (i : Nat) (h : i < 2048) : expo i < 2048 := by unfold expo; split <;> omega
theorem expo_inj {i j : Nat} (hi : i < 2048) (hj : j < 2048) (h : expo i = expo j) : i = j := by
  unfold expo at h
  split at h <;> split at h <;> omega
theorem beN_zeros (k : Nat) : beN (List.replicate k 0) = 0 := by
  induction k with
  | zero => rfl
  | succ k ih => rw [List.replicate_succ', beN_snoc, ih]; rfl
theorem ofNat_pow (q : Nat) (h : q < 8) : (UInt8.ofNat (2 ^ q)).toNat = 2 ^ q := by
  have : 2 ^ q < 2 ^ 8 := Nat.pow_lt_pow_right (by omega) h
  rw [UInt8.toNat_ofNat']
  exact Nat.mod_eq_of_lt this
theorem spike_trace (i : Nat) (h : i < 2048) : beN ((spike (i / 8) (2 ^ (i % 8)) (255 - i / 8)).take 4) ^^^ crcRun 0 ((spike (i / 8) (2 ^ (i % 8)) (255 - i / 8)).drop 4) = trace (expo i) := by
  have hq : i % 8 < 8 := Nat.mod_lt _ (by omega)
  have hv := ofNat_pow (i % 8) hq
  by_cases h32 : i < 32
  · have hp : i / 8 < 4 := by omega
    have h4 : spike (i / 8) (2 ^ (i % 8)) (255 - i / 8) = (List.replicate (i / 8) 0 ++ UInt8.ofNat (2 ^ (i % 8)) :: List.replicate (3 - i / 8) 0) ++ List.replicate 252 0 := by
      unfold spike
      rw [List.append_assoc, List.cons_append, List.replicate_append_replicate, show 3 - i / 8 + 252 = 255 - i / 8 by omega]
    have hl : (List.replicate (i / 8) 0 ++ UInt8.ofNat (2 ^ (i % 8)) :: List.replicate (3 - i / 8) 0).length = 4 := by simp; omega
    rw [h4, List.take_left' hl, List.drop_left' hl, crcRun_zeros, crcR_zero, Nat.xor_zero, beN_append, beN_zeros, Nat.zero_mul, Nat.zero_add,
      show UInt8.ofNat (2 ^ (i % 8)) :: List.replicate (3 - i / 8) 0 = [UInt8.ofNat (2 ^ (i % 8))] ++ List.replicate (3 - i / 8) 0 from rfl, beN_append, beN_zeros, Nat.add_zero, List.length_replicate,
      show beN [UInt8.ofNat (2 ^ (i % 8))] = (UInt8.ofNat (2 ^ (i % 8))).toNat by simp [beN], hv, show (256 : Nat) = 2 ^ 8 from rfl, ← Nat.pow_mul, ← Nat.pow_add, two_pow_crc _ (by omega)]
    unfold trace expo
    rw [if_pos h32]
    congr 1
    omega
  · have h4 : spike (i / 8) (2 ^ (i % 8)) (255 - i / 8) = List.replicate 4 0 ++ spike (i / 8 - 4) (2 ^ (i % 8)) (255 - i / 8) := by
      unfold spike
      rw [← List.append_assoc, List.replicate_append_replicate, show 4 + (i / 8 - 4) = i / 8 by omega]
    have hl : (List.replicate 4 (0 : UInt8)).length = 4 := by simp
    have hb : 2 ^ (i % 8) < 256 := by
      have : 2 ^ (i % 8) < 2 ^ 8 := Nat.pow_lt_pow_right (by omega) hq
      exact this
    rw [h4, List.take_left' hl, List.drop_left' hl, beN_zeros, Nat.zero_xor, crcRun_spike _ _ _ hb, two_pow_crc _ (by omega), ← crcR_add]
    unfold trace expo
    rw [if_neg h32]
    congr 1
    omega

/-- A bit turned, if there is such a bit. -/
def turnBit (l : List UInt8) (i : Int) : List UInt8 :=
  if 0 ≤ i ∧ i < 2048 then l.set (i.toNat / 8) (l.getD (i.toNat / 8) 0 ^^^ UInt8.ofNat (2 ^ (i.toNat % 8))) else l
theorem turnBit_length (l : List UInt8) (i : Int) : (turnBit l i).length = l.length := by
  unfold turnBit; split <;> simp
theorem turnBit_out (l : List UInt8) (i : Int) (h : ¬ (0 ≤ i ∧ i < 2048)) : turnBit l i = l := by unfold turnBit; rw [if_neg h]
theorem turnBit_spike (l : List UInt8) (hl : l.length = 256) (i : Int) (h : 0 ≤ i ∧ i < 2048) : turnBit l i = xorL l (spike (i.toNat / 8) (2 ^ (i.toNat % 8)) (255 - i.toNat / 8)) := by
  unfold turnBit
  rw [if_pos h]
  have hp : i.toNat / 8 < 256 := by omega
  generalize i.toNat / 8 = p at *
  generalize 2 ^ (i.toNat % 8) = b at *
  apply List.ext_getElem
  · simp [xorL, spike, hl]; omega
  · intro j h1 h2
    have hj : j < 256 := by simpa [hl] using h1
    simp only [xorL, List.getElem_zipWith, List.getElem_set]
    by_cases hjp : p = j
    · subst hjp
      rw [if_pos rfl]
      congr 1
      · simp [List.getD, List.getElem?_eq_getElem (show p < l.length by omega)]
      · simp [spike]
    · rw [if_neg hjp]
      have : (spike p b (255 - p))[j]'(by simp [spike]; omega) = 0 := by
        unfold spike
        rw [List.getElem_append]
        split
        · simp
        · rename_i hge
          simp at hge
          rw [List.getElem_cons]
          split
          · rename_i h0; simp at h0; omega
          · simp
      rw [this]
      simp
theorem turnBit_twice (l : List UInt8) (i : Int) : turnBit (turnBit l i) i = l := by
  by_cases h : 0 ≤ i ∧ i < 2048
  · unfold turnBit
    rw [if_pos h, if_pos h]
    generalize i.toNat / 8 = p
    generalize UInt8.ofNat (2 ^ (i.toNat % 8)) = v
    rw [List.set_set]
    by_cases hp : p < l.length
    · have e : (l.set p (l.getD p 0 ^^^ v)).getD p 0 = l.getD p 0 ^^^ v := by
        simp [List.getD, hp]
      rw [e, UInt8.xor_assoc, UInt8.xor_self, UInt8.xor_zero]
      apply List.ext_getElem
      · simp
      · intro j h1 h2
        rw [List.getElem_set]
        split
        · rename_i h3; subst h3; simp [List.getD, List.getElem?_eq_getElem hp]
        · rfl
    · rw [List.set_eq_of_length_le (by omega)]
  · rw [turnBit_out _ _ h, turnBit_out _ _ h]
/-- What a turned bit does to the trace. -/
def bitTrace (i : Int) : Nat := if 0 ≤ i ∧ i < 2048 then trace (expo i.toNat) else 0
theorem synd_turn (l : List UInt8) (hl : l.length = 256) (i : Int) : synd (turnBit l i) = synd l ^^^ bitTrace i := by
  unfold bitTrace
  by_cases h : 0 ≤ i ∧ i < 2048
  · rw [if_pos h, turnBit_spike l hl i h, synd_xor _ _ (by simp [spike, hl]; omega), spike_trace _ (by omega)]
  · rw [if_neg h, turnBit_out _ _ h, Nat.xor_zero]
/-- One to three bits turned: the sum is as it was just if all is as it was. -/
theorem turned (l : List UInt8) (hl : l.length = 256) (a b c : Int) (hs : synd l = 4294967295) (hs' : synd (turnBit (turnBit (turnBit l a) b) c) = 4294967295) : turnBit (turnBit (turnBit l a) b) c = l := by
  rw [synd_turn _ (by rw [turnBit_length, turnBit_length, hl]), synd_turn _ (by rw [turnBit_length, hl]), synd_turn _ hl, hs] at hs'
  have h0 : bitTrace a ^^^ bitTrace b ^^^ bitTrace c = 0 := by
    have := congrArg (4294967295 ^^^ ·) hs'
    simp only [← Nat.xor_assoc, Nat.xor_self, Nat.zero_xor] at this
    exact this
  have ne : ∀ i j : Int, (0 ≤ i ∧ i < 2048) → (0 ≤ j ∧ j < 2048) → i ≠ j → expo i.toNat ≠ expo j.toNat := fun i j hi hj hij he => by
    have := expo_inj (by omega) (by omega) he
    omega
  have lt : ∀ i : Int, (0 ≤ i ∧ i < 2048) → expo i.toNat < 2048 := fun i hi => expo_lt _ (by omega)
  unfold bitTrace at h0
  by_cases ha : 0 ≤ a ∧ a < 2048 <;> by_cases hb : 0 ≤ b ∧ b < 2048 <;> by_cases hc : 0 ≤ c ∧ c < 2048 <;> simp only [ha, hb, hc, and_self, if_true, if_false] at h0
  · exfalso
    by_cases e1 : a = b
    · subst e1; rw [Nat.xor_self, Nat.zero_xor] at h0; exact trace_one _ h0
    by_cases e2 : a = c
    · subst e2; rw [Nat.xor_comm, ← Nat.xor_assoc, Nat.xor_self, Nat.zero_xor] at h0; exact trace_one _ h0
    by_cases e3 : b = c
    · subst e3; rw [Nat.xor_assoc, Nat.xor_self, Nat.xor_zero] at h0; exact trace_one _ h0
    exact trace_three' (ne a b ha hb e1) (ne a c ha hc e2) (ne b c hb hc e3) (lt a ha) (lt b hb) (lt c hc) h0
  · rw [turnBit_out _ c hc]
    by_cases e1 : a = b
    · subst e1; exact turnBit_twice l a
    · exact absurd (by simpa using h0) (trace_two' (ne a b ha hb e1) (lt a ha) (lt b hb))
  · rw [turnBit_out _ b hb]
    by_cases e1 : a = c
    · subst e1; exact turnBit_twice l a
    · exact absurd (by simpa using h0) (trace_two' (ne a c ha hc e1) (lt a ha) (lt c hc))
  · exact absurd (by simpa using h0) (trace_one _)
  · rw [turnBit_out _ a ha]
    by_cases e1 : b = c
    · subst e1; exact turnBit_twice l b
    · exact absurd (by simpa using h0) (trace_two' (ne b c hb hc e1) (lt b hb) (lt c hc))
  · exact absurd (by simpa using h0) (trace_one _)
  · exact absurd (by simpa using h0) (trace_one _)
  · rw [turnBit_out _ a ha, turnBit_out _ b hb, turnBit_out _ c hc]
end Go.Proofs.Ythepcoifcoinoaa

namespace Go.Proofs.Ythepcoifcoinoaa

theorem set_spike (l : List UInt8) (hl : l.length = 256) (p : Nat) (hp : p < 256) (x : UInt8) : l.set p (l.getD p 0 ^^^ x) = xorL l (spike p x.toNat (255 - p)) := by
  have hx : UInt8.ofNat x.toNat = x := UInt8.ofNat_toNat
  apply List.ext_getElem
  · simp [xorL, spike, hl]; omega
  · intro j h1 h2
    have hj : j < 256 := by simpa [hl] using h1
    simp only [xorL, List.getElem_zipWith, List.getElem_set]
    by_cases hjp : p = j
    · subst hjp
      rw [if_pos rfl]
      congr 1
      · simp [List.getD, List.getElem?_eq_getElem (show p < l.length by omega)]
      · simp [spike]
    · rw [if_neg hjp]
      have : (spike p x.toNat (255 - p))[j]'(by simp [spike]; omega) = 0 := by
        unfold spike
        rw [List.getElem_append]
        split
        · simp
        · rename_i hge
          simp at hge
          rw [List.getElem_cons]
          split
          · rename_i h0; simp at h0; omega
          · simp
      rw [this]
      simp
theorem spike_zero (p b : Nat) (hp : p < 256) (hb : b < 256) (h : beN ((spike p b (255 - p)).take 4) ^^^ crcRun 0 ((spike p b (255 - p)).drop 4) = 0) : b = 0 := by
  have hv : (UInt8.ofNat b).toNat = b := by rw [UInt8.toNat_ofNat']; exact Nat.mod_eq_of_lt hb
  by_cases h4 : p < 4
  · have e : spike p b (255 - p) = (List.replicate p 0 ++ UInt8.ofNat b :: List.replicate (3 - p) 0) ++ List.replicate 252 0 := by
      unfold spike
      rw [List.append_assoc, List.cons_append, List.replicate_append_replicate, show 3 - p + 252 = 255 - p by omega]
    have hl : (List.replicate p 0 ++ UInt8.ofNat b :: List.replicate (3 - p) 0).length = 4 := by simp; omega
    rw [e, List.take_left' hl, List.drop_left' hl, crcRun_zeros, crcR_zero, Nat.xor_zero, beN_append, beN_zeros, Nat.zero_mul, Nat.zero_add,
      show UInt8.ofNat b :: List.replicate (3 - p) 0 = [UInt8.ofNat b] ++ List.replicate (3 - p) 0 from rfl, beN_append, beN_zeros, Nat.add_zero, List.length_replicate,
      show beN [UInt8.ofNat b] = (UInt8.ofNat b).toNat by simp [beN], hv] at h
    rcases Nat.mul_eq_zero.1 h with h | h
    · exact h
    · exact absurd h (Nat.ne_of_gt (Nat.pow_pos (by omega)))
  · have e : spike p b (255 - p) = List.replicate 4 0 ++ spike (p - 4) b (255 - p) := by
      unfold spike
      rw [← List.append_assoc, List.replicate_append_replicate, show 4 + (p - 4) = p by omega]
    have hl : (List.replicate 4 (0 : UInt8)).length = 4 := by simp
    rw [e, List.take_left' hl, List.drop_left' hl, beN_zeros, Nat.zero_xor, crcRun_spike _ _ _ hb] at h
    exact crcR_inj _ (by omega) (by omega) (h.trans (crcR_zero _).symm)
theorem synd_byte (l : List UInt8) (hl : l.length = 256) (p : Nat) (hp : p < 256) (x : UInt8) (h : synd (l.set p (l.getD p 0 ^^^ x)) = synd l) : x = 0 := by
  rw [set_spike l hl p hp x, synd_xor _ _ (by simp [spike, hl]; omega)] at h
  have h0 := congrArg (synd l ^^^ ·) h
  simp only [← Nat.xor_assoc, Nat.xor_self, Nat.zero_xor] at h0
  have := spike_zero p x.toNat hp x.toNat_lt h0
  exact UInt8.toNat_inj.1 (by simpa using this)
end Go.Proofs.Ythepcoifcoinoaa
