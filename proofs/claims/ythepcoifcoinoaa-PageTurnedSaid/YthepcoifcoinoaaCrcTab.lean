/- Plain mathematics: one, two, three turned bits of 2048 never leave the sum as it was. No program is named here. -/
import Derived.Test.YthepcoifcoinoaaCrcLin
namespace Go.Proofs.Ythepcoifcoinoaa

def crcTab : Nat → Nat → List Nat
  | 0, _ => []
  | k + 1, m => crcOne m :: crcTab k (crcOne m)
def bitMap (g : Nat → Nat) : List Nat → Nat
  | [] => 0
  | x :: l => Nat.lor (bitMap g l) (Nat.shiftLeft 1 (g x))
def bitOff (M k : Nat) : Bool := Nat.beq (Nat.land (Nat.shiftRight M k) 1) 0
def hashA (x : Nat) : Nat := x % 65521
def hashB (x : Nat) : Nat := x % 65519
def hashC (x : Nat) : Nat := x % 65497
def apartB (A B C : Nat) : List Nat → Bool
  | [] => true
  | x :: l => (bitOff A (hashA (x ^^^ 2147483648)) || (bitOff B (hashB (x ^^^ 2147483648)) || bitOff C (hashC (x ^^^ 2147483648)))) && apartB A B C l
def notIn (x : Nat) : List Nat → Bool
  | [] => true
  | y :: l => (! Nat.beq x y) && notIn x l

set_option maxRecDepth 100000 in
theorem tab_apart : apartB (bitMap hashA (crcTab 2047 2147483648)) (bitMap hashB (crcTab 2047 2147483648)) (bitMap hashC (crcTab 2047 2147483648)) (crcTab 2047 2147483648) = true := by decide +kernel
set_option maxRecDepth 100000 in
theorem tab_notIn : notIn 2147483648 (crcTab 2047 2147483648) = true := by decide +kernel

theorem mem_crcTab (n : Nat) : ∀ (c m : Nat), c < n → crcR (c + 1) m ∈ crcTab n m := by
  induction n with
  | zero => intro c m h; omega
  | succ n ih =>
    intro c m h
    rcases c with _ | c
    · exact List.mem_cons_self
    · refine List.mem_cons_of_mem _ ?_
      have := ih c (crcOne m) (by omega)
      rwa [show crcOne m = crcR 1 m from rfl, ← crcR_add] at this
theorem bitOff_eq (M k : Nat) : bitOff M k = !(M.testBit k) := by
  have h : (M.testBit k) = ((Nat.land (Nat.shiftRight M k) 1) != 0) := by
    show ((1 &&& (M >>> k)) != 0) = ((M >>> k &&& 1) != 0)
    rw [Nat.and_comm]
  rw [h]
  unfold bitOff
  cases hb : Nat.beq (Nat.land (Nat.shiftRight M k) 1) 0
  · rw [show ((M.shiftRight k).land 1 != 0) = true from bne_iff_ne.2 (Nat.ne_of_beq_eq_false hb)]; rfl
  · rw [show ((M.shiftRight k).land 1 != 0) = false by rw [Nat.eq_of_beq_eq_true hb]; rfl]; rfl
theorem bitMap_mem (g : Nat → Nat) : ∀ (l : List Nat) (x : Nat), x ∈ l → (bitMap g l).testBit (g x) = true
  | y :: l, x, h => by
    show ((bitMap g l) ||| (1 <<< (g y))).testBit (g x) = true
    rw [Nat.testBit_or]
    rcases List.mem_cons.1 h with rfl | h
    · simp [Nat.testBit_shiftLeft]
    · rw [bitMap_mem g l x h]; rfl
theorem apartB_spec (T : List Nat) : ∀ (l : List Nat), apartB (bitMap hashA T) (bitMap hashB T) (bitMap hashC T) l = true → ∀ x ∈ l, x ^^^ 2147483648 ∉ T
  | y :: l, h, x, hx => by
    simp only [apartB, Bool.and_eq_true] at h
    rcases List.mem_cons.1 hx with rfl | hx
    · intro hm
      have h1 := h.1
      rw [bitOff_eq, bitOff_eq, bitOff_eq, bitMap_mem hashA T _ hm, bitMap_mem hashB T _ hm, bitMap_mem hashC T _ hm] at h1
      cases h1
    · exact apartB_spec T l h.2 x hx
theorem notIn_spec : ∀ (l : List Nat) (x : Nat), notIn x l = true → x ∉ l
  | [], _, _ => by simp
  | y :: l, x, h => by
    simp only [notIn, Bool.and_eq_true, Bool.not_eq_true'] at h
    intro hm
    rcases List.mem_cons.1 hm with rfl | hm
    · exact Nat.ne_of_beq_eq_false h.1 rfl
    · exact notIn_spec l x h.2 hm

/-- The trace of the turned bit of exponent e. -/
def trace (e : Nat) : Nat := crcR e 2147483648
theorem trace_lt (e : Nat) : trace e < 4294967296 := crcR_lt e _ (by omega)
theorem trace_one (e : Nat) : trace e ≠ 0 := fun h => by
  have := crcR_inj e (a := 2147483648) (b := 0) (by omega) (by omega) (h.trans (crcR_zero e).symm)
  omega
theorem xor_lt32 {a b : Nat} (ha : a < 4294967296) (hb : b < 4294967296) : a ^^^ b < 4294967296 := Nat.xor_lt_two_pow (n := 32) ha hb
theorem trace_two {p q : Nat} (h : p < q) (hq : q < 2048) : trace p ^^^ trace q ≠ 0 := fun h0 => by
  have h1 : trace p = trace q := by
    have := congrArg (· ^^^ trace q) h0
    simpa [Nat.xor_assoc] using this
  have h2 : crcR p 2147483648 = crcR p (crcR (q - p) 2147483648) := by
    rw [← crcR_add, show p + (q - p) = q by omega]; exact h1
  have h3 := crcR_inj p (by omega) (crcR_lt (q - p) _ (by omega)) h2
  have h4 := mem_crcTab 2047 (q - p - 1) 2147483648 (by omega)
  rw [show q - p - 1 + 1 = q - p by omega, ← h3] at h4
  exact notIn_spec _ _ tab_notIn h4
theorem trace_three {p q r : Nat} (h : p < q) (h' : q < r) (hr : r < 2048) : trace p ^^^ trace q ^^^ trace r ≠ 0 := fun h0 => by
  have h1 : crcR p (crcR (q - p) 2147483648 ^^^ 2147483648) = crcR p (crcR (r - p) 2147483648) := by
    rw [crcR_xor, ← crcR_add, ← crcR_add, show p + (q - p) = q by omega, show p + (r - p) = r by omega]
    show trace q ^^^ trace p = trace r
    have := congrArg (· ^^^ trace r) h0
    rw [Nat.xor_comm (trace q)]
    simpa [Nat.xor_assoc] using this
  have h2 := crcR_inj p (xor_lt32 (crcR_lt (q - p) _ (by omega)) (by omega)) (crcR_lt (r - p) _ (by omega)) h1
  have h3 := mem_crcTab 2047 (q - p - 1) 2147483648 (by omega)
  have h4 := mem_crcTab 2047 (r - p - 1) 2147483648 (by omega)
  rw [show q - p - 1 + 1 = q - p by omega] at h3
  rw [show r - p - 1 + 1 = r - p by omega, ← h2] at h4
  exact apartB_spec _ _ tab_apart _ h3 h4
/-- Whatever their order. -/
theorem trace_two' {p q : Nat} (h : p ≠ q) (hp : p < 2048) (hq : q < 2048) : trace p ^^^ trace q ≠ 0 := by
  rcases Nat.lt_or_gt_of_ne h with h | h
  · exact trace_two h hq
  · rw [Nat.xor_comm]; exact trace_two h hp
theorem trace_three' {p q r : Nat} (h1 : p ≠ q) (h2 : p ≠ r) (h3 : q ≠ r) (hp : p < 2048) (hq : q < 2048) (hr : r < 2048) : trace p ^^^ trace q ^^^ trace r ≠ 0 := by
  have sw1 : ∀ a b c : Nat, a ^^^ b ^^^ c = b ^^^ a ^^^ c := fun a b c => by rw [Nat.xor_comm a b]
  have sw2 : ∀ a b c : Nat, a ^^^ b ^^^ c = a ^^^ c ^^^ b := fun a b c => by rw [Nat.xor_assoc, Nat.xor_comm b c, ← Nat.xor_assoc]
  rcases Nat.lt_or_gt_of_ne h1 with a | a <;> rcases Nat.lt_or_gt_of_ne h2 with b | b <;> rcases Nat.lt_or_gt_of_ne h3 with c | c
  · exact trace_three a c hr
  · rw [sw2]; exact trace_three b c hq
  · omega
  · rw [sw2, sw1]; exact trace_three b a hq
  · rw [sw1]; exact trace_three a b hr
  · omega
  · rw [sw1, sw2]; exact trace_three c b hp
  · rw [sw1, sw2, sw1]; exact trace_three c a hp
end Go.Proofs.Ythepcoifcoinoaa
