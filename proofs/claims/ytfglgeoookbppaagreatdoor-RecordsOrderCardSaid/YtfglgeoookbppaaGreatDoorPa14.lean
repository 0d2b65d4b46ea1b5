/- Plain words of layer 18: parts, which may be, their bytes, how they stand. No program is named here. -/
import Derived.Test.YtfglgeoookbppaaGreatDoorPa10
import Derived.Test.YtfglgeoookbppaaGreatDoorPa12

namespace Go.Proofs.YtfglgeoookbppaaGreatDoor

/-- A part. -/
structure KP where
  k : Int
  n : Int
  f : Nat
  s : List UInt8
structure KP.Ok (p : KP) : Prop where
  k1 : -9223372036854775808 ≤ p.k
  k2 : p.k ≤ 9223372036854775807
  n1 : -9223372036854775808 ≤ p.n
  n2 : p.n ≤ 9223372036854775807
  f : p.f < 18446744073709551616
/-- Is a number nought? -/
def fz (x : Nat) : Bool := x % fS == 0
/-- The bits of a number in order. -/
def kOf (x : Nat) : Nat := kOrd (kBits x)
theorem kOf_lt (x : Nat) (h : x < 18446744073709551616) : kOf x < 18446744073709551616 := by
  have h1 : kBits x < 18446744073709551616 := by unfold kBits; split <;> (try split) <;> omega
  unfold kOf kOrd fS
  split <;> omega
/-- May a part be? -/
def kMay (p : KP) : Bool := if p.k = 1 then p.s.isEmpty && fz p.f else if p.k = 2 then p.s.isEmpty && p.n == 0 else if p.k = 3 then p.n == 0 && fz p.f else false
/-- A text's bytes in a key. -/
def kEsc : List UInt8 → List UInt8
  | [] => []
  | b :: l => (if b = 0 then [0, 255] else [b]) ++ kEsc l
/-- A number's word, lifted. -/
def kUp (n : Int) : Nat := (n + 9223372036854775808).toNat
def kTail (p : KP) : List UInt8 := if p.k = 1 then toBE 8 (kUp p.n) else if p.k = 2 then toBE 8 (kOf p.f) else kEsc p.s ++ [0, 1]
def kPart (p : KP) : List UInt8 := UInt8.ofNat p.k.toNat :: kTail p
def kRaw : List KP → List UInt8
  | [] => []
  | p :: l => kPart p ++ kRaw l
theorem kRaw_append (a b : List KP) : kRaw (a ++ b) = kRaw a ++ kRaw b := by
  induction a with
  | nil => rfl
  | cons p a ih => simp [kRaw, ih]
theorem kRaw_one (p : KP) : kRaw [p] = kPart p := by simp [kRaw]
/-- Why parts are no key: 0, 2 (they may not be), 3 (too long). -/
def kErr (l : List KP) : Nat := if l.all kMay then if l.length = 0 ∨ 4 < l.length then 2 else if 48 < (kRaw l).length then 3 else 0 else 2
theorem kMay_cases {p : KP} (h : kMay p = true) : (p.k = 1 ∧ p.s = [] ∧ fz p.f = true) ∨ (p.k = 2 ∧ p.s = [] ∧ p.n = 0) ∨ (p.k = 3 ∧ p.n = 0 ∧ fz p.f = true) := by
  unfold kMay at h
  split at h
  · rename_i h1
    simp at h
    exact .inl ⟨h1, h⟩
  · split at h
    · rename_i h1 h2
      simp at h
      exact .inr (.inl ⟨h2, h⟩)
    · split at h
      · rename_i h1 h2 h3
        simp at h
        exact .inr (.inr ⟨h3, h⟩)
      · cases h
end Go.Proofs.YtfglgeoookbppaaGreatDoor
