/- Package records, plain: rows, which may be, their keys. -/
import Derived.Test.YtfglgeoookbppaaGreatDoorPa14
import Derived.Test.YtfglgeoookbppaaGreatDoorPa23
import Derived.Test.YtfglgeoookbppaaGreatDoorPa12

namespace Go.Proofs.YtfglgeoookbppaaGreatDoor
open Go

/-- A row. -/
structure Rw where
  k : Int
  c : List UInt8
  seq : Int
  id : Int
  t : List UInt8
  b : List UInt8
  q : Int
  r : Bool
  s : Int
/-- Are two rows the same? -/
def rwEq (x y : Rw) : Bool := x.k == y.k && (x.c == y.c && (x.seq == y.seq && (x.id == y.id && (x.t == y.t && (x.b == y.b && (x.q == y.q && (x.r == y.r && x.s == y.s)))))))
theorem rwEq_iff (x y : Rw) : rwEq x y = true ↔ x = y := by
  unfold rwEq
  simp only [Bool.and_eq_true, beq_iff_eq]
  constructor
  · rintro ⟨h1, h2, h3, h4, h5, h6, h7, h8, h9⟩
    obtain ⟨a1, a2, a3, a4, a5, a6, a7, a8, a9⟩ := x
    obtain ⟨b1, b2, b3, b4, b5, b6, b7, b8, b9⟩ := y
    simp only at h1 h2 h3 h4 h5 h6 h7 h8 h9
    subst h1 h2 h3 h4 h5 h6 h7 h8 h9
    rfl
  · rintro rfl
    exact ⟨rfl, rfl, rfl, rfl, rfl, rfl, rfl, rfl, rfl⟩
def rwZ : Rw := ⟨0, [], 0, 0, [], [], 0, false, 0⟩
def inN (n a b : Int) : Bool := decide (a ≤ n) && decide (n ≤ b)
def rcClient (s : List UInt8) : Bool := decide (1 ≤ s.length) && (decide (s.length ≤ 23) && uGood s)
def rcStage (x : Rw) : Bool := (decide (x.s = 1) && decide (x.id = 0)) || (inN x.id 1 65535 && (decide (x.s = 2) || (decide (x.s = 3) && decide (x.q = 2))))
/-- May a row be, by its kind? -/
def rcMay (k : Int) (x : Rw) : Bool :=
  if k = 1 then rcClient x.c && (inN x.seq 0 4611686018427387904 && inN x.id 0 4611686018427387904)
  else if k = 2 then rcClient x.c && (tFilter x.t && inN x.q 0 2)
  else if k = 3 then rcClient x.c && (inN x.seq 0 4611686018427387904 && (tName x.t && (decide (x.b.length ≤ 2000) && (inN x.q 1 2 && rcStage x))))
  else if k = 4 then rcClient x.c && inN x.id 1 65535
  else if k = 5 then tName x.t && (inN (x.b.length : Nat) 1 2000 && inN x.q 0 2)
  else false
/-- What a row of a kind has. -/
def rcHas (k : Int) (x : Rw) : Rw :=
  if k = 1 then { rwZ with c := x.c, seq := x.seq, id := x.id }
  else if k = 2 then { rwZ with c := x.c, t := x.t, q := x.q }
  else if k = 3 then x
  else if k = 4 then { rwZ with c := x.c, id := x.id }
  else { rwZ with t := x.t, b := x.b, q := x.q }
def kText (s : List UInt8) : KP := ⟨3, 0, 0, s⟩
def kInt (n : Int) : KP := ⟨1, n, 0, []⟩
def rcSum (s : List UInt8) : KP := kInt (crcSum s : Nat)
def rcParts (k : Int) (x : Rw) : List KP :=
  if k = 1 then [kText x.c]
  else if k = 2 then [kText x.c, rcSum x.t]
  else if k = 3 then [kText x.c, kInt x.seq]
  else if k = 4 then [kText x.c, kInt x.id]
  else [rcSum x.t]
def rcPlaced (k : Int) : Bool := decide (k = 2) || decide (k = 5)
def rcIs (k : Int) : Bool := inN k 1 5
/-- May a row be? -/
def rcOk (x : Rw) : Bool := rcIs x.k && (rcMay x.k x && rwEq { rcHas x.k x with k := x.k } x)
def rcKeyL (x : Rw) (p : Int) : List KP := if rcPlaced x.k = true then rcParts x.k x ++ [kInt p] else rcParts x.k x
def rcFits (x : Rw) (p : Int) : Bool := rcOk x && (inN p 0 2147483648 && (decide (p = 0) || rcPlaced x.k))
end Go.Proofs.YtfglgeoookbppaaGreatDoor
