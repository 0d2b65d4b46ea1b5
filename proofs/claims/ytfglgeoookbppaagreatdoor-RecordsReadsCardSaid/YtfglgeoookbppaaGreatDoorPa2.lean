/- Package keys: Int, Float, Text; eight bytes; a number's bits. Package keys: eight bytes, laid. Plain words of layer 18: parts, which may be, their bytes, how they stand. No program is named here. Package keys: a number's bits in order. Package keys: what a kind has: may, raw, compare. Package keys: a text's bytes. Maps whose elements are any values: what is looked up is told by value. -/
import Derived.Test.YtfglgeoookbppaaGreatDoorPa1
import Derived.Laws.FloatBits
import Derived.Laws.Externs
import Derived.Test.YtfglgeoookbppaaGreatDoorShelf
import Derived.Test.YtfglgeoookbppaaGreatDoorPa0
import Derived.Maps.Own

namespace Go.Proofs.YtfglgeoookbppaaGreatDoor
open Go.RowKit Ieee

theorem run_store_float {P : Program} {w : World} {a : Addr} {m : Mode} (k : FloatKind) (x : Nat) : (store a (.float k x) m).run P w = stored P w a (.float k x) m := run_store P w a _ m rfl

set_option maxRecDepth 100000 in
set_option maxHeartbeats 400000 in
theorem kInt_any (n : Int) (w : World) :
  Calls Tryz.prog 28 #[.int .i64 n] w fun e w' => e = .returned (.agg #[.int .i64 1, .int .i64 n, .float .f64 0, .string ⟨#[]⟩]) ∧ Keeps w w' [] := by
 have hsf := @run_store_float Tryz.prog
 go_enter Tryz.func28, Tryz.ntmps28
 go_wp2
 exact bodyPost_ret (v := .agg #[.int .i64 1, .int .i64 n, .float .f64 0, .string ⟨#[]⟩]) (by simp [results, Tryz.results28, go_sem]) rfl ⟨rfl, Keeps.alloc _ _⟩

set_option maxRecDepth 100000 in
set_option maxHeartbeats 400000 in
theorem kText_any (s : ByteArray) (w : World) :
  Calls Tryz.prog 62 #[.string s] w fun e w' => e = .returned (.agg #[.int .i64 3, .int .i64 0, .float .f64 0, .string s]) ∧ Keeps w w' [] := by
 have hsf := @run_store_float Tryz.prog
 go_enter Tryz.func62, Tryz.ntmps62
 go_wp2
 exact bodyPost_ret (v := .agg #[.int .i64 3, .int .i64 0, .float .f64 0, .string s]) (by simp [results, Tryz.results62, go_sem]) rfl ⟨rfl, Keeps.alloc _ _⟩

set_option maxRecDepth 100000 in
set_option maxHeartbeats 400000 in
theorem kFloat_any (x : Nat) (w : World) :
  Calls Tryz.prog 116 #[.float .f64 x] w fun e w' => e = .returned (.agg #[.int .i64 2, .int .i64 0, .float .f64 (wholeW x), .string ⟨#[]⟩]) ∧ Keeps w w' [] := by
 have hsf := @run_store_float Tryz.prog
 go_enter Tryz.func116, Tryz.ntmps116
 go_wp2_with (go_at_call 140; refine (kWhole_any _ _).mono ?_; rintro e w' ⟨rfl, rfl⟩)
 exact bodyPost_ret (v := .agg #[.int .i64 2, .int .i64 0, .float .f64 (wholeW x), .string ⟨#[]⟩]) (by simp [results, Tryz.results116, go_sem]) rfl ⟨rfl, Keeps.alloc _ _⟩
end Go.Proofs.YtfglgeoookbppaaGreatDoor

namespace Go.Proofs.YtfglgeoookbppaaGreatDoor
open Go.RowKit

set_option maxRecDepth 100000 in
set_option maxHeartbeats 2000000 in
theorem kLaid_any (w : World) (n : Nat) (_ : n < 18446744073709551616) :
  Calls Tryz.prog 107 #[.int .u64 n] w fun e w' => e = .returned (strV (toBE 8 n)) ∧ Keeps w w' [] := by
 obtain ⟨i0, hi, hz0, hz1, hz2⟩ := info_parts infoByte
 go_enter Tryz.func107, Tryz.ntmps107
 go_wp2_with (at_make; refine wpList_make_full _ rfl (.const (.int .i64 8)) (.const (.int .i64 8)) 39 rfl w.heap.size 5 i0 (.int .u8 0) 1 undBytes hi hz0 hz1 .i64 .i64 8 8 8 rfl rfl rfl rfl (by rw [hz2]; omega) (by simp [maxLen]) (Nat.le_refl _) ?_; intro w1 hown hg; have HO := Lib.hid (And.intro hown hg); clear hown hg)
 go_loopw [6] (fun i wr => ∃ j : Nat, j ≤ 8 ∧ i = .int .i64 j ∧ wr.ownsRow w.heap.size 5 1 (.slice (some ⟨w.heap.size, 0, none⟩) 8 8) 8 ((half 8 j n).map byteV) ∧ Keeps w wr []) (fun i _ => 8 - (intOf i).toNat)
 case atStart =>
  refine ⟨0, by omega, by simp, ?_, Keeps.of_grown HO.out.2⟩
  have := HO.out.1
  rw [show (madeCells (Value.int .u8 0).cells (8 * 1)).toList = (half 8 0 n).map byteV by
   show (madeCells #[Value.int .u8 0] 8).toList = _
   rw [toList_madeCells_one]
   simp [half, toBE, byteV]] at this
  exact this
 case round =>
  obtain ⟨j, hj, rfl, ho, hkp⟩ := hrel
  by_cases hjk : j < 8
  ·obtain ⟨v0, hcell⟩ : ∃ v, wr.cell? ⟨w.heap.size, 7 - j, none⟩ = some v := ⟨_, by
    rw [ho.cellAt (7 - j) (by omega)]
    exact List.getElem?_eq_getElem (by rw [List.length_map, half_length _ _ _ hj]; omega)⟩
   have hfr := ho.frozenAt (7 - j)
   have HO := Lib.hid (And.intro ho hkp)
   clear ho hkp
   have HS := Lib.hid (half_set 8 j n hjk)
   have HD := Lib.hid (digit_val n j)
   have s1 : (7 : Int) - (j : Int) = ((7 - j : Nat) : Int) := by omega
   go_wp2
   refine ⟨⟨j + 1, by omega, congrArg (Value.int .i64) (by push_cast; omega), ?_, ?_⟩, by simp [intOf]; omega⟩
   ·have hst := (HO.out.1.stored (7 - j) (byteV (UInt8.ofNat (n / 256 ^ j)))).1
    rw [← List.map_set, show 7 - j = 8 - 1 - j by omega, HS.out] at hst
    rw [HD.out, show 7 - j = 8 - 1 - j by omega]
    exact hst
   ·exact (HO.out.2.weaken (T := [w.heap.size]) (by simp)).trans (Keeps.setCell _ _ _) (by simp) |>.weaken (fun x hx hl => by simp at hx; omega)
  ·obtain rfl : j = 8 := by omega
   have hq : half 8 8 n = toBE 8 n := by simp [half]
   rw [hq] at ho
   have HC := Lib.hid (conv_str wr _ _ 8 (toBE 8 n) (Lies.of_own ho))
   clear hq
   have HK := Lib.hid hkp
   clear ho hkp
   have hc := HC.out
   rw [toBE_length] at hc
   go_wp2
   go_ret
   exact ⟨rfl, HK.out⟩
end Go.Proofs.YtfglgeoookbppaaGreatDoor

namespace Go.Proofs.YtfglgeoookbppaaGreatDoor

/-- A part. -/
structure KP where
 k : Int
 n : Int
 f : Nat
 s : List UInt8
structure KP.Ok (p : KP) : Prop where
 k1 : -9223372036854775808 ≤ p.k
 k2 : p.k ≤ 9223372036854775807
 n1 : -9223372036854775808 ≤ p.n
 n2 : p.n ≤ 9223372036854775807
 f : p.f < 18446744073709551616
/-- Is a number nought? -/
def fz (x : Nat) : Bool := x % fS == 0
/-- The bits of a number in order. -/
def kOf (x : Nat) : Nat := kOrd (kBits x)
theorem kOf_lt (x : Nat) (h : x < 18446744073709551616) : kOf x < 18446744073709551616 := by
 have h1 : kBits x < 18446744073709551616 := by unfold kBits; split <;> (try split) <;> omega
 unfold kOf kOrd fS
 split <;> omega
/-- May a part be? -/
def kMay (p : KP) : Bool := if p.k = 1 then p.s.isEmpty && fz p.f else if p.k = 2 then p.s.isEmpty && p.n == 0 else if p.k = 3 then p.n == 0 && fz p.f else false
/-- A text's bytes in a key. -/
def kEsc : List UInt8 → List UInt8
 | [] => []
 | b :: l => (if b = 0 then [0, 255] else [b]) ++ kEsc l
/-- A number's word, lifted. -/
def kUp (n : Int) : Nat := (n + 9223372036854775808).toNat
def kTail (p : KP) : List UInt8 := if p.k = 1 then toBE 8 (kUp p.n) else if p.k = 2 then toBE 8 (kOf p.f) else kEsc p.s ++ [0, 1]
def kPart (p : KP) : List UInt8 := UInt8.ofNat p.k.toNat :: kTail p
def kRaw : List KP → List UInt8
 | [] => []
 | p :: l => kPart p ++ kRaw l
theorem kRaw_append (a b : List KP) : kRaw (a ++ b) = kRaw a ++ kRaw b := by
 induction a with
 | nil => rfl
 | cons p a ih => simp [kRaw, ih]
theorem kRaw_one (p : KP) : kRaw [p] = kPart p := by simp [kRaw]
/-- Why parts are no key: 0, 2 (they may not be), 3 (too long). -/
def kErr (l : List KP) : Nat := if l.all kMay then if l.length = 0 ∨ 4 < l.length then 2 else if 48 < (kRaw l).length then 3 else 0 else 2
theorem kMay_cases {p : KP} (h : kMay p = true) : (p.k = 1 ∧ p.s = [] ∧ fz p.f = true) ∨ (p.k = 2 ∧ p.s = [] ∧ p.n = 0) ∨ (p.k = 3 ∧ p.n = 0 ∧ fz p.f = true) := by
 unfold kMay at h
 split at h
 ·rename_i h1
  simp at h
  exact .inl ⟨h1, h⟩
 ·split at h
  ·rename_i h1 h2
   simp at h
   exact .inr (.inl ⟨h2, h⟩)
  ·split at h
   ·rename_i h1 h2 h3
    simp at h
    exact .inr (.inr ⟨h3, h⟩)
   ·cases h
end Go.Proofs.YtfglgeoookbppaaGreatDoor

namespace Go.Proofs.YtfglgeoookbppaaGreatDoor
open Go.RowKit Ieee

theorem run_f64bits (x : Nat) (w : World) : (callFunc 139 #[.float .f64 x]).run Tryz.prog w = .ok (.value (.int .u64 x)) w :=
 run_callFunc_extern Tryz.func139 (by kernel_rfl) (by kernel_rfl) (by kernel_rfl) (e := Extern.MathFloatBits.float64bits) (by kernel_rfl) _ w
theorem run_f64from (n : Int) (w : World) : (callFunc 117 #[.int .u64 n]).run Tryz.prog w = .ok (.value (.float .f64 n.toNat)) w :=
 run_callFunc_extern Tryz.func117 (by kernel_rfl) (by kernel_rfl) (by kernel_rfl) (e := Extern.MathFloatBits.float64frombits) (by kernel_rfl) _ w

theorem and_high (n : Nat) (h : n < 18446744073709551616) : bits BinOp.and IntKind.u64 (n : Int) 9223372036854775808 = if fS ≤ n then 9223372036854775808 else 0 := by
 have h1 := u64_and_nat n 9223372036854775808 h (by omega)
 have h2 : n &&& 2 ^ 63 = (n.testBit 63).toNat * 2 ^ 63 := by
  apply Nat.eq_of_testBit_eq
  intro i
  rw [Nat.testBit_and, Nat.testBit_two_pow]
  by_cases hi : 63 = i
  ·subst hi
   cases n.testBit 63
   ·simp
   ·rw [show (true : Bool).toNat * 2 ^ 63 = 2 ^ 63 from by simp, Nat.testBit_two_pow]
    simp
  ·cases hb : n.testBit 63
   ·simp [hi]
   ·rw [show (true : Bool).toNat * 2 ^ 63 = 2 ^ 63 from by simp, Nat.testBit_two_pow]
    simp [hi]
 rw [show ((9223372036854775808 : Nat) : Int) = 9223372036854775808 from rfl] at h1
 rw [h1, show (9223372036854775808 : Nat) = 2 ^ 63 from rfl, h2]
 unfold fS
 by_cases hc : 9223372036854775808 ≤ n
 ·rw [if_pos hc, show n.testBit 63 = true by
   rw [Nat.testBit_eq_decide_div_mod_eq]; simp; omega]
  rfl
 ·rw [if_neg hc, show n.testBit 63 = false by
   rw [Nat.testBit_eq_decide_div_mod_eq]; simp; omega]
  rfl
theorem or_high (n : Nat) (h : n < fS) : bits BinOp.or IntKind.u64 (n : Int) 9223372036854775808 = ((n + fS : Nat) : Int) := by
 unfold fS at *
 have h1 := u64_or_nat n 9223372036854775808 (by omega) (by omega)
 rw [show ((9223372036854775808 : Nat) : Int) = 9223372036854775808 from rfl] at h1
 rw [h1]
 have h2 := Nat.two_pow_add_eq_or_of_lt (i := 63) (b := n) (by omega) 1
 rw [Nat.mul_one, Nat.or_comm] at h2
 rw [show (9223372036854775808 : Nat) = 2 ^ 63 from rfl, ← h2, Nat.add_comm]
theorem not_word (n : Nat) (h : n < 18446744073709551616) : bits BinOp.xor IntKind.u64 IntKind.u64.max (n : Int) = ((18446744073709551615 - n : Nat) : Int) := by
 have h1 := u64_xor_nat 18446744073709551615 n (by omega) h
 have h2 : 18446744073709551615 ^^^ n = 18446744073709551615 - n := by
  have h3 : (BitVec.allOnes 64 ^^^ BitVec.ofNat 64 n).toNat = 18446744073709551615 - n := by
   rw [BitVec.allOnes_xor, BitVec.toNat_not, BitVec.toNat_ofNat, Nat.mod_eq_of_lt (by omega)]
  rw [BitVec.toNat_xor, BitVec.toNat_allOnes, BitVec.toNat_ofNat, Nat.mod_eq_of_lt (by omega)] at h3
  exact h3
 rw [h2] at h1
 rw [← h1]; rfl

theorem order_self_nan (x : Nat) : (FloatKind.f64.format.order x x != some Ordering.eq) = decide (fInf < x % fS) := by
 change (double.order x x != some Ordering.eq) = _
 by_cases h : fInf < x % fS
 ·rw [order_nan x x (.inl h)]; simp [h]
 ·rw [order_key x x (by omega) (by omega)]; simp [h]
theorem wholeW_key (x : Nat) (h : x % fS ≤ fInf) : wholeW x = if x % fS = 0 then 0 else x := by
 unfold wholeW
 rw [order_key x 0 h (by decide)]
 have h0 : fKey 0 = 0 := by decide
 rw [h0]
 by_cases hz : x % fS = 0
 ·rw [if_pos hz, if_pos]
  unfold fKey
  rw [hz]
  simp
 ·rw [if_neg hz, if_neg]
  intro hc
  have hc := Int.compare_eq_eq.1 (Option.some.inj hc)
  unfold fKey at hc
  split at hc <;> omega
theorem wholeW_nan (x : Nat) (h : fInf < x % fS) : wholeW x = x := by
 unfold wholeW
 rw [order_nan x 0 (.inl h), if_neg (by simp)]
set_option maxRecDepth 100000 in
set_option maxHeartbeats 2000000 in
theorem kBits_any (x : Nat) (hx : x < 18446744073709551616) (w : World) :
  Calls Tryz.prog 114 #[.float .f64 x] w fun e w' => e = .returned (.int .u64 (kOf x : Nat)) ∧ w = w' := by
 have hb := run_f64bits
 by_cases hn : fInf < x % fS
 ·have h1 : (FloatKind.f64.format.order x x != some Ordering.eq) = true := by rw [order_self_nan]; simpa using hn
  have HE := Lib.hid (kOrd_nan hn)
  clear hn
  go_enter Tryz.func114, Tryz.ntmps114
  go_wp2
  go_ret
  exact ⟨by unfold kOf; rw [HE.out]; rfl, rfl⟩
 ·have h1 : (FloatKind.f64.format.order x x != some Ordering.eq) = false := by rw [order_self_nan]; simpa using hn
  have hk := wholeW_key x (by omega)
  have hkb : kBits x = wholeW x := by unfold kBits; rw [if_neg hn, hk]
  obtain ⟨y, hy⟩ : ∃ y, wholeW x = y := ⟨_, rfl⟩
  have hyl : y < 18446744073709551616 := by rw [← hy, hk]; split <;> omega
  have HE := Lib.hid (show kOf x = kOrd y by unfold kOf; rw [hkb, hy])
  have HY := Lib.hid hy
  have ha := and_high y hyl
  clear hn hk hkb hy
  by_cases hs : fS ≤ y
  ·rw [if_pos hs] at ha
   have h3 := not_word y hyl
   have HS := Lib.hid hs
   clear hs
   go_enter Tryz.func114, Tryz.ntmps114
   go_wp2_with (first | (go_at_call 140; refine (kWhole_any _ _).mono ?_; rintro e w' ⟨rfl, rfl⟩; rw [HY.out]) | go_in)
   go_ret
   exact ⟨by rw [HE.out, kOrd, if_pos HS.out]; rfl, rfl⟩
  ·rw [if_neg hs] at ha
   have h3 := or_high y (by omega)
   have HS := Lib.hid hs
   clear hs
   go_enter Tryz.func114, Tryz.ntmps114
   go_wp2_with (first | (go_at_call 140; refine (kWhole_any _ _).mono ?_; rintro e w' ⟨rfl, rfl⟩; rw [HY.out]) | go_in)
   go_ret
   exact ⟨by rw [HE.out, kOrd, if_neg HS.out]; rfl, rfl⟩
end Go.Proofs.YtfglgeoookbppaaGreatDoor

namespace Go.Proofs.YtfglgeoookbppaaGreatDoor
open Go.RowKit Ieee

/-- A part as a value; its cells. -/
def kpCells (p : KP) : List Value := [.int .i64 p.k, .int .i64 p.n, .float .f64 p.f, strV p.s]
def kpV (p : KP) : Value := .agg #[.int .i64 p.k, .int .i64 p.n, .float .f64 p.f, strV p.s]
theorem order_zero (x : Nat) : (FloatKind.f64.format.order x 0 == some Ordering.eq) = fz x := by
 change (double.order x 0 == some Ordering.eq) = _
 unfold fz
 by_cases h : fInf < x % fS
 ·rw [order_nan x 0 (.inl h)]
  simp
  omega
 ·rw [order_key x 0 (by omega) (by decide), show fKey 0 = 0 by decide]
  by_cases hz : x % fS = 0
  ·rw [hz]
   have : fKey x = 0 := by unfold fKey; rw [hz]; simp
   rw [this]; rfl
  ·have hne : fKey x ≠ 0 := by unfold fKey; split <;> omega
   have h1 : (compare (fKey x) 0) ≠ Ordering.eq := fun h => hne (Int.compare_eq_eq.1 h)
   cases hc : compare (fKey x) 0
   ·simp [hz]
   ·exact absurd hc h1
   ·simp [hz]

/-- The highest bit, turned. -/
theorem xor_high (m : Nat) (h : m < 18446744073709551616) : bits BinOp.xor IntKind.u64 (m : Int) 9223372036854775808 = ((if m < fS then m + fS else m - fS : Nat) : Int) := by
 have h1 := u64_xor_nat m 9223372036854775808 h (by omega)
 rw [show ((9223372036854775808 : Nat) : Int) = 9223372036854775808 from rfl] at h1
 rw [h1]
 congr 1
 have d := Nat.xor_div_two_pow (a := m) (b := 2 ^ 63) (n := 63)
 have r := Nat.xor_mod_two_pow (a := m) (b := 2 ^ 63) (n := 63)
 rw [show (9223372036854775808 : Nat) = 2 ^ 63 from rfl]
 have e := Nat.div_add_mod (m ^^^ 2 ^ 63) (2 ^ 63)
 rw [d, r, show 2 ^ 63 / 2 ^ 63 = 1 from rfl, show 2 ^ 63 % 2 ^ 63 = 0 from rfl, Nat.xor_zero] at e
 unfold fS
 have e2 := Nat.div_add_mod m (2 ^ 63)
 split
 ·rw [show m / 2 ^ 63 = 0 by omega] at e e2
  rw [show (0 : Nat) ^^^ 1 = 1 from rfl] at e
  omega
 ·rw [show m / 2 ^ 63 = 1 by omega] at e e2
  rw [show (1 : Nat) ^^^ 1 = 0 from rfl] at e
  omega
theorem xor_up (n : Int) (h1 : -9223372036854775808 ≤ n) (h2 : n ≤ 9223372036854775807) : bits BinOp.xor IntKind.u64 (IntKind.u64.wrap n) 9223372036854775808 = ((kUp n : Nat) : Int) := by
 have hw : IntKind.u64.wrap n = ((n % 18446744073709551616).toNat : Int) := by
  rw [IntKind.wrap_u64]
  omega
 rw [hw, xor_high _ (by omega)]
 unfold kUp fS
 split <;> omega

set_option maxRecDepth 100000 in
set_option maxHeartbeats 2000000 in
theorem kMayI_any (p : KP) (w : World) : Calls Tryz.prog 105 #[kpV p] w fun e w' => e = .returned (.bool (p.s.isEmpty && fz p.f)) ∧ Keeps w w' [] := by
 obtain ⟨k, n, f, s⟩ := p
 unfold kpV strV
 have hsf := @run_store_float Tryz.prog
 rcases s with _ | ⟨b, s⟩
 ·have h := order_zero f
  go_enter Tryz.func105, Tryz.ntmps105
  go_wp2
  go_ret
  exact ⟨by simp, Keeps.alloc _ _⟩
 ·go_enter Tryz.func105, Tryz.ntmps105
  go_wp2
  go_ret
  exact ⟨by simp, Keeps.alloc _ _⟩
set_option maxRecDepth 100000 in
set_option maxHeartbeats 2000000 in
theorem kMayF_any (p : KP) (w : World) : Calls Tryz.prog 112 #[kpV p] w fun e w' => e = .returned (.bool (p.s.isEmpty && p.n == 0)) ∧ Keeps w w' [] := by
 obtain ⟨k, n, f, s⟩ := p
 unfold kpV strV
 have hsf := @run_store_float Tryz.prog
 rcases s with _ | ⟨b, s⟩
 ·go_enter Tryz.func112, Tryz.ntmps112
  go_wp2
  go_ret
  exact ⟨by simp, Keeps.alloc _ _⟩
 ·go_enter Tryz.func112, Tryz.ntmps112
  go_wp2
  go_ret
  exact ⟨by simp, Keeps.alloc _ _⟩
set_option maxRecDepth 100000 in
set_option maxHeartbeats 2000000 in
theorem kMayT_any (p : KP) (w : World) : Calls Tryz.prog 120 #[kpV p] w fun e w' => e = .returned (.bool (p.n == 0 && fz p.f)) ∧ Keeps w w' [] := by
 obtain ⟨k, n, f, s⟩ := p
 unfold kpV strV
 have hsf := @run_store_float Tryz.prog
 have h := order_zero f
 cases hn : n == 0
 all_goals
  go_enter Tryz.func120, Tryz.ntmps120
  go_wp2
  go_ret
  exact ⟨by simp, Keeps.alloc _ _⟩
set_option maxRecDepth 100000 in
set_option maxHeartbeats 2000000 in
theorem kRawI_any (p : KP) (hp : p.Ok) (w : World) : Calls Tryz.prog 106 #[kpV p] w fun e w' => e = .returned (strV (toBE 8 (kUp p.n))) ∧ Keeps w w' [] := by
 obtain ⟨k, n, f, s⟩ := p
 have hn1 := hp.n1
 have hn2 := hp.n2
 simp only at hn1 hn2
 unfold kpV strV
 have hsf := @run_store_float Tryz.prog
 have hx := xor_up n hn1 hn2
 have HL := Lib.hid (show kUp n < 18446744073709551616 by unfold kUp; omega)
 go_enter Tryz.func106, Tryz.ntmps106
 go_wp2_with (go_at_call 107; refine (kLaid_any _ _ HL.out).mono ?_; rintro e w' ⟨rfl, hk⟩)
 go_ret
 exact ⟨rfl, (Keeps.alloc _ _).trans hk (by simp)⟩
set_option maxRecDepth 100000 in
set_option maxHeartbeats 2000000 in
theorem kRawF_any (p : KP) (hp : p.Ok) (w : World) : Calls Tryz.prog 113 #[kpV p] w fun e w' => e = .returned (strV (toBE 8 (kOf p.f))) ∧ Keeps w w' [] := by
 obtain ⟨k, n, f, s⟩ := p
 have HF := Lib.hid hp.f
 unfold kpV strV
 have hsf := @run_store_float Tryz.prog
 have HL := Lib.hid (kOf_lt f HF.out)
 go_enter Tryz.func113, Tryz.ntmps113
 go_wp2_with (first
  | (go_at_call 114; refine (kBits_any _ HF.out _).mono ?_; rintro e w' ⟨rfl, rfl⟩)
  | (go_at_call 107; refine (kLaid_any _ _ HL.out).mono ?_; rintro e w' ⟨rfl, hk⟩))
 go_ret
 exact ⟨rfl, (Keeps.alloc _ _).trans hk (by simp)⟩
end Go.Proofs.YtfglgeoookbppaaGreatDoor

namespace Go.Proofs.YtfglgeoookbppaaGreatDoor
open Go.RowKit

theorem replaceK_esc : ∀ s : List UInt8, Lib.replaceK [0] [0, 255] (Lib.count s [0]) s = kEsc s
 | [] => by rw [Lib.count_miss (by simp [Lib.index])]; rfl
 | b :: l => by
  have ih := replaceK_esc l
  by_cases h : b = 0
  ·subst h
   rw [Lib.count_cons_eq, Nat.add_comm]
   have hix : Lib.index (0 :: l) [0] = ((0 : Nat) : Int) := by rw [Lib.index]; simp [List.isPrefixOf]
   rw [Lib.replaceK_hit _ _ _ _ 0 hix]
   simp [kEsc, ih]
  ·rw [Lib.count_cons_ne b 0 l h]
   simp only [kEsc, if_neg h]
   rcases hc : Lib.count l [0] with _ | k
   ·rw [hc] at ih
    simp only [Lib.replaceK] at ih ⊢
    rw [← ih]; rfl
   ·rw [hc] at ih
    obtain ⟨j, hj⟩ := Lib.index_of_count (s := l) (old := [0]) (by omega)
    have hp : ([0] : List UInt8).isPrefixOf (b :: l) = false := by simp [List.isPrefixOf, Ne.symm h]
    have hix : Lib.index (b :: l) [0] = ((j + 1 : Nat) : Int) := by
     rw [Lib.index, hp, hj, if_neg (by simp), if_neg (by simp)]; rfl
    rw [Lib.replaceK_hit _ _ _ _ (j + 1) hix]
    rw [Lib.replaceK_hit _ _ _ _ j hj] at ih
    rw [← ih]
    simp
theorem replaceAll_esc (s : List UInt8) : Lib.replaceAll s [0] [0, 255] = kEsc s := by
 have hn : Lib.replaceNum s [0] (-1) = Lib.count s [0] := by unfold Lib.replaceNum; rw [if_pos (.inl (by decide))]
 rw [Lib.replaceAll, Lib.replace, if_neg (by decide), hn]
 exact replaceK_esc s

theorem kEsc_length (s : List UInt8) : (kEsc s).length ≤ 2 * s.length ∧ s.length ≤ (kEsc s).length := by
 induction s with
 | nil => simp [kEsc]
 | cons b l ih => simp only [kEsc, List.length_append]; split <;> simp <;> omega

theorem bytes_append (a b : List UInt8) : (⟨a.toArray⟩ : ByteArray) ++ ⟨b.toArray⟩ = ⟨(a ++ b).toArray⟩ := by
 apply ByteArray.ext
 simp

set_option maxRecDepth 100000 in
set_option maxHeartbeats 2000000 in
theorem kRawT_any (p : KP) (w : World) (hm : MaxL w) (hs : p.s.length ≤ 1000000) : Calls Tryz.prog 121 #[kpV p] w fun e w' => e = .returned (strV (kEsc p.s ++ [0, 1])) ∧ Keeps w w' [] := by
 obtain ⟨k, n, f, s⟩ := p
 unfold kpV strV
 have hsf := @run_store_float Tryz.prog
 have hc := Lib.countB_le ⟨#[0]⟩ (by decide) s.length ⟨s.toArray⟩ (by simp [ByteArray.size])
 have HC := Lib.hid (show (⟨s.toArray⟩ : ByteArray).size < 4294967281 ∧ (⟨s.toArray⟩ : ByteArray).size + Lib.countB ⟨s.toArray⟩ ⟨#[0]⟩ * (⟨#[0, 255]⟩ : ByteArray).size ≤ 140737488355328 by
  have e1 : (⟨s.toArray⟩ : ByteArray).size = s.length := by simp [ByteArray.size]
  have e2 : (⟨#[0, 255]⟩ : ByteArray).size = 2 := rfl
  simp only at hs
  rw [e1] at hc ⊢
  rw [e2]
  omega)
 have HL := Lib.hid (show ¬ 9223372036854775807 < (Lib.replaceAll s [0] [0, 255]).length + 2 by
  rw [replaceAll_esc]
  have := kEsc_length s
  simp only at hs
  omega)
 have HM := Lib.hid (show ∀ w', Keeps w w' [] → MaxL w' from fun w' hk => hm.keeps hk)
 clear hc hm hs
 go_enter Tryz.func121, Tryz.ntmps121
 go_wp2_with fail
 obtain ⟨m, hm⟩ := HM.out _ (Keeps.alloc w (.cells #[.int .i64 k, .int .i64 n, .float .f64 f, .string ⟨s.toArray⟩] 63))
 have HMM := Lib.hid hm
 clear hm
 refine (Tryz.strings_ReplaceAll _ _ _ m _ HC.out.1 HMM.out (by decide) HC.out.2).mono ?_
 rintro e w' ⟨rfl, hb⟩
 have HK := Lib.hid (Keeps.of_below hb)
 clear hb
 have hl := HL.out
 go_wp2_with fail
 go_ret
 refine ⟨?_, (Keeps.alloc _ _).trans HK.out (by simp)⟩
 rw [← replaceAll_esc, ← bytes_append]
 rfl
end Go.Proofs.YtfglgeoookbppaaGreatDoor

namespace Go.Proofs.YtfglgeoookbppaaGreatDoor
open Go.RowKit Go.Maps
open Go.WideElems (Fit rd rg pl rd_val)

/-- An element as it is. -/
def heldR (v : Value) : Option (DataW Value × List MemPlace) := some (.held v, [])

section
variable {P : Program} {k e t : TypeId} {w w' : World} {b n : Nat} {D : DataW Value}
/-- Block b is a map of at most n entries whose elements D tells. -/
abbrev HMap (w : World) (P : Program) (k : TypeId) (b n : Nat) (D : DataW Value) : Prop := w.ownsMap P k heldR b n D
theorem HMap.keep {S : List Nat} (h : HMap w P k b n D) (hk : Keeps w w' S) (hb : b ∉ S) : HMap w' P k b n D := by
 have hlt := h.lt
 obtain ⟨es, clock, hb', F, hs, hD⟩ := h
 exact ⟨es, clock, (hk.block b hlt hb).trans hb', F, hs, hD⟩

/-- An element that is there. -/
theorem HMap.there (h : HMap w P k b n D) (K : Keyed P k) (ht : P.underlying t = some (.map k e)) {z : Value} (hz : (zeroValue e).run P w = .ok z w) {key v : Value} {kl : Lit} (hkey : keyOf P k key = some kl)
  (hat : ∀ zd, D.atKey kl zd = .held v) (c : Bool) : (Instr.lookup t (.map (some b)) key c).run P w = .ok (if c then .tuple #[v, .bool true] else v) w := by
 obtain ⟨es, clock, hb, F, _, rfl⟩ := h
 rcases fit_look c K ht hz hb F hkey with ⟨_, _, h2⟩ | ⟨e0, y, _, _, hrun, hR, h2, _⟩
 ·have := h2 .nil
  rw [hat] at this
  cases this
 ·have h3 := h2 .nil
  rw [hat] at h3
  simp only [heldR, Option.some.injEq] at hR
  subst hR
  injection h3 with h3
  rw [hrun, h3]
/-- One that is not there. -/
theorem HMap.missing (h : HMap w P k b n D) (K : Keyed P k) (ht : P.underlying t = some (.map k e)) {z : Value} (hz : (zeroValue e).run P w = .ok z w) {key : Value} {kl : Lit} (hkey : keyOf P k key = some kl)
  (hat : ∀ zd, D.atKey kl zd = zd) (c : Bool) : (Instr.lookup t (.map (some b)) key c).run P w = .ok (if c then .tuple #[z, .bool false] else z) w := by
 obtain ⟨es, clock, hb, F, _, rfl⟩ := h
 rcases fit_look c K ht hz hb F hkey with ⟨hrun, _, _⟩ | ⟨e0, y, _, _, hrun, hR, h2, _⟩
 ·exact hrun
 ·have h3 := h2 .nil
  rw [hat] at h3
  simp only [heldR, Option.some.injEq] at hR
  subst hR
  cases h3

/-- A composite literal's entry, laid. -/
theorem wpList_insert_held {ops : Array Oper} {rest : List Oper} {o : Oper} {a : Act} {Q : Exit → Act → World → Prop}
  (hg : o.guard = none) (m x v : Operand) (hop : o.op = Op.insert t m x v)
  (K : Keyed P k) (ht : P.underlying t = some (.map k e)) (hm : a.eval m = .map (some b)) (hown : HMap w P k b n D) (hn : n < maxLen) (key val : Value) (kl : Lit) (hx : a.eval x = key) (hv : a.eval v = val) (hkey : keyOf P k key = some kl)
  (hK : ∀ w', HMap w' P k b (n + 1) (D.put kl (.held val)) → w.grownBy w' (some b) → wpList P ops Q rest (a.put o.dst undef) w') :
  wpList P ops Q (o :: rest) a w := by
 refine wpList_plain hg fun K' hK' => ?_
 obtain ⟨w', hrun, r1, r2⟩ := hown.update (R := heldR) K ht hn hkey (d := .held val) (ps := []) rfl
 unfold Oper.wp
 simp [execOp, hop, hm, hx, hv, hrun, Result.andThen]
 exact hK' _ _ (hK w' r1 r2)
end
end Go.Proofs.YtfglgeoookbppaaGreatDoor
