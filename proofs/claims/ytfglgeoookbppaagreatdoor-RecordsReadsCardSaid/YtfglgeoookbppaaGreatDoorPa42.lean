/- Package pigeonryref18: May, part. Plain mathematics of binary floating point: half of a number other than nought is another number. No program is named here. Plain mathematics of binary floating point: a number's bits by halving and doubling. No program is named here. Package pigeonryref18: Bits, order. Package pigeonryref18: part. -/
import Derived.Test.YtfglgeoookbppaaGreatDoorPa41
import Derived.Test.YtfglgeoookbppaaGreatDoorPa2
import Derived.Test.YtfglgeoookbppaaGreatDoorPa11
import Derived.Test.YtfglgeoookbppaaGreatDoorPa1
import Derived.Laws.FloatArith
import Derived.Laws.Cover2
import Derived.Test.YtfglgeoookbppaaGreatDoorPa12

namespace Go.Proofs.YtfglgeoookbppaaGreatDoor
open Go.RowKit

theorem isEmpty_eq (s : List UInt8) : (s == []) = s.isEmpty := by cases s <;> rfl
set_option maxRecDepth 100000 in
set_option maxHeartbeats 4000000 in
theorem refMay_any (p : KP) (w : World) : Calls Tryz.prog 82 #[kpV p] w fun e w' => e = .returned (.bool (kMay p)) ∧ Keeps w w' [] := by
 obtain ⟨k, n, f, s⟩ := p
 have t1 := strV_toList s
 have t2 := isEmpty_eq s
 have z1 := order_zero f
 obtain ⟨E, hE⟩ : ∃ b, s.isEmpty = b := ⟨_, rfl⟩
 obtain ⟨Z, hZ⟩ : ∃ b, fz f = b := ⟨_, rfl⟩
 obtain ⟨N, hN⟩ : ∃ b, (n == 0) = b := ⟨_, rfl⟩
 rw [hE] at t2
 rw [hZ] at z1
 rcases kind_cases k with rfl | rfl | rfl | ⟨h1, h2, h3⟩
 ·have HV := Lib.hid (show kMay ⟨1, n, f, s⟩ = (E && Z) by show (s.isEmpty && fz f) = _; rw [hE, hZ])
  clear hE hZ hN
  cases E <;> cases Z
  all_goals
   unfold kpV strV
   have hsf := @run_store_float Tryz.prog
   go_enter Tryz.func82, Tryz.ntmps82
   go_wp2
   go_ret
   exact ⟨by rw [HV.out]; rfl, Keeps.alloc _ _⟩
 ·have HV := Lib.hid (show kMay ⟨2, n, f, s⟩ = (E && N) by show (s.isEmpty && n == 0) = _; rw [hE, hN])
  clear hE hZ
  cases E <;> cases N
  all_goals
   unfold kpV strV
   have hsf := @run_store_float Tryz.prog
   go_enter Tryz.func82, Tryz.ntmps82
   go_wp2
   go_ret
   exact ⟨by rw [HV.out]; rfl, Keeps.alloc _ _⟩
 ·have HV := Lib.hid (show kMay ⟨3, n, f, s⟩ = (N && Z) by show (n == 0 && fz f) = _; rw [hN, hZ])
  clear hE hZ
  cases Z <;> cases N
  all_goals
   unfold kpV strV
   have hsf := @run_store_float Tryz.prog
   go_enter Tryz.func82, Tryz.ntmps82
   go_wp2
   go_ret
   exact ⟨by rw [HV.out]; rfl, Keeps.alloc _ _⟩
 ·have HV := Lib.hid (show kMay ⟨k, n, f, s⟩ = false by simp [kMay, h1, h2, h3])
  have k1 : (k == 1) = false := by simpa using h1
  have k2 : (k == 2) = false := by simpa using h2
  have k3 : (k == 3) = false := by simpa using h3
  clear hE hZ hN h1 h2 h3
  unfold kpV strV
  have hsf := @run_store_float Tryz.prog
  go_enter Tryz.func82, Tryz.ntmps82
  go_wp2
  go_ret
  exact ⟨by rw [HV.out]; rfl, Keeps.alloc _ _⟩
end Go.Proofs.YtfglgeoookbppaaGreatDoor

namespace Go.Proofs.YtfglgeoookbppaaGreatDoor
open Ieee

theorem word_pos (s : Nat) : double.word false s = s := by simp [Format.word]
theorem half_low (r : Nat) (h0 : r ≠ 0) (h : r < 2 * fB) : ∃ s, s < r ∧ double.mul r fHalf = some s := by
 have hS : r % fS = r := Nat.mod_eq_of_lt (by unfold fB fS at *; omega)
 have hm : rMag r = r := by
  unfold rMag
  split
  ·rfl
  ·unfold fB at *; omega
 have hu : rUp r = 0 := by
  unfold rUp
  split
  ·rfl
  ·unfold fB at *; omega
 have hn : fNeg r = false := by
  unfold fNeg
  rw [Nat.div_eq_of_lt (by unfold fB fS at *; omega)]
  rfl
 have hlog : r.log2 < 53 := (Nat.log2_lt h0).2 (by unfold fB at h; omega)
 have hl2 : (r * fB).log2 = r.log2 + 52 := by
  rw [show fB = 2 ^ 52 from rfl, log2_shift _ _ h0]
 have hmag : r * fB ≠ 0 := Nat.mul_ne_zero h0 (by decide)
 have hcut : Toward.even.cut false (r * fB) 53 = r / 2 + (decide (r % 2 = 1) && r / 2 % 2 == 1).toNat := by
  unfold Toward.cut
  have hg : (1 <<< min 53 ((r * fB).log2 + 2) : Nat) = 9007199254740992 := by
   rw [hl2, show min 53 (r.log2 + 52 + 2) = 53 by omega]
   rfl
  simp only [hg]
  have e1 : r * fB / 9007199254740992 = r / 2 := by unfold fB; omega
  have e2 : r * fB % 9007199254740992 = (r % 2) * 4503599627370496 := by unfold fB; omega
  rw [e1, e2]
  rcases Nat.mod_two_eq_zero_or_one r with h2 | h2
  ·rw [h2]; simp
  ·rw [h2]; simp
 refine ⟨r / 2 + (decide (r % 2 = 1) && r / 2 % 2 == 1).toNat, ?_, ?_⟩
 ·cases hb : (decide (r % 2 = 1) && r / 2 % 2 == 1)
  ·simp; omega
  ·simp at hb
   simp
   omega
 ·unfold Format.mul
  have hrd := read_num r (by rw [hS]; unfold fB fInf at *; omega)
  rw [hS, hm, hu] at hrd
  rw [hrd, read_half]
  simp only [Datum.product, Option.map_some]
  change some (double.nearest ((r / fS % 2 == 1) ^^ false) (r * fB) (-1074 + ((0 : Nat) : Int) + (-1074 + 1021))) = _
  unfold Format.nearest
  rw [if_neg hmag]
  have hfb : double.fractionBits = 52 := rfl
  simp only [d_least, d_binade, d_inf, hfb]
  have hlast : max (-1074 + ((0 : Nat) : Int) + (-1074 + 1021) + ((r * fB).log2 : Int) - ((52 : Nat) : Int)) (-1074) = -1074 := by
   rw [hl2]
   omega
  rw [hlast]
  have hneg : ((r / fS % 2 == 1) ^^ false) = false := by
   rw [Bool.xor_false]; exact hn
  rw [hneg, show (-1074 + ((0 : Nat) : Int) + (-1074 + 1021) - (-1074)).toNat = 0 from rfl, show ((-1074 : Int) - (-1074 + ((0 : Nat) : Int) + (-1074 + 1021))).toNat = 53 from rfl, Nat.shiftLeft_zero, hcut]
  rw [show ((-1074 : Int) - -1074).toNat = 0 from rfl, Nat.zero_mul, Nat.zero_add, Nat.min_eq_left (by
   have : (decide (r % 2 = 1) && r / 2 % 2 == 1).toNat ≤ 1 := by cases (decide (r % 2 = 1) && r / 2 % 2 == 1) <;> decide
   unfold fB fInf at *; omega), word_pos]
theorem half_ne (r : Nat) (h0 : r ≠ 0) (h : r < fInf) : ∃ s, s < r ∧ double.mul r fHalf = some s := by
 rcases Nat.lt_or_ge r (2 * fB) with h1 | h1
 ·exact half_low r h0 h1
 ·have hS : r % fS = r := Nat.mod_eq_of_lt (by unfold fInf fS at *; omega)
  have hn : fNeg r = false := by
   unfold fNeg
   rw [Nat.div_eq_of_lt (by unfold fInf fS at *; omega)]
   rfl
  have := mul_half r (r - fB) (by rw [hS]; exact h) (by rw [hS]; unfold dbl; rw [if_neg (by omega)]; omega)
  rw [hn, word_pos] at this
  exact ⟨_, by unfold fB at *; omega, this⟩
/-- Halving and doubling of numbers above nought. -/
theorem pos_half (E t : Nat) (hE : 2 ≤ E) (ht : t < fB) (hi : E ≤ 2046) : double.mul (E * fB + t) fHalf = some ((E - 1) * fB + t) := by
 have hS : (E * fB + t) % fS = E * fB + t := Nat.mod_eq_of_lt (by unfold fB fS at *; omega)
 have hn : fNeg (E * fB + t) = false := by
  unfold fNeg
  rw [Nat.div_eq_of_lt (by unfold fB fS at *; omega)]
  rfl
 have := mul_half (E * fB + t) ((E - 1) * fB + t) (by rw [hS]; unfold fB fInf at *; omega) (by rw [hS, dbl_norm _ _ (by omega)]; rw [show E - 1 + 1 = E by omega])
 rw [hn, word_pos] at this
 exact this
theorem pos_two (r : Nat) (h : r < r52) : double.mul r fTwo = some (dbl r) := by
 have hS : r % fS = r := Nat.mod_eq_of_lt (by unfold r52 fS at *; omega)
 have hn : fNeg r = false := by
  unfold fNeg
  rw [Nat.div_eq_of_lt (by unfold r52 fS at *; omega)]
  rfl
 have := mul_two r (by rw [hS]; unfold r52 fInf at *; omega) (by rw [hS]; unfold dbl fB r52 fInf at *; split <;> omega)
 rw [hn, hS, word_pos] at this
 exact this
end Go.Proofs.YtfglgeoookbppaaGreatDoor

namespace Go.Proofs.YtfglgeoookbppaaGreatDoor
open Ieee

def I1 (r f e : Nat) : Prop := (r < r53 ∧ f = r ∧ e = 1075) ∨ (∃ E t, t < fB ∧ 1075 ≤ e ∧ 1075 ≤ E ∧ E + (e - 1075) ≤ 2046 ∧ f = E * fB + t ∧ r = (E + (e - 1075)) * fB + t)
def I2 (r f e : Nat) : Prop := (∃ t, t < fB ∧ f = 1075 * fB + t ∧ r = e * fB + t ∧ 1 ≤ e ∧ e ≤ 2046) ∨ (∃ k, k ≤ 1074 ∧ f = dblN k r ∧ e = 1075 - k ∧ f < r53)
theorem I1_start {r : Nat} (h : r < fInf) : I1 r r 1075 := by
 rcases Nat.lt_or_ge r r53 with h1 | h1
 ·exact .inl ⟨h1, rfl, rfl⟩
 ·have hp := norm_parts (r := r) (by unfold r53 fB at *; omega) h
  refine .inr ⟨r / fB, r % fB, hp.2.2.1, by omega, ?_, by omega, hp.2.2.2, by rw [show r / fB + (1075 - 1075) = r / fB by omega]; exact hp.2.2.2⟩
  have := hp.2.2.2
  unfold fB r53 at *
  omega
theorem I1_step {r f e : Nat} (h : I1 r f e) (hf : r53 ≤ f) : ∃ f', double.mul f fHalf = some f' ∧ f' < f ∧ I1 r f' (e + 1) ∧ e ≤ 2046 := by
 rcases h with ⟨h1, h2, _⟩ | ⟨E, t, ht, he, hE, hs, hf2, hr⟩
 ·omega
 ·have hE2 : 1076 ≤ E := by unfold fB r53 at *; omega
  refine ⟨(E - 1) * fB + t, by rw [hf2]; exact pos_half E t (by omega) ht (by omega), by unfold fB at *; omega, .inr ⟨E - 1, t, ht, by omega, by omega, by omega, rfl, ?_⟩, by omega⟩
  rw [hr, show E - 1 + (e + 1 - 1075) = E + (e - 1075) by omega]
theorem I1_end {r f e : Nat} (h : I1 r f e) (hf : f < r53) : I2 r f e := by
 rcases h with ⟨h1, rfl, rfl⟩ | ⟨E, t, ht, he, hE, hs, hf2, hr⟩
 ·exact .inr ⟨0, by omega, rfl, rfl, h1⟩
 ·have hE2 : E = 1075 := by unfold fB r53 at *; omega
  subst hE2
  exact .inl ⟨t, ht, hf2, by rw [hr, show 1075 + (e - 1075) = e by omega], by omega, by omega⟩
theorem I2_step {r f e : Nat} (h : I2 r f e) (hf : f < r52) (he : 1 < e) : ∃ f', double.mul f fTwo = some f' ∧ I2 r f' (e - 1) := by
 rcases h with ⟨t, ht, hf2, _, _⟩ | ⟨k, hk, hf2, hek, _⟩
 ·unfold fB r52 at *; omega
 ·refine ⟨dbl f, pos_two f hf, .inr ⟨k + 1, by omega, by rw [hf2]; rfl, by omega, ?_⟩⟩
  unfold dbl fB r52 r53 at *
  split <;> omega
theorem dblN_norm (k E t : Nat) (h : 1 ≤ E) : dblN k (E * fB + t) = (E + k) * fB + t := by
 induction k with
 | zero => rfl
 | succ k ih => rw [dblN, ih, dbl_norm _ _ (by omega)]; rfl
theorem I2_low {r f e : Nat} (h : I2 r f e) (hf : f < r52) (he : ¬ 1 < e) (hr : r < fInf) : (double.read f).toInt .zero = some (r : Int) ∧ r < fB := by
 rcases h with ⟨t, ht, hf2, _, _⟩ | ⟨k, hk, hf2, hek, _⟩
 ·unfold fB r52 at *; omega
 ·have hk2 : k = 1074 := by omega
  rcases Nat.lt_or_ge r fB with h1 | h1
  ·refine ⟨?_, h1⟩
   rw [hf2]
   exact dblN_last k hk2 r h1
  ·exfalso
   have hp := norm_parts h1 hr
   rw [hp.2.2.2, dblN_norm _ _ _ hp.1] at hf2
   have : 1075 * fB ≤ (r / fB + k) * fB := Nat.mul_le_mul_right _ (by omega)
   have := r52_eq.1
   omega
theorem I2_high {r f e : Nat} (h : I2 r f e) (hf : r52 ≤ f) (hr : r < fInf) : ∃ t, t < fB ∧ (double.read f).toInt .zero = some ((fB + t : Nat) : Int) ∧ r = e * fB + t ∧ e ≤ 2046 := by
 rcases h with ⟨t, ht, hf2, hr2, _, he⟩ | ⟨k, hk, hf2, hek, hf3⟩
 ·exact ⟨t, ht, by rw [hf2]; exact toInt_norm t ht, hr2, he⟩
 ·rcases Nat.lt_or_ge r fB with h1 | h1
  ·have := dblN_low 1074 rfl r k h1 hk
   omega
  ·have hp := norm_parts h1 hr
   have hN : f = (r / fB + k) * fB + r % fB := by
    rw [hf2]
    conv => lhs; rw [hp.2.2.2]
    exact dblN_norm _ _ _ hp.1
   have h3 : r / fB + k = 1075 := by
    have e1 := r52_eq.1
    have e2 := r52_eq.2
    have hm := hp.2.2.1
    rcases Nat.lt_trichotomy (r / fB + k) 1075 with h4 | h4 | h4
    ·have : (r / fB + k + 1) * fB ≤ 1075 * fB := Nat.mul_le_mul_right _ (by omega)
     rw [Nat.add_mul, Nat.one_mul] at this
     omega
    ·exact h4
    ·have : 1076 * fB ≤ (r / fB + k) * fB := Nat.mul_le_mul_right _ (by omega)
     omega
   rw [h3] at hN
   refine ⟨r % fB, hp.2.2.1, by rw [hN]; exact toInt_norm _ hp.2.2.1, ?_, by omega⟩
   rw [show e = r / fB by omega]
   exact hp.2.2.2
end Go.Proofs.YtfglgeoookbppaaGreatDoor

namespace Go.Proofs.YtfglgeoookbppaaGreatDoor
open Go.RowKit Ieee

theorem pos_key (f : Nat) (h : f ≤ fInf) : fKey f = f ∧ f % fS = f := by
 have hS : f % fS = f := Nat.mod_eq_of_lt (by unfold fInf fS at *; omega)
 refine ⟨?_, hS⟩
 unfold fKey fNeg
 rw [hS, Nat.div_eq_of_lt (by unfold fInf fS at *; omega)]
 rfl
theorem pos_order (f c : Nat) (hf : f ≤ fInf) (hc : c ≤ fInf) : FloatKind.f64.format.order f c = some (compare (f : Int) (c : Int)) := by
 change double.order f c = _
 rw [order_key f c (by rw [(pos_key f hf).2]; exact hf) (by rw [(pos_key c hc).2]; exact hc), (pos_key f hf).1, (pos_key c hc).1]
theorem run_mul {x c s : Nat} (h : double.mul x c = some s) (W : World) : (binOp BinOp.mul 61 (.float .f64 x) (.float .f64 c)).run Tryz.prog W = .ok (.float .f64 s) W := run_float_arith W _ _ _ _ _ _ h
theorem run_half {x s : Nat} (h : double.mul x fHalf = some s) (W : World) : (binOp BinOp.mul 61 (.float .f64 x) (.float .f64 4602678819172646912)).run Tryz.prog W = .ok (.float .f64 s) W := run_mul h W
theorem run_two {x s : Nat} (h : double.mul x fTwo = some s) (W : World) : (binOp BinOp.mul 61 (.float .f64 x) (.float .f64 4611686018427387904)).run Tryz.prog W = .ok (.float .f64 s) W := run_mul h W
theorem run_word {x : Nat} {v : Nat} (h : (double.read x).toInt .zero = some (v : Int)) (hv : v < 18446744073709551616) (W : World) : (convert 61 70 (.float .f64 x)).run Tryz.prog W = .ok (.int .u64 (v : Int)) W := by
 refine run_convert_float_int W _ _ _ .u64 _ _ (by kernel_rfl) (by kernel_rfl) ?_
 unfold floatToIntVal
 rw [show (FloatKind.f64.decode x).toInt .zero = some (v : Int) from h]
 have h1 : IntKind.u64.min ≤ (v : Int) ∧ (v : Int) ≤ IntKind.u64.max := by
  rw [show IntKind.u64.min = 0 from rfl, show IntKind.u64.max = 18446744073709551615 from rfl]
  omega
 simp [h1]

theorem I1_lt {r f e : Nat} (h : I1 r f e) : f < fInf ∧ 1075 ≤ e ∧ e ≤ 2046 := by
 rcases h with ⟨h1, h2, h3⟩ | ⟨E, t, ht, he, hE, hs, hf2, hr⟩
 ·unfold fInf r53 at *; omega
 ·unfold fInf fB at *; omega
theorem I2_lt {r f e : Nat} (h : I2 r f e) : f < r53 ∧ 1 ≤ e ∧ e ≤ 2046 := by
 rcases h with ⟨t, ht, h1, h2, h3⟩ | ⟨k, hk, h1, h2, h3⟩
 ·unfold fB r53 at *; omega
 ·omega
theorem pos_lt (f c : Nat) (hf : f ≤ fInf) (hc : c ≤ fInf) : (FloatKind.f64.format.order f c == some Ordering.lt) = decide (f < c) := by
 rw [pos_order f c hf hc]
 rcases Nat.lt_trichotomy f c with h | h | h
 ·rw [Int.compare_eq_lt.2 (by omega)]; simp [h]
 ·rw [h, Int.compare_eq_eq.2 rfl]; simp
 ·rw [Int.compare_eq_gt.2 (by omega)]; simp; omega
theorem pos_ge (f c : Nat) (hf : f ≤ fInf) (hc : c ≤ fInf) : (FloatKind.f64.format.order f c == some Ordering.gt || FloatKind.f64.format.order f c == some Ordering.eq) = decide (c ≤ f) := by
 rw [pos_order f c hf hc]
 rcases Nat.lt_trichotomy f c with h | h | h
 ·rw [Int.compare_eq_lt.2 (by omega)]; simp; omega
 ·rw [h, Int.compare_eq_eq.2 rfl]; simp
 ·rw [Int.compare_eq_gt.2 (by omega)]; simp; omega
def fOf : Value → Nat
 | .float _ b => b
 | _ => 0
set_option maxRecDepth 100000 in
set_option maxHeartbeats 4000000 in
theorem refBits_any (x : Nat) (hx : x < 18446744073709551616) (w : World) :
  Calls Tryz.prog 136 #[.float .f64 x] w fun e w' => e = .returned (.int .u64 (kBits x : Nat)) ∧ Keeps w w' [] := by
 have n1 := order_self_nan x
 by_cases hn : fInf < x % fS
 ·have HV := Lib.hid (show kBits x = 9221120237041090560 by unfold kBits; rw [if_pos hn])
  simp only [hn, decide_true] at n1
  go_enter Tryz.func136, Tryz.ntmps136
  go_wp2_with fail
  go_ret
  exact ⟨by rw [HV.out]; rfl, Keeps.refl _ _⟩
 ·simp only [hn, decide_false] at n1
  have z1 := order_zero x
  by_cases hz : x % fS = 0
  ·have HV := Lib.hid (show kBits x = 0 by unfold kBits; rw [if_neg hn, if_pos hz])
   rw [show fz x = true by simp [fz, hz]] at z1
   go_enter Tryz.func136, Tryz.ntmps136
   go_wp2_with fail
   go_ret
   exact ⟨by rw [HV.out]; rfl, Keeps.refl _ _⟩
  ·rw [show fz x = false by simp [fz, hz]] at z1
   have hkb : kBits x = x := by unfold kBits; rw [if_neg hn, if_neg hz]
   have l1 := order_lt x 0 (by omega) (by decide)
   have hk0 : fKey 0 = 0 := by decide
   rw [hk0] at l1
   rcases word_cases hx with ⟨c1, c2, c3⟩ | ⟨c1, c2, c3⟩
   ·have hk : fKey x = x := by unfold fKey; rw [c2, c3]; simp
    rw [show decide (fKey x < 0) = false by rw [hk]; simp] at l1
    obtain ⟨r, hr⟩ : ∃ r, r = x := ⟨_, rfl⟩
    have hr0 : r ≠ 0 := by rw [hr, ← c3]; exact hz
    have hri : r ≤ 9218868437227405312 := by rw [hr, ← c3]; unfold fInf at hn; omega
    subst hr
    have HV := Lib.hid (show kBits r = r from hkb)
    clear hn hz hkb hk hk0 c1 c2 c3 hx
    go_enter Tryz.func136, Tryz.ntmps136
    by_cases hinf : r = 9218868437227405312
    ·subst hinf
     have hmi : ∀ W, (binOp BinOp.mul 61 (.float .f64 9218868437227405312) (.float .f64 4602678819172646912)).run Tryz.prog W = .ok (.float .f64 9218868437227405312) W := fun W => run_mul (by decide +kernel) W
     have hmo : (FloatKind.f64.format.order 9218868437227405312 9218868437227405312 == some Ordering.eq) = true := by kernel_rfl
     go_wp2_with fail
     go_ret
     exact ⟨by rw [HV.out]; rfl, Keeps.refl _ _⟩
    ·have hlt : r < fInf := by unfold fInf; omega
     obtain ⟨q, hq, hmq⟩ := half_ne r hr0 hlt
     have hm1 := run_half hmq
     have ho1 : (FloatKind.f64.format.order q r == some Ordering.eq) = false := by
      rw [pos_order q r (by omega) (by omega), Int.compare_eq_lt.2 (by omega)]; rfl
     have HL := Lib.hid (And.intro hlt (And.intro hr0 (And.intro hq hri)))
     clear hq hri hr0 hlt hmq hinf
     go_wp2_with fail
     go_loopw [0, 4] (fun f e wr => ∃ f' e' : Nat, f = .float .f64 f' ∧ e = .int .u64 (e' : Nat) ∧ Hid (I1 r f' e') ∧ Keeps w wr []) (fun f _ _ => fOf f)
     case atStart => exact ⟨r, 1075, rfl, rfl, Lib.hid (I1_start HL.out.1), Keeps.refl _ _⟩
     case round =>
      obtain ⟨f, e, rfl, rfl, HI, hkp⟩ := hrel
      have HK := Lib.hid hkp
      clear hkp
      obtain ⟨b1, b2, b3⟩ := I1_lt HI.out
      have o1 := pos_ge f 4845873199050653696 (by omega) (by decide)
      by_cases hf : r53 ≤ f
      ·rw [decide_eq_true (show 4845873199050653696 ≤ f from hf)] at o1
       obtain ⟨f2, m1, m2, m3, _⟩ := I1_step HI.out hf
       have hm2 := run_half m1
       have H3 := Lib.hid m3
       clear m1 m3 hf b1
       go_wp2_with fail
       exact ⟨⟨f2, e + 1, rfl, by go_num, H3, HK.out⟩, m2⟩
      ·rw [decide_eq_false (show ¬ 4845873199050653696 ≤ f from hf)] at o1
       have H2 := Lib.hid (I1_end HI.out (by omega))
       clear hf b1 b2 HI
       go_wp2_with fail
       go_loopw [0, 4] (fun f e wr => ∃ f' e' : Nat, f = .float .f64 f' ∧ e = .int .u64 (e' : Nat) ∧ Hid (I2 r f' e') ∧ Keeps w wr []) (fun _ e _ => (intOf e).toNat)
       case atStart => exact ⟨f, e, rfl, rfl, H2, HK.out⟩
       case round =>
        clear o1 H2 HK b3
        obtain ⟨f3, e3, rfl, rfl, HI, hkp⟩ := hrel
        have HK := Lib.hid hkp
        clear hkp
        obtain ⟨b1, b2, b3⟩ := I2_lt HI.out
        have o1 := pos_lt f3 4841369599423283200 (by unfold r53 fInf at *; omega) (by decide)
        by_cases hf : f3 < r52
        ·rw [decide_eq_true (show f3 < 4841369599423283200 from hf)] at o1
         by_cases he : 1 < e3
         ·obtain ⟨f4, m1, m3⟩ := I2_step HI.out hf he
          have hm2 := run_two m1
          have H3 := Lib.hid m3
          clear m1 m3 hf b1
          go_wp2_with fail
          exact ⟨⟨f4, e3 - 1, rfl, congrArg (Value.int .u64) (by omega), H3, HK.out⟩, by simp only [intOf]; omega⟩
         ·obtain ⟨m1, m2⟩ := I2_low HI.out hf he HL.out.1
          have hcv := run_word m1 (by unfold fB at m2; omega)
          have m3 : r < 4503599627370496 := m2
          obtain rfl : e3 = 1 := by omega
          clear m1 m2 hf b1 b2 b3 he
          go_wp2_with fail
          go_ret
          exact ⟨by rw [HV.out]; exact congrArg (fun z => Ending.returned (Value.int .u64 z)) (by first | omega | (simp; done) | (simp; omega)), HK.out⟩
        ·rw [decide_eq_false (show ¬ f3 < 4841369599423283200 from hf)] at o1
         obtain ⟨t, m1, m2, m3, m4⟩ := I2_high HI.out (by omega) HL.out.1
         have hcv := run_word m2 (by unfold fB at *; omega)
         have m5 : t < 4503599627370496 := m1
         have m6 : r = e3 * 4503599627370496 + t := m3
         rw [show ((fB + t : Nat) : Int) = 4503599627370496 + (t : Int) by unfold fB; omega] at hcv
         clear m1 m2 m3 hf b1
         go_wp2_with fail
         go_ret
         exact ⟨by rw [HV.out]; exact congrArg (fun z => Ending.returned (Value.int .u64 z)) (by first | omega | (simp; done) | (simp; omega)), HK.out⟩
   ·obtain ⟨r, hr⟩ : ∃ r, x % fS = r := ⟨_, rfl⟩
    rw [hr] at hn hz
    have hk : fKey x < 0 := by unfold fKey; rw [c2, hr, if_pos rfl]; omega
    rw [decide_eq_true hk] at l1
    have hr0 : r ≠ 0 := hz
    have hri : r ≤ 9218868437227405312 := by unfold fInf at hn; omega
    have hx2 : x = 9223372036854775808 + r := by rw [← hr]; exact c3
    have hng : ∀ W : World, (Op.unary .neg (.float .f64 x)).run Tryz.prog W = .ok (.float .f64 r) W := fun W => by
     have h1 : fOpp x = r := by
      rw [fOpp_eq x hx, if_neg (by omega)]
      unfold fS
      omega
     rw [← h1]
     rfl
    have HV := Lib.hid (show kBits x = 9223372036854775808 + r by rw [hkb]; exact hx2)
    clear hn hz hkb hk hk0 c1 c2 c3 hx hx2 hr
    go_enter Tryz.func136, Tryz.ntmps136
    by_cases hinf : r = 9218868437227405312
    ·subst hinf
     have hmi : ∀ W, (binOp BinOp.mul 61 (.float .f64 9218868437227405312) (.float .f64 4602678819172646912)).run Tryz.prog W = .ok (.float .f64 9218868437227405312) W := fun W => run_mul (by decide +kernel) W
     have hmo : (FloatKind.f64.format.order 9218868437227405312 9218868437227405312 == some Ordering.eq) = true := by kernel_rfl
     go_wp2_with fail
     go_ret
     exact ⟨by rw [HV.out]; rfl, Keeps.refl _ _⟩
    ·have hlt : r < fInf := by unfold fInf; omega
     obtain ⟨q, hq, hmq⟩ := half_ne r hr0 hlt
     have hm1 := run_half hmq
     have ho1 : (FloatKind.f64.format.order q r == some Ordering.eq) = false := by
      rw [pos_order q r (by omega) (by omega), Int.compare_eq_lt.2 (by omega)]; rfl
     have HL := Lib.hid (And.intro hlt (And.intro hr0 (And.intro hq hri)))
     clear hq hri hr0 hlt hmq hinf
     go_wp2_with fail
     go_loopw [0, 4] (fun f e wr => ∃ f' e' : Nat, f = .float .f64 f' ∧ e = .int .u64 (e' : Nat) ∧ Hid (I1 r f' e') ∧ Keeps w wr []) (fun f _ _ => fOf f)
     case atStart => exact ⟨r, 1075, rfl, rfl, Lib.hid (I1_start HL.out.1), Keeps.refl _ _⟩
     case round =>
      obtain ⟨f, e, rfl, rfl, HI, hkp⟩ := hrel
      have HK := Lib.hid hkp
      clear hkp
      obtain ⟨b1, b2, b3⟩ := I1_lt HI.out
      have o1 := pos_ge f 4845873199050653696 (by omega) (by decide)
      by_cases hf : r53 ≤ f
      ·rw [decide_eq_true (show 4845873199050653696 ≤ f from hf)] at o1
       obtain ⟨f2, m1, m2, m3, _⟩ := I1_step HI.out hf
       have hm2 := run_half m1
       have H3 := Lib.hid m3
       clear m1 m3 hf b1
       go_wp2_with fail
       exact ⟨⟨f2, e + 1, rfl, by go_num, H3, HK.out⟩, m2⟩
      ·rw [decide_eq_false (show ¬ 4845873199050653696 ≤ f from hf)] at o1
       have H2 := Lib.hid (I1_end HI.out (by omega))
       clear hf b1 b2 HI
       go_wp2_with fail
       go_loopw [0, 4] (fun f e wr => ∃ f' e' : Nat, f = .float .f64 f' ∧ e = .int .u64 (e' : Nat) ∧ Hid (I2 r f' e') ∧ Keeps w wr []) (fun _ e _ => (intOf e).toNat)
       case atStart => exact ⟨f, e, rfl, rfl, H2, HK.out⟩
       case round =>
        clear o1 H2 HK b3
        obtain ⟨f3, e3, rfl, rfl, HI, hkp⟩ := hrel
        have HK := Lib.hid hkp
        clear hkp
        obtain ⟨b1, b2, b3⟩ := I2_lt HI.out
        have o1 := pos_lt f3 4841369599423283200 (by unfold r53 fInf at *; omega) (by decide)
        by_cases hf : f3 < r52
        ·rw [decide_eq_true (show f3 < 4841369599423283200 from hf)] at o1
         by_cases he : 1 < e3
         ·obtain ⟨f4, m1, m3⟩ := I2_step HI.out hf he
          have hm2 := run_two m1
          have H3 := Lib.hid m3
          clear m1 m3 hf b1
          go_wp2_with fail
          exact ⟨⟨f4, e3 - 1, rfl, congrArg (Value.int .u64) (by omega), H3, HK.out⟩, by simp only [intOf]; omega⟩
         ·obtain ⟨m1, m2⟩ := I2_low HI.out hf he HL.out.1
          have hcv := run_word m1 (by unfold fB at m2; omega)
          have m3 : r < 4503599627370496 := m2
          obtain rfl : e3 = 1 := by omega
          clear m1 m2 hf b1 b2 b3 he
          go_wp2_with fail
          go_ret
          exact ⟨by rw [HV.out]; exact congrArg (fun z => Ending.returned (Value.int .u64 z)) (by first | omega | (simp; done) | (simp; omega)), HK.out⟩
        ·rw [decide_eq_false (show ¬ f3 < 4841369599423283200 from hf)] at o1
         obtain ⟨t, m1, m2, m3, m4⟩ := I2_high HI.out (by omega) HL.out.1
         have hcv := run_word m2 (by unfold fB at *; omega)
         have m5 : t < 4503599627370496 := m1
         have m6 : r = e3 * 4503599627370496 + t := m3
         rw [show ((fB + t : Nat) : Int) = 4503599627370496 + (t : Int) by unfold fB; omega] at hcv
         clear m1 m2 m3 hf b1
         go_wp2_with fail
         go_ret
         exact ⟨by rw [HV.out]; exact congrArg (fun z => Ending.returned (Value.int .u64 z)) (by first | omega | (simp; done) | (simp; omega)), HK.out⟩
set_option maxRecDepth 100000 in
set_option maxHeartbeats 1000000 in
theorem refOrder_any (x : Nat) (hx : x < 18446744073709551616) (w : World) :
  Calls Tryz.prog 104 #[.float .f64 x] w fun e w' => e = .returned (.int .u64 (kOf x : Nat)) ∧ Keeps w w' [] := by
 have HB := Lib.hid (refBits_any x hx w)
 have hb : kBits x < 18446744073709551616 := by unfold kBits; split <;> (try split) <;> omega
 have HV := Lib.hid (show kOf x = kOrd (kBits x) from rfl)
 obtain ⟨b, hbd⟩ : ∃ b, kBits x = b := ⟨_, rfl⟩
 rw [hbd] at HB HV hb
 clear hbd hx
 by_cases h : 9223372036854775808 ≤ b
 ·have HW := Lib.hid (show kOrd b = 18446744073709551615 - b by unfold kOrd fS; rw [if_pos h])
  have h1 : (9223372036854775808 : Int) ≤ b := by omega
  have h2 : (b : Int) ≤ 18446744073709551615 := by omega
  clear h hb
  go_enter Tryz.func104, Tryz.ntmps104
  go_wp2_with fail
  refine HB.out.mono ?_
  rintro e w1 ⟨rfl, hk⟩
  have HK := Lib.hid hk
  clear hk
  go_wp2_with fail
  go_ret
  exact ⟨by rw [HV.out, HW.out]; exact congrArg (fun z => Ending.returned (Value.int .u64 z)) (by omega), HK.out⟩
 ·have HW := Lib.hid (show kOrd b = b + 9223372036854775808 by unfold kOrd fS; rw [if_neg h])
  have hge : decide ((9223372036854775808 : Int) ≤ (b : Int)) = false := by simp; omega
  have hwr : IntKind.u64.wrap ((b : Int) + 9223372036854775808) = (b : Int) + 9223372036854775808 := IntWalk.u64_in _ (by omega)
  obtain ⟨c, hc⟩ : ∃ c : Int, (b : Int) = c := ⟨_, rfl⟩
  rw [hc] at hge hwr HB
  have HC := Lib.hid hc
  clear h hb hc
  go_enter Tryz.func104, Tryz.ntmps104
  go_wp2_with fail
  refine HB.out.mono ?_
  rintro e w1 ⟨rfl, hk⟩
  have HK := Lib.hid hk
  clear hk
  go_wp2_with fail
  go_ret
  exact ⟨by rw [HV.out, HW.out]; exact congrArg (fun z => Ending.returned (Value.int .u64 z)) (by have := HC.out; omega), HK.out⟩
end Go.Proofs.YtfglgeoookbppaaGreatDoor

namespace Go.Proofs.YtfglgeoookbppaaGreatDoor
open Go.RowKit

theorem bytes_cons (k : UInt8) (T : List UInt8) : (⟨#[k]⟩ : ByteArray) ++ ⟨T.toArray⟩ = ⟨(k :: T).toArray⟩ := bytes_append [k] T
set_option maxRecDepth 100000 in
set_option maxHeartbeats 2000000 in
theorem refPart_int (n : Int) (f : Nat) (s : List UInt8) (h1 : -9223372036854775808 ≤ n) (h2 : n ≤ 9223372036854775807) (w : World) :
  Calls Tryz.prog 83 #[kpV ⟨1, n, f, s⟩] w fun e w' => e = .returned (strV (kPart ⟨1, n, f, s⟩)) ∧ Keeps w w' [] := by
 have xu := xor_up n h1 h2
 have HE := Lib.hid (fun W => refEight_any W (kUp n) (kUp_lt h2))
 obtain ⟨T, hT⟩ : ∃ T, toBE 8 (kUp n) = T := ⟨_, rfl⟩
 have hl : T.length = 8 := by rw [← hT]; exact toBE_length 8 _
 have HV := Lib.hid (show kPart ⟨1, n, f, s⟩ = 1 :: T by rw [← hT]; rfl)
 rw [hT] at HE
 have bc := Lib.hid (bytes_cons 1 T)
 clear hT h1 h2
 unfold kpV strV
 have hsf := @run_store_float Tryz.prog
 go_enter Tryz.func83, Tryz.ntmps83
 go_wp2_with fail
 refine (HE.out _).mono ?_
 rintro e w1 ⟨rfl, hk⟩
 have HK := Lib.hid hk
 clear hk
 unfold strV
 have hsz : (⟨T.toArray⟩ : ByteArray).size = 8 := by simp [ByteArray.size, hl]
 go_wp2_with fail
 go_ret
 exact ⟨by rw [HV.out, ← bc.out]; rfl, (Keeps.alloc _ _).trans HK.out (by simp)⟩
set_option maxRecDepth 100000 in
set_option maxHeartbeats 2000000 in
theorem refPart_float (n : Int) (f : Nat) (s : List UInt8) (hf : f < 18446744073709551616) (w : World) :
  Calls Tryz.prog 83 #[kpV ⟨2, n, f, s⟩] w fun e w' => e = .returned (strV (kPart ⟨2, n, f, s⟩)) ∧ Keeps w w' [] := by
 have HO := Lib.hid (fun W => refOrder_any f hf W)
 have HE := Lib.hid (fun W => refEight_any W (kOf f) (kOf_lt f hf))
 obtain ⟨T, hT⟩ : ∃ T, toBE 8 (kOf f) = T := ⟨_, rfl⟩
 have hl : T.length = 8 := by rw [← hT]; exact toBE_length 8 _
 have HV := Lib.hid (show kPart ⟨2, n, f, s⟩ = 2 :: T by rw [← hT]; rfl)
 rw [hT] at HE
 have bc := Lib.hid (bytes_cons 2 T)
 clear hT hf
 unfold kpV strV
 have hsf := @run_store_float Tryz.prog
 go_enter Tryz.func83, Tryz.ntmps83
 go_wp2_with fail
 refine (HO.out _).mono ?_
 rintro e w1 ⟨rfl, hk⟩
 have HK := Lib.hid hk
 clear hk
 go_wp2_with fail
 refine (HE.out _).mono ?_
 rintro e w2 ⟨rfl, hk⟩
 have HK2 := Lib.hid hk
 clear hk
 unfold strV
 have hsz : (⟨T.toArray⟩ : ByteArray).size = 8 := by simp [ByteArray.size, hl]
 go_wp2_with fail
 go_ret
 exact ⟨by rw [HV.out, ← bc.out]; rfl, ((Keeps.alloc _ _).trans HK.out (by simp)).trans HK2.out (by simp)⟩
theorem kEsc_app (a b : List UInt8) : kEsc (a ++ b) = kEsc a ++ kEsc b := by
 induction a with
 | nil => rfl
 | cons c a ih => simp only [List.cons_append, kEsc, ih, List.append_assoc]
theorem kEsc_take {s : List UInt8} {j : Nat} (hj : j < s.length) : kEsc (s.take (j + 1)) = kEsc (s.take j) ++ (if s[j] = 0 then [0, 255] else [s[j]]) := by
 rw [List.take_succ_eq_append_getElem hj, kEsc_app]
 simp [kEsc]
set_option maxRecDepth 100000 in
set_option maxHeartbeats 4000000 in
theorem refPart_text (n : Int) (f : Nat) (s : List UInt8) (hs : s.length ≤ 1000) (w : World) :
  Calls Tryz.prog 83 #[kpV ⟨3, n, f, s⟩] w fun e w' => e = .returned (strV (kPart ⟨3, n, f, s⟩)) ∧ Keeps w w' [] := by
 unfold kpV strV
 have hsf := @run_store_float Tryz.prog
 go_enter Tryz.func83, Tryz.ntmps83
 go_wp2_with fail
 obtain ⟨W0, hW0⟩ : ∃ W', w.alloc (.cells #[.int .i64 3, .int .i64 n, .float .f64 f, .string ⟨s.toArray⟩] 63) = W' := ⟨_, rfl⟩
 have hk0 : Keeps w W0 [] := by rw [← hW0]; exact Keeps.alloc _ _
 have hr0 : Row W0 w.heap.size 63 #[.int .i64 3, .int .i64 n, .float .f64 f, .string ⟨s.toArray⟩] := by rw [← hW0]; exact Row.new _ _ _
 rw [hW0]
 clear hW0
 have c3 : W0.cell? ⟨w.heap.size, 3, none⟩ = some (.string ⟨s.toArray⟩) := hr0.cell 3
 have HK := Lib.hid hk0
 clear hk0 hr0
 have hsl : (⟨s.toArray⟩ : ByteArray).size = s.length := by simp [ByteArray.size]
 go_loopw [3, 4] (fun v i wr => ∃ j : Nat, j ≤ s.length ∧ v = .string ⟨(3 :: kEsc (s.take j)).toArray⟩ ∧ i = .int .i64 j ∧ W0 = wr) (fun _ i _ => s.length - (intOf i).toNat)
 case atStart => exact ⟨0, by omega, rfl, rfl, rfl⟩
 case round =>
  obtain ⟨j, hj, rfl, rfl, rfl⟩ := hrel
  by_cases hjl : j < s.length
  ·have HT := Lib.hid (kEsc_take hjl)
   have hlen := (kEsc_length (s.take j)).1
   obtain ⟨R, hR⟩ : ∃ R, kEsc (s.take j) = R := ⟨_, rfl⟩
   rw [hR] at HT hlen ⊢
   have hRl : R.length ≤ 2000 := by rw [List.length_take] at hlen; omega
   obtain ⟨b, hb⟩ : ∃ b, s[j] = b := ⟨_, rfl⟩
   rw [hb] at HT
   have ex : (⟨s.toArray⟩ : ByteArray).extract j (j + 1) = ⟨#[b]⟩ := by
    apply ByteArray.ext
    rw [← hb]
    have hd : List.take 1 (List.drop j s) = [s[j]] := by rw [List.drop_eq_getElem_cons hjl]; rfl
    simp [hd]
   have ix : ∀ h, (⟨s.toArray⟩ : ByteArray)[j]'h = b := fun _ => hb
   have HX := Lib.hid (bytes_append (3 :: R) [b])
   have s1 : (⟨(3 :: R).toArray⟩ : ByteArray).size = R.length + 1 := by simp [ByteArray.size]
   have s2 : (⟨#[b]⟩ : ByteArray).size = 1 := rfl
   clear hlen hR
   by_cases hb0 : b = 0
   ·subst hb0
    have HY := Lib.hid (bytes_append (3 :: R ++ [0]) [255])
    have bz : (((0 : UInt8).toNat : Int) == 0) = true := rfl
    go_wp2_with fail
    refine ⟨⟨j + 1, by omega, ?_, by go_num, trivial⟩, by simp [intOf]; omega⟩
    rw [HT.out, if_pos rfl]
    have e1 : (⟨(3 :: R).toArray⟩ : ByteArray) ++ ⟨#[0]⟩ = ⟨(3 :: R ++ [0]).toArray⟩ := HX.out
    have e2 : (⟨(3 :: R ++ [0]).toArray⟩ : ByteArray) ++ ⟨#[255]⟩ = ⟨(3 :: R ++ [0] ++ [255]).toArray⟩ := HY.out
    rw [e1, e2]
    simp
   ·have bz2 : ¬ b.toNat = 0 := fun h => hb0 (UInt8.toNat_inj.1 h)
    have bz : ((b.toNat : Int) == 0) = false := by
     rw [beq_eq_false_iff_ne]; omega
    go_wp2_with fail
    refine ⟨⟨j + 1, by omega, ?_, by go_num, trivial⟩, by simp [intOf]; omega⟩
    rw [HT.out, if_neg hb0]
    exact congrArg Value.string HX.out
  ·obtain rfl : j = s.length := by omega
   rw [List.take_length]
   have HX := Lib.hid (bytes_append (3 :: kEsc s) [0, 1])
   have hlen := (kEsc_length s).1
   have s1 : (⟨(3 :: kEsc s).toArray⟩ : ByteArray).size = (kEsc s).length + 1 := by simp [ByteArray.size]
   have HV := Lib.hid (show kPart ⟨3, n, f, s⟩ = 3 :: (kEsc s ++ [0, 1]) from rfl)
   go_wp2_with fail
   go_ret
   exact ⟨by rw [HV.out]; exact congrArg (fun z => Ending.returned (Value.string z)) HX.out, HK.out⟩
end Go.Proofs.YtfglgeoookbppaaGreatDoor
