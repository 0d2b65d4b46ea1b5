/- Plain mathematics of binary floating point: half of a number other than nought is another number. No program is named here. Plain mathematics of binary floating point: a number's bits by halving and doubling. No program is named here. -/
import Derived.Test.YtckmlmedhchpaaaDoorPa9

namespace Go.Proofs.YtckmlmedhchpaaaDoor
open Ieee

theorem word_pos (s : Nat) : double.word false s = s := by simp [Format.word]
theorem half_low (r : Nat) (h0 : r ≠ 0) (h : r < 2 * fB) : ∃ s, s < r ∧ double.mul r fHalf = some s := by
  have hS : r % fS = r := Nat.mod_eq_of_lt (by unfold fB fS at *; omega)
  have hm : rMag r = r := by
    unfold rMag
    split
    · rfl
    · unfold fB at *; omega
  have hu : rUp r = 0 := by
    unfold rUp
    split
    · rfl
    · unfold fB at *; omega
  have hn : fNeg r = false := by
    unfold fNeg
    rw [Nat.div_eq_of_lt (by unfold fB fS at *; omega)]
    rfl
  have hlog : r.log2 < 53 := (Nat.log2_lt h0).2 (by unfold fB at h; omega)
  have hl2 : (r * fB).log2 = r.log2 + 52 := by
    rw [show fB = 2 ^ 52 from rfl, log2_shift _ _ h0]
  have hmag : r * fB ≠ 0 := Nat.mul_ne_zero h0 (by decide)
  have hcut : Toward.even.cut false (r * fB) 53 = r / 2 + (decide (r % 2 = 1) && r / 2 % 2 == 1).toNat := by
    unfold Toward.cut
    have hg : (1 <<< min 53 ((r * fB).log2 + 2) : Nat) = 9007199254740992 := by
      rw [hl2, show min 53 (r.log2 + 52 + 2) = 53 by omega]
      rfl
    simp only [hg]
    have e1 : r * fB / 9007199254740992 = r / 2 := by unfold fB; omega
    have e2 : r * fB % 9007199254740992 = (r % 2) * 4503599627370496 := by unfold fB; omega
    rw [e1, e2]
    rcases Nat.mod_two_eq_zero_or_one r with h2 | h2
    · rw [h2]; simp
    · rw [h2]; simp
  refine ⟨r / 2 + (decide (r % 2 = 1) && r / 2 % 2 == 1).toNat, ?_, ?_⟩
  · cases hb : (decide (r % 2 = 1) && r / 2 % 2 == 1)
    · simp; omega
    · simp at hb
      simp
      omega
  · unfold Format.mul
    have hrd := read_num r (by rw [hS]; unfold fB fInf at *; omega)
    rw [hS, hm, hu] at hrd
    rw [hrd, read_half]
    simp only [Datum.product, Option.map_some]
    change some (double.nearest ((r / fS % 2 == 1) ^^ false) (r * fB) (-1074 + ((0 : Nat) : Int) + (-1074 + 1021))) = _
    unfold Format.nearest
    rw [if_neg hmag]
    have hfb : double.fractionBits = 52 := rfl
    simp only [d_least, d_binade, d_inf, hfb]
    have hlast : max (-1074 + ((0 : Nat) : Int) + (-1074 + 1021) + ((r * fB).log2 : Int) - ((52 : Nat) : Int)) (-1074) = -1074 := by
      rw [hl2]
      omega
    rw [hlast]
    have hneg : ((r / fS % 2 == 1) ^^ false) = false := by
      rw [Bool.xor_false]; exact hn
    rw [hneg, show (-1074 + ((0 : Nat) : Int) + (-1074 + 1021) - (-1074)).toNat = 0 from rfl, show ((-1074 : Int) - (-1074 + ((0 : Nat) : Int) + (-1074 + 1021))).toNat = 53 from rfl, Nat.shiftLeft_zero, hcut]
    rw [show ((-1074 : Int) - -1074).toNat = 0 from rfl, Nat.zero_mul, Nat.zero_add, Nat.min_eq_left (by
      have : (decide (r % 2 = 1) && r / 2 % 2 == 1).toNat ≤ 1 := by cases (decide (r % 2 = 1) && r / 2 % 2 == 1) <;> decide
      unfold fB fInf at *; omega), word_pos]
theorem half_ne (r : Nat) (h0 : r ≠ 0) (h : r < fInf) : ∃ s, s < r ∧ double.mul r fHalf = some s := by
  rcases Nat.lt_or_ge r (2 * fB) with h1 | h1
  · exact half_low r h0 h1
  · have hS : r % fS = r := Nat.mod_eq_of_lt (by unfold fInf fS at *; omega)
    have hn : fNeg r = false := by
      unfold fNeg
      rw [Nat.div_eq_of_lt (by unfold fInf fS at *; omega)]
      rfl
    have := mul_half r (r - fB) (by rw [hS]; exact h) (by rw [hS]; unfold dbl; rw [if_neg (by omega)]; omega)
    rw [hn, word_pos] at this
    exact ⟨_, by unfold fB at *; omega, this⟩
/-- Halving and doubling of numbers above nought. -/
theorem pos_half (E t : Nat) (hE : 2 ≤ E) (ht : t < fB) (hi : E ≤ 2046) : double.mul (E * fB + t) fHalf = some ((E - 1) * fB + t) := by
  have hS : (E * fB + t) % fS = E * fB + t := Nat.mod_eq_of_lt (by unfold fB fS at *; omega)
  have hn : fNeg (E * fB + t) = false := by
    unfold fNeg
    rw [Nat.div_eq_of_lt (by unfold fB fS at *; omega)]
    rfl
  have := mul_half (E * fB + t) ((E - 1) * fB + t) (by rw [hS]; unfold fB fInf at *; omega) (by rw [hS, dbl_norm _ _ (by omega)]; rw [show E - 1 + 1 = E by omega])
  rw [hn, word_pos] at this
  exact this
theorem pos_two (r : Nat) (h : r < r52) : double.mul r fTwo = some (dbl r) := by
  have hS : r % fS = r := Nat.mod_eq_of_lt (by unfold r52 fS at *; omega)
  have hn : fNeg r = false := by
    unfold fNeg
    rw [Nat.div_eq_of_lt (by unfold r52 fS at *; omega)]
    rfl
  have := mul_two r (by rw [hS]; unfold r52 fInf at *; omega) (by rw [hS]; unfold dbl fB r52 fInf at *; split <;> omega)
  rw [hn, hS, word_pos] at this
  exact this
end Go.Proofs.YtckmlmedhchpaaaDoor

namespace Go.Proofs.YtckmlmedhchpaaaDoor
open Ieee

def I1 (r f e : Nat) : Prop := (r < r53 ∧ f = r ∧ e = 1075) ∨ (∃ E t, t < fB ∧ 1075 ≤ e ∧ 1075 ≤ E ∧ E + (e - 1075) ≤ 2046 ∧ f = E * fB + t ∧ r = (E + (e - 1075)) * fB + t)
def I2 (r f e : Nat) : Prop := (∃ t, t < fB ∧ f = 1075 * fB + t ∧ r = e * fB + t ∧ 1 ≤ e ∧ e ≤ 2046) ∨ (∃ k, k ≤ 1074 ∧ f = dblN k r ∧ e = 1075 - k ∧ f < r53)
theorem I1_start {r : Nat} (h : r < fInf) : I1 r r 1075 := by
  rcases Nat.lt_or_ge r r53 with h1 | h1
  · exact .inl ⟨h1, rfl, rfl⟩
  · have hp := norm_parts (r := r) (by unfold r53 fB at *; omega) h
    refine .inr ⟨r / fB, r % fB, hp.2.2.1, by omega, ?_, by omega, hp.2.2.2, by rw [show r / fB + (1075 - 1075) = r / fB by omega]; exact hp.2.2.2⟩
    have := hp.2.2.2
    unfold fB r53 at *
    omega
theorem I1_step {r f e : Nat} (h : I1 r f e) (hf : r53 ≤ f) : ∃ f', double.mul f fHalf = some f' ∧ f' < f ∧ I1 r f' (e + 1) ∧ e ≤ 2046 := by
  rcases h with ⟨h1, h2, _⟩ | ⟨E, t, ht, he, hE, hs, hf2, hr⟩
  · omega
  · have hE2 : 1076 ≤ E := by unfold fB r53 at *; omega
    refine ⟨(E - 1) * fB + t, by rw [hf2]; exact pos_half E t (by omega) ht (by omega), by unfold fB at *; omega, .inr ⟨E - 1, t, ht, by omega, by omega, by omega, rfl, ?_⟩, by omega⟩
    rw [hr, show E - 1 + (e + 1 - 1075) = E + (e - 1075) by omega]
theorem I1_end {r f e : Nat} (h : I1 r f e) (hf : f < r53) : I2 r f e := by
  rcases h with ⟨h1, rfl, rfl⟩ | ⟨E, t, ht, he, hE, hs, hf2, hr⟩
  · exact .inr ⟨0, by omega, rfl, rfl, h1⟩
  · have hE2 : E = 1075 := by unfold fB r53 at *; omega
    subst hE2
    exact .inl ⟨t, ht, hf2, by rw [hr, show 1075 + (e - 1075) = e by omega], by omega, by omega⟩
theorem I2_step {r f e : Nat} (h : I2 r f e) (hf : f < r52) (he : 1 < e) : ∃ f', double.mul f fTwo = some f' ∧ I2 r f' (e - 1) := by
  rcases h with ⟨t, ht, hf2, _, _⟩ | ⟨k, hk, hf2, hek, _⟩
  · unfold fB r52 at *; omega
  · refine ⟨dbl f, pos_two f hf, .inr ⟨k + 1, by omega, by rw [hf2]; rfl, by omega, ?_⟩⟩
    unfold dbl fB r52 r53 at *
    split <;> omega
theorem dblN_norm (k E t : Nat) (h : 1 ≤ E) : dblN k (E * fB + t) = (E + k) * fB + t := by
  induction k with
  | zero => rfl
  | succ k ih => rw [dblN, ih, dbl_norm _ _ (by omega)]; rfl
theorem I2_low {r f e : Nat} (h : I2 r f e) (hf : f < r52) (he : ¬ 1 < e) (hr : r < fInf) : (double.read f).toInt .zero = some (r : Int) ∧ r < fB := by
  rcases h with ⟨t, ht, hf2, _, _⟩ | ⟨k, hk, hf2, hek, _⟩
  · unfold fB r52 at *; omega
  · have hk2 : k = 1074 := by omega
    rcases Nat.lt_or_ge r fB with h1 | h1
    · refine ⟨?_, h1⟩
      rw [hf2]
      exact dblN_last k hk2 r h1
    · exfalso
      have hp := norm_parts h1 hr
      rw [hp.2.2.2, dblN_norm _ _ _ hp.1] at hf2
      have : 1075 * fB ≤ (r / fB + k) * fB := Nat.mul_le_mul_right _ (by omega)
      have := r52_eq.1
      omega
theorem I2_high {r f e : Nat} (h : I2 r f e) (hf : r52 ≤ f) (hr : r < fInf) : ∃ t, t < fB ∧ (double.read f).toInt .zero = some ((fB + t : Nat) : Int) ∧ r = e * fB + t ∧ e ≤ 2046 := by
  rcases h with ⟨t, ht, hf2, hr2, _, he⟩ | ⟨k, hk, hf2, hek, hf3⟩
  · exact ⟨t, ht, by rw [hf2]; exact toInt_norm t ht, hr2, he⟩
  · rcases Nat.lt_or_ge r fB with h1 | h1
    · have := dblN_low 1074 rfl r k h1 hk
      omega
    · have hp := norm_parts h1 hr
      have hN : f = (r / fB + k) * fB + r % fB := by
        rw [hf2]
        conv => lhs; rw [hp.2.2.2]
        exact dblN_norm _ _ _ hp.1
      have h3 : r / fB + k = 1075 := by
        have e1 := r52_eq.1
        have e2 := r52_eq.2
        have hm := hp.2.2.1
        rcases Nat.lt_trichotomy (r / fB + k) 1075 with h4 | h4 | h4
        · have : (r / fB + k + 1) * fB ≤ 1075 * fB := Nat.mul_le_mul_right _ (by omega)
          rw [Nat.add_mul, Nat.one_mul] at this
          omega
        · exact h4
        · have : 1076 * fB ≤ (r / fB + k) * fB := Nat.mul_le_mul_right _ (by omega)
          omega
      rw [h3] at hN
      refine ⟨r % fB, hp.2.2.1, by rw [hN]; exact toInt_norm _ hp.2.2.1, ?_, by omega⟩
      rw [show e = r / fB by omega]
      exact hp.2.2.2
end Go.Proofs.YtckmlmedhchpaaaDoor
