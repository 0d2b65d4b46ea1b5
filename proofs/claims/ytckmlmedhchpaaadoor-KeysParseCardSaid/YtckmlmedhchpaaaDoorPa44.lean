/- Plain mathematics of binary floating point: a whole number below 2^52, with 2^52 added. No program is named here. Plain mathematics of binary floating point: a number built out of its bits by halving and doubling. No program is named here. -/
import Derived.Test.YtckmlmedhchpaaaDoorPa40

namespace Go.Proofs.YtckmlmedhchpaaaDoor
open Ieee

theorem add_r52 (m : Nat) (hm : m < fB) : double.add (intRung m) r52 = some (1075 * fB + m) := by
  obtain ⟨K, hK⟩ : ∃ K, K = 1074 := ⟨_, rfl⟩
  obtain ⟨h1, h2⟩ := intRung_val (m := m) (by omega) K hK
  have hS : intRung m % fS = intRung m := Nat.mod_eq_of_lt (by unfold fInf fS at *; omega)
  have hn : (intRung m / fS % 2 == 1) = false := by rw [Nat.div_eq_of_lt (by unfold fInf fS at *; omega)]; rfl
  have hr := read_num (intRung m) (by rw [hS]; exact h2)
  rw [hS, hn] at hr
  have hq : double.read r52 = .number false fB 0 := by decide +kernel
  have hv : rVal (1075 * fB + m) = (fB + m) * 2 ^ K := rVal_at K hK m hm
  have hu : rUp (intRung m) ≤ K := by
    rcases Nat.lt_or_ge (intRung m) r52 with h | h
    · have e := r52_eq.1
      unfold rUp
      split
      · omega
      · have : intRung m / fB < 1075 := (Nat.div_lt_iff_lt_mul (by decide)).2 (by rw [← e]; exact h)
        omega
    · exfalso
      have h3 : rVal r52 ≤ rVal (intRung m) := by
        rcases Nat.eq_or_lt_of_le h with h4 | h4
        · rw [h4]; exact Nat.le_refl _
        · exact Nat.le_of_lt (rVal_lt h4)
      have h5 := rVal_at K hK 0 (by decide)
      rw [r52_eq.1, show 1075 * fB = 1075 * fB + 0 from rfl, h5, h1] at h3
      have : 0 < 2 ^ K := Nat.pow_pos (by omega)
      have := Nat.le_of_mul_le_mul_right h3 this
      omega
  have hval : rMag (intRung m) * 2 ^ rUp (intRung m) = m * 2 ^ K := h1
  generalize rMag (intRung m) = g at *
  generalize rUp (intRung m) = u at *
  unfold Format.add
  rw [hr, hq]
  have hb : min (-1074 + (u : Int)) 0 = -1074 + (u : Int) := by omega
  simp only [Datum.sum, Option.map_some, hb]
  rw [show (-1074 + (u : Int) - (-1074 + (u : Int))).toNat = 0 by omega, show ((0 : Int) - (-1074 + (u : Int))).toNat = K - u by omega]
  have ht : signed false g 0 + signed false fB (K - u) = ((g + fB * 2 ^ (K - u) : Nat) : Int) := by
    unfold signed
    simp [Nat.shiftLeft_eq]
  rw [ht]
  have hp : 0 < fB * 2 ^ (K - u) := Nat.mul_pos (by decide) (Nat.pow_pos (by omega))
  obtain ⟨T, hT⟩ : ∃ T, g + fB * 2 ^ (K - u) = T := ⟨_, rfl⟩
  rw [hT]
  have hT0 : T ≠ 0 := by omega
  have hneg : (if ((T : Nat) : Int) = 0 then (false && false) else decide (((T : Nat) : Int) < 0)) = false := by
    rw [if_neg (by omega)]
    simp
  rw [hneg]
  show some (double.nearest false ((T : Nat) : Int).natAbs (-1074 + (u : Int))) = _
  rw [Int.natAbs_natCast, nearest_exact false T (1075 * fB + m) (-1074 + (u : Int)) hT0 (by unfold fB fInf at *; omega) ?_, word_pos]
  rw [show (-1074 + (u : Int) + 1074).toNat = u by omega, show (-1074 - (-1074 + (u : Int))).toNat = 0 by omega, hv, Nat.pow_zero, Nat.mul_one, ← hT, Nat.add_mul, hval, Nat.mul_assoc, ← Nat.pow_add, show K - u + u = K by omega, Nat.add_mul, Nat.add_comm]
end Go.Proofs.YtckmlmedhchpaaaDoor

namespace Go.Proofs.YtckmlmedhchpaaaDoor
open Ieee

def H1 (r f e : Nat) : Prop := e ≤ 1075 ∧ f = dblN (1075 - e) r ∧ f < r53
theorem dbl_ge (r : Nat) : r ≤ dbl r := by unfold dbl; split <;> omega
theorem fNeg_pos {r : Nat} (h : r < fS) : fNeg r = false ∧ r % fS = r := by
  refine ⟨?_, Nat.mod_eq_of_lt h⟩
  unfold fNeg
  rw [Nat.div_eq_of_lt h]
  rfl
theorem H1_step {r f e : Nat} (h : H1 r f e) (he : e < 1075) : ∃ f', double.mul f fHalf = some f' ∧ H1 r f' (e + 1) := by
  obtain ⟨h1, h2, h3⟩ := h
  obtain ⟨k, hk⟩ : ∃ k, 1075 - e = k + 1 := ⟨1074 - e, by omega⟩
  rw [hk, dblN] at h2
  have hS := fNeg_pos (r := f) (by unfold r53 fS at *; omega)
  have := mul_half f (dblN k r) (by rw [hS.2]; unfold r53 fInf at *; omega) (by rw [hS.2]; exact h2)
  rw [hS.1, word_pos] at this
  refine ⟨_, this, by omega, by rw [show 1075 - (e + 1) = k by omega], ?_⟩
  have := dbl_ge (dblN k r)
  omega
theorem H1_end {r f : Nat} (h : H1 r f 1075) : f = r := h.2.1
theorem H1_sub (m : Nat) (hm : m < fB) : H1 m (intRung m) 1 := by
  obtain ⟨K, hK⟩ : ∃ K, K = 1074 := ⟨_, rfl⟩
  have h1 := (intRung_val (m := m) (by omega) K hK).1
  have h2 : rVal (dblN K m) = m * 2 ^ K := by rw [rVal_dblN, rVal_low hm]
  have h3 : intRung m = dblN K m := rVal_inj (h1.trans h2.symm)
  have h4 := dblN_low K hK m K hm (Nat.le_refl _)
  refine ⟨by omega, by rw [show 1075 - 1 = K by omega]; exact h3, ?_⟩
  rw [h3]
  unfold r52 r53 at *
  omega
theorem H1_norm (E m : Nat) (hE : 1 ≤ E) (hi : E ≤ 1075) (hm : m < fB) : H1 (E * fB + m) (1075 * fB + m) E := by
  refine ⟨hi, ?_, by unfold fB r53 at *; omega⟩
  have hd : ∀ k, dblN k (E * fB + m) = (E + k) * fB + m := by
    intro k
    induction k with
    | zero => rfl
    | succ k ih => rw [dblN, ih, dbl_norm _ _ (by omega)]; rfl
  rw [hd, show E + (1075 - E) = 1075 by omega]
def H2 (r f e : Nat) : Prop := ∃ D m, m < fB ∧ 1075 ≤ D ∧ 1075 ≤ e ∧ D + (e - 1075) ≤ 2046 ∧ f = D * fB + m ∧ r = (D + (e - 1075)) * fB + m
theorem H2_start (E m : Nat) (h : 1075 ≤ E) (hi : E ≤ 2046) (hm : m < fB) : H2 (E * fB + m) (1075 * fB + m) E := ⟨1075, m, hm, by omega, h, by omega, rfl, by rw [show 1075 + (E - 1075) = E by omega]⟩
theorem H2_step {r f e : Nat} (h : H2 r f e) (he : 1075 < e) : ∃ f', double.mul f fTwo = some f' ∧ H2 r f' (e - 1) := by
  obtain ⟨D, m, h1, h2, h3, h4, h5, h6⟩ := h
  have hS := fNeg_pos (r := f) (by unfold fB fS at *; omega)
  have hd : dbl f = (D + 1) * fB + m := by rw [h5]; exact dbl_norm D m (by omega)
  have := mul_two f (by rw [hS.2]; unfold fB fInf at *; omega) (by rw [hS.2, hd]; unfold fB fInf at *; omega)
  rw [hS.1, hS.2, word_pos, hd] at this
  exact ⟨_, this, D + 1, m, h1, by omega, by omega, by omega, rfl, by rw [h6, show D + 1 + (e - 1 - 1075) = D + (e - 1075) by omega]⟩
theorem H2_end {r f : Nat} (h : H2 r f 1075) : f = r := by
  obtain ⟨D, m, _, _, _, _, h5, h6⟩ := h
  rw [h5, h6, show D + (1075 - 1075) = D by omega]
end Go.Proofs.YtckmlmedhchpaaaDoor
