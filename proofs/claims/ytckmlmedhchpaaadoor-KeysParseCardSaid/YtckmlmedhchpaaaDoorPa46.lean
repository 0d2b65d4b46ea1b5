/- Package pigeonryref18: float of no number: the model draws the word. Package pigeonryref18: float of any word. -/
import Derived.Test.YtckmlmedhchpaaaDoorPa45
import Derived.Laws.NewFold

namespace Go.Proofs.YtckmlmedhchpaaaDoor
open Go.RowKit Ieee

theorem run_nan (W : World) : ∃ y, fInf < y % fS ∧ y < 18446744073709551616 ∧ (binOp BinOp.sub 32 (.float .f64 9218868437227405312) (.float .f64 9218868437227405312)).run Tryd.prog W = .ok (.float .f64 y) W.drew := by
  have h : FloatKind.f64.format.sub 9218868437227405312 9218868437227405312 = none := by kernel_rfl
  refine ⟨Question.cut (.nanBits .f64 9218868437227405312 9218868437227405312) (W.tape W.drawn (.nanBits .f64 9218868437227405312 9218868437227405312)), ?_, ?_, ?_⟩
  · have hc : ∀ t : Nat, 9218868437227405312 < (t % 2 * 9223372036854775808 + 9218868437227405312 + 1 + t / 2 % 4503599627370495) % 9223372036854775808 := fun t => by
      have ha : t % 2 = 0 ∨ t % 2 = 1 := by omega
      have hb : t / 2 % 4503599627370495 < 4503599627370495 := Nat.mod_lt _ (by decide)
      generalize t / 2 % 4503599627370495 = b at *
      rcases ha with ha | ha <;> rw [ha] <;> omega
    exact hc _
  · unfold Question.cut
    simp only
    omega
  · simp [binOp, Op.floatArith, h, run_choose_drew, Question.forced]
set_option maxRecDepth 100000 in
set_option maxHeartbeats 4000000 in
theorem refFloat_nan (N : Int) (m : Nat) (w : World) (hE : (IntKind.u64.wrap (N.tdiv 4503599627370496)).tmod 2048 = 2047) (hM : N.tmod 4503599627370496 = (m : Int)) (hm : m ≠ 0) (hm2 : m < fB) :
    Calls Tryd.prog 55 #[.int .u64 N] w fun x w' => ∃ y, fInf < y % fS ∧ y < 18446744073709551616 ∧ x = .returned (.float .f64 y) ∧ Keeps w w' [] := by
  have hcv := of_word (m := m) (by omega)
  have hmu : ∀ W, (binOp BinOp.mul 32 (.float .f64 9214871658872686752) (.float .f64 9214871658872686752)).run Tryd.prog W = .ok (.float .f64 9218868437227405312) W := fun W => run_mul (by decide +kernel) W
  obtain ⟨y, hy1, hy2, hsub⟩ := run_nan w
  have HY := Lib.hid (And.intro hy1 hy2)
  have h0 : ((m : Int) != 0) = true := by simp [hm]
  obtain ⟨g0, hg0⟩ : ∃ f, intRung m = f := ⟨_, rfl⟩
  rw [hg0] at hcv
  clear hy1 hy2 hm hm2 hg0
  go_enter Tryd.func55, Tryd.ntmps55
  go_wp2_with fail
  go_ret
  exact ⟨y, HY.out.1, HY.out.2, rfl, Keeps.drew w⟩
end Go.Proofs.YtckmlmedhchpaaaDoor

namespace Go.Proofs.YtckmlmedhchpaaaDoor
open Go.RowKit Ieee

theorem word_fields (x : Nat) (hx : x < 18446744073709551616) : (IntKind.u64.wrap ((x : Int).tdiv 4503599627370496)).tmod 2048 = ((x / 4503599627370496 % 2048 : Nat) : Int) ∧ (x : Int).tmod 4503599627370496 = ((x % 4503599627370496 : Nat) : Int) := by
  have h1 : (x : Int).tdiv 4503599627370496 = ((x / 4503599627370496 : Nat) : Int) := rfl
  have h2 : IntKind.u64.wrap ((x / 4503599627370496 : Nat) : Int) = ((x / 4503599627370496 : Nat) : Int) := IntWalk.u64_in _ (by omega)
  rw [h1, h2]
  exact ⟨rfl, rfl⟩
theorem sgnW_word (x r : Nat) (hx : x < 18446744073709551616) (hr : x % fS = r) : sgnW (decide ((9223372036854775808 : Int) ≤ (x : Int))) r = x := by
  unfold sgnW
  by_cases h : (9223372036854775808 : Int) ≤ (x : Int)
  · rw [decide_eq_true h, if_pos rfl, fOpp_eq r (by unfold fS at hr; omega), if_pos (by unfold fS at *; omega)]
    unfold fS at *
    omega
  · rw [decide_eq_false h, if_neg (by decide)]
    unfold fS at *
    omega
theorem refFloat_any (x : Nat) (hx : x < 18446744073709551616) (w : World) :
    Calls Tryd.prog 55 #[.int .u64 (x : Int)] w fun e w' => ∃ y, e = .returned (.float .f64 y) ∧ Keeps w w' [] ∧ y < 18446744073709551616 ∧ (x % fS ≤ fInf → y = x) ∧ (fInf < x % fS → fInf < y % fS) := by
  obtain ⟨hE, hM⟩ := word_fields x hx
  obtain ⟨e, he⟩ : ∃ e, x / 4503599627370496 % 2048 = e := ⟨_, rfl⟩
  obtain ⟨m, hm⟩ : ∃ m, x % 4503599627370496 = m := ⟨_, rfl⟩
  rw [he] at hE
  rw [hm] at hM
  have hmB : m < fB := by unfold fB; omega
  have hr : x % fS = e * fB + m := by unfold fS fB; omega
  have hs := sgnW_word x _ hx hr
  have heB : e < 2048 := by omega
  have fin : e ≤ 2046 → (∀ e' w', e' = Ending.returned (.float .f64 (sgnW (decide ((9223372036854775808 : Int) ≤ (x : Int))) (e * fB + m))) ∧ Keeps w w' [] → ∃ y, e' = .returned (.float .f64 y) ∧ Keeps w w' [] ∧ y < 18446744073709551616 ∧ (x % fS ≤ fInf → y = x) ∧ (fInf < x % fS → fInf < y % fS)) := by
    intro h e' w' ⟨h1, h2⟩
    rw [hs] at h1
    exact ⟨x, h1, h2, hx, fun _ => rfl, fun g => g⟩
  by_cases h0 : e = 0
  · subst h0
    refine (refFloat_sub (x : Int) m _ w hE hM rfl hmB).mono fun e' w' h => fin (by omega) e' w' (by simpa using h)
  · by_cases h1 : e ≤ 1075
    · exact (refFloat_norm (x : Int) e m _ w hE hM rfl (by omega) h1 hmB).mono fun e' w' h => fin (by omega) e' w' h
    · by_cases h2 : e ≤ 2046
      · exact (refFloat_big (x : Int) e m _ w hE hM rfl (by omega) h2 hmB).mono fun e' w' h => fin h2 e' w' h
      · obtain rfl : e = 2047 := by omega
        by_cases hm0 : m = 0
        · subst hm0
          refine (refFloat_inf (x : Int) _ w hE hM rfl).mono fun e' w' ⟨g1, g2⟩ => ?_
          rw [show (9218868437227405312 : Nat) = 2047 * fB + 0 from rfl, hs] at g1
          exact ⟨x, g1, g2, hx, fun _ => rfl, fun g => g⟩
        · refine (refFloat_nan (x : Int) m w hE hM hm0 hmB).mono fun e' w' ⟨y, g1, g2, g3, g4⟩ => ?_
          exact ⟨y, g3, g4, g2, fun g => by unfold fInf fB at *; omega, fun _ => g1⟩
end Go.Proofs.YtckmlmedhchpaaaDoor
