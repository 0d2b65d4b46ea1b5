/- Layer 18: numbers' keys: the law of floats. -/
import Derived.Test.YtckmlmedhchpaaaDoorPa25
import Derived.Test.YtckmlmedhchpaaaDoorPa27

namespace Go.Proofs.YtckmlmedhchpaaaDoor
open Go.RowKit Ieee

theorem bLt_snoc : ∀ (l m : List UInt8) (a b : UInt8), l.length = m.length → Op.bytesLess (l ++ [a]) (m ++ [b]) = (Op.bytesLess l m || (l == m && decide (a < b)))
  | [], [], a, b, _ => by simp [Op.bytesLess]
  | x :: l, y :: m, a, b, h => by
    have ih := bLt_snoc l m a b (by simpa using h)
    simp only [List.cons_append, Op.bytesLess, ih]
    by_cases he : x = y
    · subst he
      have : ¬ x < x := UInt8.lt_irrefl x
      simp [this]
    · have h1 : (x == y) = false := by simpa using he
      have h2 : (x :: l == y :: m) = false := by simp [he]
      simp only [h1, h2, Bool.false_and, Bool.or_false]
theorem toBE_inj {k a b : Nat} (ha : a < 256 ^ k) (hb : b < 256 ^ k) (h : toBE k a = toBE k b) : a = b := by
  rw [← beN_toBE k a ha, ← beN_toBE k b hb, h]
theorem bLt_toBE : ∀ (k a b : Nat), a < 256 ^ k → b < 256 ^ k → Op.bytesLess (toBE k a) (toBE k b) = decide (a < b)
  | 0, a, b, ha, hb => by
    have : a = 0 := by simpa using ha
    have : b = 0 := by simpa using hb
    subst a b
    rfl
  | k + 1, a, b, ha, hb => by
    rw [Nat.pow_succ] at ha hb
    have ih := bLt_toBE k (a / 256) (b / 256) (by omega) (by omega)
    show Op.bytesLess (toBE k (a / 256) ++ [UInt8.ofNat (a % 256)]) (toBE k (b / 256) ++ [UInt8.ofNat (b % 256)]) = _
    rw [bLt_snoc _ _ _ _ (by rw [toBE_length, toBE_length]), ih]
    have hl : decide (UInt8.ofNat (a % 256) < UInt8.ofNat (b % 256)) = decide (a % 256 < b % 256) := by
      congr 1
      rw [UInt8.lt_iff_toNat_lt, UInt8.toNat_ofNat', UInt8.toNat_ofNat']
      simp
    rw [hl]
    have he : (toBE k (a / 256) == toBE k (b / 256)) = decide (a / 256 = b / 256) := by
      rw [Bool.eq_iff_iff]
      simp only [beq_iff_eq, decide_eq_true_eq]
      exact ⟨fun h => toBE_inj (by omega) (by omega) h, fun h => by rw [h]⟩
    rw [he, Bool.eq_iff_iff]
    simp only [Bool.or_eq_true, Bool.and_eq_true, decide_eq_true_eq]
    omega

/-- The opposite number's word. -/
def fOpp (x : Nat) : Nat := Op.negFloat .f64 x
theorem fOpp_eq (x : Nat) (h : x < 18446744073709551616) : fOpp x = if x < fS then x + fS else x - fS := by
  have h1 := xor_high x h
  have h2 := u64_xor_nat x 9223372036854775808 h (by omega)
  rw [show ((9223372036854775808 : Nat) : Int) = 9223372036854775808 from rfl, h1] at h2
  have h3 : fOpp x = x ^^^ 9223372036854775808 := rfl
  rw [h3]
  omega
theorem fOpp_lt (x : Nat) (h : x < 18446744073709551616) : fOpp x < 18446744073709551616 := by
  rw [fOpp_eq x h]
  unfold fS
  split <;> omega
theorem fOpp_mod (x : Nat) (h : x < 18446744073709551616) : fOpp x % fS = x % fS := by
  rw [fOpp_eq x h]
  unfold fS
  split <;> omega
theorem fOpp_key (x : Nat) (h : x < 18446744073709551616) : fKey (fOpp x) = - fKey x := by
  have h0 := fOpp_mod x h
  rcases word_cases h with ⟨h1, h2, h3⟩ | ⟨h1, h2, h3⟩
  · have h4 : fNeg (fOpp x) = true := by
      rw [fOpp_eq x h, if_pos h1]
      rcases word_cases (w := x + fS) (by unfold fS at *; omega) with ⟨g1, _, _⟩ | ⟨_, g2, _⟩
      · omega
      · exact g2
    unfold fKey
    rw [h0, h2, h4]
    simp
  · have h4 : fNeg (fOpp x) = false := by
      rw [fOpp_eq x h, if_neg (by omega)]
      rcases word_cases (w := x - fS) (by omega) with ⟨_, g2, _⟩ | ⟨g1, _, _⟩
      · exact g2
      · unfold fS at *; omega
    unfold fKey
    rw [h0, h2, h4]
    simp
theorem kBits_whole (x : Nat) : kBits (wholeW x) = kBits x := by
  by_cases h : fInf < x % fS
  · rw [wholeW_nan x h]
  · rw [wholeW_key x (by omega)]
    by_cases hz : x % fS = 0
    · rw [if_pos hz]
      unfold kBits
      rw [if_neg (by decide), if_pos (by decide), if_neg h, if_pos hz]
    · rw [if_neg hz]
theorem kOf_whole (x : Nat) : kOf (wholeW x) = kOf x := by unfold kOf; rw [kBits_whole]
/-- A number's key. -/
def fKeyB (x : Nat) : List UInt8 := 2 :: toBE 8 (kOf x)
theorem kKey_float (x : Nat) : kErr [⟨2, 0, wholeW x, []⟩] = 0 ∧ kKey [⟨2, 0, wholeW x, []⟩] = fKeyB x := by
  have h1 : kErr [⟨2, 0, wholeW x, []⟩] = 0 := by
    unfold kErr
    rw [if_pos (by simp [kMay]), if_neg (by simp), if_neg]
    simp [kRaw, kPart, kTail, toBE_len8]
  refine ⟨h1, ?_⟩
  unfold kKey
  rw [if_pos h1]
  simp [kRaw, kPart, kTail, kOf_whole, fKeyB]
theorem fKeyB_lt (x y : Nat) (hx : x < 18446744073709551616) (hy : y < 18446744073709551616) : Op.bytesLess (fKeyB x) (fKeyB y) = decide (kOf x < kOf y) := by
  have := bLt_toBE 8 (kOf x) (kOf y) (kOf_lt x hx) (kOf_lt y hy)
  simp [fKeyB, Op.bytesLess, this]
theorem fKeyB_eq (x y : Nat) (hx : x < 18446744073709551616) (hy : y < 18446744073709551616) : (fKeyB x == fKeyB y) = decide (kOf x = kOf y) := by
  rw [Bool.eq_iff_iff]
  simp only [beq_iff_eq, decide_eq_true_eq, fKeyB, List.cons.injEq, true_and]
  exact ⟨fun h => toBE_inj (kOf_lt x hx) (kOf_lt y hy) h, fun h => by rw [h]⟩
theorem order_lt (x y : Nat) (nx : x % fS ≤ fInf) (ny : y % fS ≤ fInf) : (FloatKind.f64.format.order x y == some Ordering.lt) = decide (fKey x < fKey y) := by
  change (double.order x y == some Ordering.lt) = _
  rw [order_key x y nx ny]
  rcases Int.lt_trichotomy (fKey x) (fKey y) with h | h | h
  · rw [Int.compare_eq_lt.2 h]; simp [h]
  · rw [h, Int.compare_eq_eq.2 rfl]; simp
  · rw [Int.compare_eq_gt.2 h]; simp; omega
theorem order_eq (x y : Nat) (nx : x % fS ≤ fInf) (ny : y % fS ≤ fInf) : (FloatKind.f64.format.order x y == some Ordering.eq) = decide (fKey x = fKey y) := by
  change (double.order x y == some Ordering.eq) = _
  rw [order_key x y nx ny]
  rcases Int.lt_trichotomy (fKey x) (fKey y) with h | h | h
  · rw [Int.compare_eq_lt.2 h]; simp; omega
  · rw [h, Int.compare_eq_eq.2 rfl]; simp
  · rw [Int.compare_eq_gt.2 h]; simp; omega

theorem kFloat_call (x : Nat) (w : World) : Calls Tryd.prog 16 #[.float .f64 x] w fun e w' => e = .returned (.agg #[.int .i64 2, .int .i64 0, .float .f64 (wholeW x), .string ⟨#[]⟩]) ∧ Keeps w w' [] := kFloat_any x w
theorem kFloatRaw (x : Nat) (hx : x < 18446744073709551616) (w : World) (hM : MaxL w) :
    Calls Tryd.prog 14 #[.slice (some ⟨w.heap.size, 0, none⟩) 1 1] (w.alloc (.cells #[.int .i64 2, .int .i64 0, .float .f64 (wholeW x), .string ⟨#[]⟩] 34)) fun e w' =>
      e = .returned (.tuple #[.string ⟨(fKeyB x).toArray⟩, .int .i64 0]) ∧ Keeps w w' [] := by
  refine (kRaw_call w ⟨2, 0, wholeW x, []⟩ (by constructor <;> simp [wholeW_lt x hx]) hM (by simp)).mono ?_
  rintro e w' ⟨rfl, hk⟩
  obtain ⟨h1, h2⟩ := kKey_float x
  exact ⟨by rw [h1, h2]; rfl, hk⟩

set_option maxRecDepth 100000 in
set_option maxHeartbeats 4000000 in
theorem keysFloats_any (x y : Nat) (hx : x < 18446744073709551616) (hy : y < 18446744073709551616) (w : World) (hM : MaxL w) :
    Calls Tryd.prog 5 #[.float .f64 x, .float .f64 y] w fun e w' => e = .returned (.bool true) ∧ Keeps w w' [] := by
  have hng : ∀ (z : Nat) (W : World), (Op.unary .neg (.float .f64 z)).run Tryd.prog W = .ok (.float .f64 (fOpp z)) W := fun _ _ => rfl
  have HX := Lib.hid (And.intro hx (And.intro hy (And.intro (fOpp_lt x hx) (fOpp_lt y hy))))
  have HMX := Lib.hid (show ∀ W, Keeps w W [] → MaxL W from fun W h => hM.keeps h)
  have HM := Lib.hid (Keeps.refl w [])
  have n1 := order_self_nan x
  have n2 := order_self_nan y
  have tA := strV_toList (fKeyB x)
  have tB := strV_toList (fKeyB y)
  have tC := strV_toList (fKeyB (fOpp x))
  have tD := strV_toList (fKeyB (fOpp y))
  by_cases hn : fInf < x % fS ∨ fInf < y % fS
  · have hAB := fKeyB_lt x y hx hy
    have hBA := fKeyB_lt y x hy hx
    have f1 : decide (kOf x < kOf y) = !decide (fInf < x % fS) := by
      by_cases h1 : fInf < x % fS
      · have g1 := kOrd_nan h1
        have : ¬ kOf x < kOf y := by
          unfold kOf
          by_cases h2 : fInf < y % fS
          · rw [kOrd_nan h1, kOrd_nan h2]; omega
          · have := kOrd_nan_lt hy (by omega) h1; omega
        simp [h1, this]
      · have h2 : fInf < y % fS := by omega
        have : kOf x < kOf y := kOrd_nan_lt hx (by omega) h2
        simp [h1, this]
    have f2 : decide (kOf y < kOf x) = !decide (fInf < y % fS) := by
      by_cases h1 : fInf < y % fS
      · have : ¬ kOf y < kOf x := by
          unfold kOf
          by_cases h2 : fInf < x % fS
          · rw [kOrd_nan h1, kOrd_nan h2]; omega
          · have := kOrd_nan_lt hx (by omega) h1; omega
        simp [h1, this]
      · have h2 : fInf < x % fS := by omega
        have : kOf y < kOf x := kOrd_nan_lt hy (by omega) h2
        simp [h1, this]
    rw [f1] at hAB
    rw [f2] at hBA
    have hor : (decide (fInf < x % fS) || decide (fInf < y % fS)) = true := by simpa using hn
    obtain ⟨N1, hN1⟩ : ∃ N1, decide (fInf < x % fS) = N1 := ⟨_, rfl⟩
    obtain ⟨N2, hN2⟩ : ∃ N2, decide (fInf < y % fS) = N2 := ⟨_, rfl⟩
    rw [hN1] at n1 hAB hor
    rw [hN2] at n2 hBA hor
    clear f1 f2 hN1 hN2 hn hx hy hM
    cases N1 <;> cases N2
    · cases hor
    all_goals
      clear hor
      simp only [Bool.not_true, Bool.not_false] at hAB hBA
      go_enter Tryd.func5, Tryd.ntmps5
      go_wp2_with fail
      refine (kFloat_call _ _).mono ?_
      rintro e w1 ⟨rfl, hk⟩
      have H1 := Lib.hid (HM.out.trans hk (by simp))
      have HM1 := Lib.hid (HMX.out _ H1.out)
      clear hk
      go_wp2_with fail
      refine (kFloatRaw x (by first | exact HX.out.1 | exact HX.out.2.1 | exact HX.out.2.2.1 | exact HX.out.2.2.2) w1 HM1.out).mono ?_
      rintro e v1 ⟨rfl, hk⟩
      replace HM := Lib.hid (H1.out.trans hk (by simp))
      clear hk
      go_wp2_with fail
      refine (kFloat_call _ _).mono ?_
      rintro e w2 ⟨rfl, hk⟩
      have H2 := Lib.hid (HM.out.trans hk (by simp))
      have HM2 := Lib.hid (HMX.out _ H2.out)
      clear hk
      go_wp2_with fail
      refine (kFloatRaw y (by first | exact HX.out.1 | exact HX.out.2.1 | exact HX.out.2.2.1 | exact HX.out.2.2.2) w2 HM2.out).mono ?_
      rintro e v2 ⟨rfl, hk⟩
      replace HM := Lib.hid (H2.out.trans hk (by simp))
      clear hk
      go_wp2_with fail
      refine (kFloat_call _ _).mono ?_
      rintro e w3 ⟨rfl, hk⟩
      have H3 := Lib.hid (HM.out.trans hk (by simp))
      have HM3 := Lib.hid (HMX.out _ H3.out)
      clear hk
      go_wp2_with fail
      refine (kFloatRaw (fOpp x) (by first | exact HX.out.1 | exact HX.out.2.1 | exact HX.out.2.2.1 | exact HX.out.2.2.2) w3 HM3.out).mono ?_
      rintro e v3 ⟨rfl, hk⟩
      replace HM := Lib.hid (H3.out.trans hk (by simp))
      clear hk
      go_wp2_with fail
      refine (kFloat_call _ _).mono ?_
      rintro e w4 ⟨rfl, hk⟩
      have H4 := Lib.hid (HM.out.trans hk (by simp))
      have HM4 := Lib.hid (HMX.out _ H4.out)
      clear hk
      go_wp2_with fail
      refine (kFloatRaw (fOpp y) (by first | exact HX.out.1 | exact HX.out.2.1 | exact HX.out.2.2.1 | exact HX.out.2.2.2) w4 HM4.out).mono ?_
      rintro e v4 ⟨rfl, hk⟩
      replace HM := Lib.hid (H4.out.trans hk (by simp))
      clear hk
      go_wp2_with (go_at_call 9; refine (known_any _ (HMX.out _ HM.out)).mono ?_; rintro e w' ⟨rfl, hk⟩; have HK := Lib.hid hk; clear hk)
      go_ret
      exact ⟨rfl, HM.out.trans HK.out (by simp)⟩
  · have hnx : x % fS ≤ fInf := by omega
    have hny : y % fS ≤ fInf := by omega
    have m1 : decide (fInf < x % fS) = false := by simpa using hnx
    have m2 : decide (fInf < y % fS) = false := by simpa using hny
    rw [m1] at n1
    rw [m2] at n2
    have hAB := fKeyB_lt x y hx hy
    have hEQ := fKeyB_eq x y hx hy
    have hDC := fKeyB_lt (fOpp y) (fOpp x) (fOpp_lt y hy) (fOpp_lt x hx)
    have hL := order_lt x y hnx hny
    have hE := order_eq x y hnx hny
    have g1 : decide (kOf x < kOf y) = decide (fKey x < fKey y) := by
      congr 1; exact propext (kOrd_lt hx hy hnx hny)
    have g2 : decide (kOf x = kOf y) = decide (fKey x = fKey y) := by
      congr 1; exact propext (kOrd_eq hx hy hnx hny)
    have g3 : decide (kOf (fOpp y) < kOf (fOpp x)) = decide (fKey x < fKey y) := by
      have := kOrd_lt (fOpp_lt y hy) (fOpp_lt x hx) (by rw [fOpp_mod y hy]; exact hny) (by rw [fOpp_mod x hx]; exact hnx)
      rw [fOpp_key x hx, fOpp_key y hy] at this
      congr 1
      unfold kOf
      rw [this]
      exact propext ⟨fun _ => by omega, fun _ => by omega⟩
    rw [g1] at hAB
    rw [g2] at hEQ
    rw [g3] at hDC
    obtain ⟨LT, hLT⟩ : ∃ b, decide (fKey x < fKey y) = b := ⟨_, rfl⟩
    obtain ⟨EQ, hEQ'⟩ : ∃ b, decide (fKey x = fKey y) = b := ⟨_, rfl⟩
    rw [hLT] at hAB hDC hL
    rw [hEQ'] at hEQ hE
    clear g1 g2 g3 hLT hEQ' m1 m2 hnx hny hn hx hy hM
    cases LT <;> cases EQ
    all_goals
      go_enter Tryd.func5, Tryd.ntmps5
      go_wp2_with fail
      refine (kFloat_call _ _).mono ?_
      rintro e w1 ⟨rfl, hk⟩
      have H1 := Lib.hid (HM.out.trans hk (by simp))
      have HM1 := Lib.hid (HMX.out _ H1.out)
      clear hk
      go_wp2_with fail
      refine (kFloatRaw x (by first | exact HX.out.1 | exact HX.out.2.1 | exact HX.out.2.2.1 | exact HX.out.2.2.2) w1 HM1.out).mono ?_
      rintro e v1 ⟨rfl, hk⟩
      replace HM := Lib.hid (H1.out.trans hk (by simp))
      clear hk
      go_wp2_with fail
      refine (kFloat_call _ _).mono ?_
      rintro e w2 ⟨rfl, hk⟩
      have H2 := Lib.hid (HM.out.trans hk (by simp))
      have HM2 := Lib.hid (HMX.out _ H2.out)
      clear hk
      go_wp2_with fail
      refine (kFloatRaw y (by first | exact HX.out.1 | exact HX.out.2.1 | exact HX.out.2.2.1 | exact HX.out.2.2.2) w2 HM2.out).mono ?_
      rintro e v2 ⟨rfl, hk⟩
      replace HM := Lib.hid (H2.out.trans hk (by simp))
      clear hk
      go_wp2_with fail
      refine (kFloat_call _ _).mono ?_
      rintro e w3 ⟨rfl, hk⟩
      have H3 := Lib.hid (HM.out.trans hk (by simp))
      have HM3 := Lib.hid (HMX.out _ H3.out)
      clear hk
      go_wp2_with fail
      refine (kFloatRaw (fOpp x) (by first | exact HX.out.1 | exact HX.out.2.1 | exact HX.out.2.2.1 | exact HX.out.2.2.2) w3 HM3.out).mono ?_
      rintro e v3 ⟨rfl, hk⟩
      replace HM := Lib.hid (H3.out.trans hk (by simp))
      clear hk
      go_wp2_with fail
      refine (kFloat_call _ _).mono ?_
      rintro e w4 ⟨rfl, hk⟩
      have H4 := Lib.hid (HM.out.trans hk (by simp))
      have HM4 := Lib.hid (HMX.out _ H4.out)
      clear hk
      go_wp2_with fail
      refine (kFloatRaw (fOpp y) (by first | exact HX.out.1 | exact HX.out.2.1 | exact HX.out.2.2.1 | exact HX.out.2.2.2) w4 HM4.out).mono ?_
      rintro e v4 ⟨rfl, hk⟩
      replace HM := Lib.hid (H4.out.trans hk (by simp))
      clear hk
      go_wp2_with (go_at_call 9; refine (known_any _ (HMX.out _ HM.out)).mono ?_; rintro e w' ⟨rfl, hk⟩; have HK := Lib.hid hk; clear hk)
      go_ret
      exact ⟨rfl, HM.out.trans HK.out (by simp)⟩
end Go.Proofs.YtckmlmedhchpaaaDoor
