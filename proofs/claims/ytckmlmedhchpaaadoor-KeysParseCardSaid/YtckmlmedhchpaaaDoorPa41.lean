/- Package pigeonryref18: Bits, order. -/
import Derived.Test.YtckmlmedhchpaaaDoorPa40
import Derived.Test.YtckmlmedhchpaaaDoorPa33
import Derived.Laws.FloatArith
import Derived.Laws.Cover2

namespace Go.Proofs.YtckmlmedhchpaaaDoor
open Go.RowKit Ieee

theorem pos_key (f : Nat) (h : f ≤ fInf) : fKey f = f ∧ f % fS = f := by
  have hS : f % fS = f := Nat.mod_eq_of_lt (by unfold fInf fS at *; omega)
  refine ⟨?_, hS⟩
  unfold fKey fNeg
  rw [hS, Nat.div_eq_of_lt (by unfold fInf fS at *; omega)]
  rfl
theorem pos_order (f c : Nat) (hf : f ≤ fInf) (hc : c ≤ fInf) : FloatKind.f64.format.order f c = some (compare (f : Int) (c : Int)) := by
  change double.order f c = _
  rw [order_key f c (by rw [(pos_key f hf).2]; exact hf) (by rw [(pos_key c hc).2]; exact hc), (pos_key f hf).1, (pos_key c hc).1]
theorem run_mul {x c s : Nat} (h : double.mul x c = some s) (W : World) : (binOp BinOp.mul 32 (.float .f64 x) (.float .f64 c)).run Tryd.prog W = .ok (.float .f64 s) W := run_float_arith W _ _ _ _ _ _ h
theorem run_half {x s : Nat} (h : double.mul x fHalf = some s) (W : World) : (binOp BinOp.mul 32 (.float .f64 x) (.float .f64 4602678819172646912)).run Tryd.prog W = .ok (.float .f64 s) W := run_mul h W
theorem run_two {x s : Nat} (h : double.mul x fTwo = some s) (W : World) : (binOp BinOp.mul 32 (.float .f64 x) (.float .f64 4611686018427387904)).run Tryd.prog W = .ok (.float .f64 s) W := run_mul h W
theorem run_word {x : Nat} {v : Nat} (h : (double.read x).toInt .zero = some (v : Int)) (hv : v < 18446744073709551616) (W : World) : (convert 32 68 (.float .f64 x)).run Tryd.prog W = .ok (.int .u64 (v : Int)) W := by
  refine run_convert_float_int W _ _ _ .u64 _ _ (by kernel_rfl) (by kernel_rfl) ?_
  unfold floatToIntVal
  rw [show (FloatKind.f64.decode x).toInt .zero = some (v : Int) from h]
  have h1 : IntKind.u64.min ≤ (v : Int) ∧ (v : Int) ≤ IntKind.u64.max := by
    rw [show IntKind.u64.min = 0 from rfl, show IntKind.u64.max = 18446744073709551615 from rfl]
    omega
  simp [h1]

theorem I1_lt {r f e : Nat} (h : I1 r f e) : f < fInf ∧ 1075 ≤ e ∧ e ≤ 2046 := by
  rcases h with ⟨h1, h2, h3⟩ | ⟨E, t, ht, he, hE, hs, hf2, hr⟩
  · unfold fInf r53 at *; omega
  · unfold fInf fB at *; omega
theorem I2_lt {r f e : Nat} (h : I2 r f e) : f < r53 ∧ 1 ≤ e ∧ e ≤ 2046 := by
  rcases h with ⟨t, ht, h1, h2, h3⟩ | ⟨k, hk, h1, h2, h3⟩
  · unfold fB r53 at *; omega
  · omega
theorem pos_lt (f c : Nat) (hf : f ≤ fInf) (hc : c ≤ fInf) : (FloatKind.f64.format.order f c == some Ordering.lt) = decide (f < c) := by
  rw [pos_order f c hf hc]
  rcases Nat.lt_trichotomy f c with h | h | h
  · rw [Int.compare_eq_lt.2 (by omega)]; simp [h]
  · rw [h, Int.compare_eq_eq.2 rfl]; simp
  · rw [Int.compare_eq_gt.2 (by omega)]; simp; omega
theorem pos_ge (f c : Nat) (hf : f ≤ fInf) (hc : c ≤ fInf) : (FloatKind.f64.format.order f c == some Ordering.gt || FloatKind.f64.format.order f c == some Ordering.eq) = decide (c ≤ f) := by
  rw [pos_order f c hf hc]
  rcases Nat.lt_trichotomy f c with h | h | h
  · rw [Int.compare_eq_lt.2 (by omega)]; simp; omega
  · rw [h, Int.compare_eq_eq.2 rfl]; simp
  · rw [Int.compare_eq_gt.2 (by omega)]; simp; omega
def fOf : Value → Nat
  | .float _ b => b
  | _ => 0
set_option maxRecDepth 100000 in
set_option maxHeartbeats 4000000 in
theorem refBits_any (x : Nat) (hx : x < 18446744073709551616) (w : World) :
    Calls Tryd.prog 66 #[.float .f64 x] w fun e w' => e = .returned (.int .u64 (kBits x : Nat)) ∧ Keeps w w' [] := by
  have n1 := order_self_nan x
  by_cases hn : fInf < x % fS
  · have HV := Lib.hid (show kBits x = 9221120237041090560 by unfold kBits; rw [if_pos hn])
    simp only [hn, decide_true] at n1
    go_enter Tryd.func66, Tryd.ntmps66
    go_wp2_with fail
    go_ret
    exact ⟨by rw [HV.out]; rfl, Keeps.refl _ _⟩
  · simp only [hn, decide_false] at n1
    have z1 := order_zero x
    by_cases hz : x % fS = 0
    · have HV := Lib.hid (show kBits x = 0 by unfold kBits; rw [if_neg hn, if_pos hz])
      rw [show fz x = true by simp [fz, hz]] at z1
      go_enter Tryd.func66, Tryd.ntmps66
      go_wp2_with fail
      go_ret
      exact ⟨by rw [HV.out]; rfl, Keeps.refl _ _⟩
    · rw [show fz x = false by simp [fz, hz]] at z1
      have hkb : kBits x = x := by unfold kBits; rw [if_neg hn, if_neg hz]
      have l1 := order_lt x 0 (by omega) (by decide)
      have hk0 : fKey 0 = 0 := by decide
      rw [hk0] at l1
      rcases word_cases hx with ⟨c1, c2, c3⟩ | ⟨c1, c2, c3⟩
      · have hk : fKey x = x := by unfold fKey; rw [c2, c3]; simp
        rw [show decide (fKey x < 0) = false by rw [hk]; simp] at l1
        obtain ⟨r, hr⟩ : ∃ r, r = x := ⟨_, rfl⟩
        have hr0 : r ≠ 0 := by rw [hr, ← c3]; exact hz
        have hri : r ≤ 9218868437227405312 := by rw [hr, ← c3]; unfold fInf at hn; omega
        subst hr
        have HV := Lib.hid (show kBits r = r from hkb)
        clear hn hz hkb hk hk0 c1 c2 c3 hx
        go_enter Tryd.func66, Tryd.ntmps66
        by_cases hinf : r = 9218868437227405312
        · subst hinf
          have hmi : ∀ W, (binOp BinOp.mul 32 (.float .f64 9218868437227405312) (.float .f64 4602678819172646912)).run Tryd.prog W = .ok (.float .f64 9218868437227405312) W := fun W => run_mul (by decide +kernel) W
          have hmo : (FloatKind.f64.format.order 9218868437227405312 9218868437227405312 == some Ordering.eq) = true := by kernel_rfl
          go_wp2_with fail
          go_ret
          exact ⟨by rw [HV.out]; rfl, Keeps.refl _ _⟩
        · have hlt : r < fInf := by unfold fInf; omega
          obtain ⟨q, hq, hmq⟩ := half_ne r hr0 hlt
          have hm1 := run_half hmq
          have ho1 : (FloatKind.f64.format.order q r == some Ordering.eq) = false := by
            rw [pos_order q r (by omega) (by omega), Int.compare_eq_lt.2 (by omega)]; rfl
          have HL := Lib.hid (And.intro hlt (And.intro hr0 (And.intro hq hri)))
          clear hq hri hr0 hlt hmq hinf
          go_wp2_with fail
          go_loopw [0, 4] (fun f e wr => ∃ f' e' : Nat, f = .float .f64 f' ∧ e = .int .u64 (e' : Nat) ∧ Hid (I1 r f' e') ∧ Keeps w wr []) (fun f _ _ => fOf f)
          case atStart => exact ⟨r, 1075, rfl, rfl, Lib.hid (I1_start HL.out.1), Keeps.refl _ _⟩
          case round =>
            obtain ⟨f, e, rfl, rfl, HI, hkp⟩ := hrel
            have HK := Lib.hid hkp
            clear hkp
            obtain ⟨b1, b2, b3⟩ := I1_lt HI.out
            have o1 := pos_ge f 4845873199050653696 (by omega) (by decide)
            by_cases hf : r53 ≤ f
            · rw [decide_eq_true (show 4845873199050653696 ≤ f from hf)] at o1
              obtain ⟨f2, m1, m2, m3, _⟩ := I1_step HI.out hf
              have hm2 := run_half m1
              have H3 := Lib.hid m3
              clear m1 m3 hf b1
              go_wp2_with fail
              exact ⟨⟨f2, e + 1, rfl, by go_num, H3, HK.out⟩, m2⟩
            · rw [decide_eq_false (show ¬ 4845873199050653696 ≤ f from hf)] at o1
              have H2 := Lib.hid (I1_end HI.out (by omega))
              clear hf b1 b2 HI
              go_wp2_with fail
              go_loopw [0, 4] (fun f e wr => ∃ f' e' : Nat, f = .float .f64 f' ∧ e = .int .u64 (e' : Nat) ∧ Hid (I2 r f' e') ∧ Keeps w wr []) (fun _ e _ => (intOf e).toNat)
              case atStart => exact ⟨f, e, rfl, rfl, H2, HK.out⟩
              case round =>
                clear o1 H2 HK b3
                obtain ⟨f3, e3, rfl, rfl, HI, hkp⟩ := hrel
                have HK := Lib.hid hkp
                clear hkp
                obtain ⟨b1, b2, b3⟩ := I2_lt HI.out
                have o1 := pos_lt f3 4841369599423283200 (by unfold r53 fInf at *; omega) (by decide)
                by_cases hf : f3 < r52
                · rw [decide_eq_true (show f3 < 4841369599423283200 from hf)] at o1
                  by_cases he : 1 < e3
                  · obtain ⟨f4, m1, m3⟩ := I2_step HI.out hf he
                    have hm2 := run_two m1
                    have H3 := Lib.hid m3
                    clear m1 m3 hf b1
                    go_wp2_with fail
                    exact ⟨⟨f4, e3 - 1, rfl, congrArg (Value.int .u64) (by omega), H3, HK.out⟩, by simp only [intOf]; omega⟩
                  · obtain ⟨m1, m2⟩ := I2_low HI.out hf he HL.out.1
                    have hcv := run_word m1 (by unfold fB at m2; omega)
                    have m3 : r < 4503599627370496 := m2
                    obtain rfl : e3 = 1 := by omega
                    clear m1 m2 hf b1 b2 b3 he
                    go_wp2_with fail
                    go_ret
                    exact ⟨by rw [HV.out]; exact congrArg (fun z => Ending.returned (Value.int .u64 z)) (by first | omega | (simp; done) | (simp; omega)), HK.out⟩
                · rw [decide_eq_false (show ¬ f3 < 4841369599423283200 from hf)] at o1
                  obtain ⟨t, m1, m2, m3, m4⟩ := I2_high HI.out (by omega) HL.out.1
                  have hcv := run_word m2 (by unfold fB at *; omega)
                  have m5 : t < 4503599627370496 := m1
                  have m6 : r = e3 * 4503599627370496 + t := m3
                  rw [show ((fB + t : Nat) : Int) = 4503599627370496 + (t : Int) by unfold fB; omega] at hcv
                  clear m1 m2 m3 hf b1
                  go_wp2_with fail
                  go_ret
                  exact ⟨by rw [HV.out]; exact congrArg (fun z => Ending.returned (Value.int .u64 z)) (by first | omega | (simp; done) | (simp; omega)), HK.out⟩
      · obtain ⟨r, hr⟩ : ∃ r, x % fS = r := ⟨_, rfl⟩
        rw [hr] at hn hz
        have hk : fKey x < 0 := by unfold fKey; rw [c2, hr, if_pos rfl]; omega
        rw [decide_eq_true hk] at l1
        have hr0 : r ≠ 0 := hz
        have hri : r ≤ 9218868437227405312 := by unfold fInf at hn; omega
        have hx2 : x = 9223372036854775808 + r := by rw [← hr]; exact c3
        have hng : ∀ W : World, (Op.unary .neg (.float .f64 x)).run Tryd.prog W = .ok (.float .f64 r) W := fun W => by
          have h1 : fOpp x = r := by
            rw [fOpp_eq x hx, if_neg (by omega)]
            unfold fS
            omega
          rw [← h1]
          rfl
        have HV := Lib.hid (show kBits x = 9223372036854775808 + r by rw [hkb]; exact hx2)
        clear hn hz hkb hk hk0 c1 c2 c3 hx hx2 hr
        go_enter Tryd.func66, Tryd.ntmps66
        by_cases hinf : r = 9218868437227405312
        · subst hinf
          have hmi : ∀ W, (binOp BinOp.mul 32 (.float .f64 9218868437227405312) (.float .f64 4602678819172646912)).run Tryd.prog W = .ok (.float .f64 9218868437227405312) W := fun W => run_mul (by decide +kernel) W
          have hmo : (FloatKind.f64.format.order 9218868437227405312 9218868437227405312 == some Ordering.eq) = true := by kernel_rfl
          go_wp2_with fail
          go_ret
          exact ⟨by rw [HV.out]; rfl, Keeps.refl _ _⟩
        · have hlt : r < fInf := by unfold fInf; omega
          obtain ⟨q, hq, hmq⟩ := half_ne r hr0 hlt
          have hm1 := run_half hmq
          have ho1 : (FloatKind.f64.format.order q r == some Ordering.eq) = false := by
            rw [pos_order q r (by omega) (by omega), Int.compare_eq_lt.2 (by omega)]; rfl
          have HL := Lib.hid (And.intro hlt (And.intro hr0 (And.intro hq hri)))
          clear hq hri hr0 hlt hmq hinf
          go_wp2_with fail
          go_loopw [0, 4] (fun f e wr => ∃ f' e' : Nat, f = .float .f64 f' ∧ e = .int .u64 (e' : Nat) ∧ Hid (I1 r f' e') ∧ Keeps w wr []) (fun f _ _ => fOf f)
          case atStart => exact ⟨r, 1075, rfl, rfl, Lib.hid (I1_start HL.out.1), Keeps.refl _ _⟩
          case round =>
            obtain ⟨f, e, rfl, rfl, HI, hkp⟩ := hrel
            have HK := Lib.hid hkp
            clear hkp
            obtain ⟨b1, b2, b3⟩ := I1_lt HI.out
            have o1 := pos_ge f 4845873199050653696 (by omega) (by decide)
            by_cases hf : r53 ≤ f
            · rw [decide_eq_true (show 4845873199050653696 ≤ f from hf)] at o1
              obtain ⟨f2, m1, m2, m3, _⟩ := I1_step HI.out hf
              have hm2 := run_half m1
              have H3 := Lib.hid m3
              clear m1 m3 hf b1
              go_wp2_with fail
              exact ⟨⟨f2, e + 1, rfl, by go_num, H3, HK.out⟩, m2⟩
            · rw [decide_eq_false (show ¬ 4845873199050653696 ≤ f from hf)] at o1
              have H2 := Lib.hid (I1_end HI.out (by omega))
              clear hf b1 b2 HI
              go_wp2_with fail
              go_loopw [0, 4] (fun f e wr => ∃ f' e' : Nat, f = .float .f64 f' ∧ e = .int .u64 (e' : Nat) ∧ Hid (I2 r f' e') ∧ Keeps w wr []) (fun _ e _ => (intOf e).toNat)
              case atStart => exact ⟨f, e, rfl, rfl, H2, HK.out⟩
              case round =>
                clear o1 H2 HK b3
                obtain ⟨f3, e3, rfl, rfl, HI, hkp⟩ := hrel
                have HK := Lib.hid hkp
                clear hkp
                obtain ⟨b1, b2, b3⟩ := I2_lt HI.out
                have o1 := pos_lt f3 4841369599423283200 (by unfold r53 fInf at *; omega) (by decide)
                by_cases hf : f3 < r52
                · rw [decide_eq_true (show f3 < 4841369599423283200 from hf)] at o1
                  by_cases he : 1 < e3
                  · obtain ⟨f4, m1, m3⟩ := I2_step HI.out hf he
                    have hm2 := run_two m1
                    have H3 := Lib.hid m3
                    clear m1 m3 hf b1
                    go_wp2_with fail
                    exact ⟨⟨f4, e3 - 1, rfl, congrArg (Value.int .u64) (by omega), H3, HK.out⟩, by simp only [intOf]; omega⟩
                  · obtain ⟨m1, m2⟩ := I2_low HI.out hf he HL.out.1
                    have hcv := run_word m1 (by unfold fB at m2; omega)
                    have m3 : r < 4503599627370496 := m2
                    obtain rfl : e3 = 1 := by omega
                    clear m1 m2 hf b1 b2 b3 he
                    go_wp2_with fail
                    go_ret
                    exact ⟨by rw [HV.out]; exact congrArg (fun z => Ending.returned (Value.int .u64 z)) (by first | omega | (simp; done) | (simp; omega)), HK.out⟩
                · rw [decide_eq_false (show ¬ f3 < 4841369599423283200 from hf)] at o1
                  obtain ⟨t, m1, m2, m3, m4⟩ := I2_high HI.out (by omega) HL.out.1
                  have hcv := run_word m2 (by unfold fB at *; omega)
                  have m5 : t < 4503599627370496 := m1
                  have m6 : r = e3 * 4503599627370496 + t := m3
                  rw [show ((fB + t : Nat) : Int) = 4503599627370496 + (t : Int) by unfold fB; omega] at hcv
                  clear m1 m2 m3 hf b1
                  go_wp2_with fail
                  go_ret
                  exact ⟨by rw [HV.out]; exact congrArg (fun z => Ending.returned (Value.int .u64 z)) (by first | omega | (simp; done) | (simp; omega)), HK.out⟩
set_option maxRecDepth 100000 in
set_option maxHeartbeats 1000000 in
theorem refOrder_any (x : Nat) (hx : x < 18446744073709551616) (w : World) :
    Calls Tryd.prog 57 #[.float .f64 x] w fun e w' => e = .returned (.int .u64 (kOf x : Nat)) ∧ Keeps w w' [] := by
  have HB := Lib.hid (refBits_any x hx w)
  have hb : kBits x < 18446744073709551616 := by unfold kBits; split <;> (try split) <;> omega
  have HV := Lib.hid (show kOf x = kOrd (kBits x) from rfl)
  obtain ⟨b, hbd⟩ : ∃ b, kBits x = b := ⟨_, rfl⟩
  rw [hbd] at HB HV hb
  clear hbd hx
  by_cases h : 9223372036854775808 ≤ b
  · have HW := Lib.hid (show kOrd b = 18446744073709551615 - b by unfold kOrd fS; rw [if_pos h])
    have h1 : (9223372036854775808 : Int) ≤ b := by omega
    have h2 : (b : Int) ≤ 18446744073709551615 := by omega
    clear h hb
    go_enter Tryd.func57, Tryd.ntmps57
    go_wp2_with fail
    refine HB.out.mono ?_
    rintro e w1 ⟨rfl, hk⟩
    have HK := Lib.hid hk
    clear hk
    go_wp2_with fail
    go_ret
    exact ⟨by rw [HV.out, HW.out]; exact congrArg (fun z => Ending.returned (Value.int .u64 z)) (by omega), HK.out⟩
  · have HW := Lib.hid (show kOrd b = b + 9223372036854775808 by unfold kOrd fS; rw [if_neg h])
    have hge : decide ((9223372036854775808 : Int) ≤ (b : Int)) = false := by simp; omega
    have hwr : IntKind.u64.wrap ((b : Int) + 9223372036854775808) = (b : Int) + 9223372036854775808 := IntWalk.u64_in _ (by omega)
    obtain ⟨c, hc⟩ : ∃ c : Int, (b : Int) = c := ⟨_, rfl⟩
    rw [hc] at hge hwr HB
    have HC := Lib.hid hc
    clear h hb hc
    go_enter Tryd.func57, Tryd.ntmps57
    go_wp2_with fail
    refine HB.out.mono ?_
    rintro e w1 ⟨rfl, hk⟩
    have HK := Lib.hid hk
    clear hk
    go_wp2_with fail
    go_ret
    exact ⟨by rw [HV.out, HW.out]; exact congrArg (fun z => Ending.returned (Value.int .u64 z)) (by have := HC.out; omega), HK.out⟩
end Go.Proofs.YtckmlmedhchpaaaDoor
