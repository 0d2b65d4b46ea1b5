/- Package pigeonryref18: float (under way). -/
import Derived.Test.YtckmlmedhchpaaaDoorPa44
import Derived.Test.YtckmlmedhchpaaaDoorPa41

namespace Go.Proofs.YtckmlmedhchpaaaDoor
open Go.RowKit Ieee

theorem of_word {m : Nat} (hm : m < 2 * fB) : floatOfInt FloatKind.f64 (m : Int) = intRung m := by
  have h := nearest_int hm false
  rw [word_pos] at h
  have hneg : decide ((m : Int) < 0) = false := by simp
  show double.nearest (decide ((m : Int) < 0)) (m : Int).natAbs 0 = intRung m
  rw [hneg, Int.natAbs_natCast]
  exact h
/-- A sign, set. -/
def sgnW (b : Bool) (r : Nat) : Nat := if b then fOpp r else r
set_option maxRecDepth 100000 in
set_option maxHeartbeats 4000000 in
theorem refFloat_norm (N : Int) (e m : Nat) (sg : Bool) (w : World) (hE : (IntKind.u64.wrap (N.tdiv 4503599627370496)).tmod 2048 = (e : Int)) (hM : N.tmod 4503599627370496 = (m : Int)) (hs : decide ((9223372036854775808 : Int) ≤ N) = sg) (h1 : 1 ≤ e) (h2 : e ≤ 1075) (hm : m < fB) :
    Calls Tryd.prog 55 #[.int .u64 N] w fun x w' => x = .returned (.float .f64 (sgnW sg (e * fB + m))) ∧ Keeps w w' [] := by
  have hcv := of_word (m := m) (by omega)
  have hadd : ∀ W, (binOp BinOp.add 32 (.float .f64 (intRung m)) (.float .f64 4841369599423283200)).run Tryd.prog W = .ok (.float .f64 (1075 * fB + m)) W := fun W => run_float_arith W _ _ _ _ _ _ (add_r52 m hm)
  have H0 := Lib.hid (H1_norm e m h1 h2 hm)
  obtain ⟨r, hr⟩ : ∃ r, e * fB + m = r := ⟨_, rfl⟩
  obtain ⟨f0, hf0⟩ : ∃ f, 1075 * fB + m = f := ⟨_, rfl⟩
  obtain ⟨g0, hg0⟩ : ∃ f, intRung m = f := ⟨_, rfl⟩
  rw [hf0, hg0] at hadd
  rw [hg0] at hcv
  rw [hr, hf0] at H0
  rw [hr]
  have e1 : ((e : Int) == 2047) = false := by rw [beq_eq_false_iff_ne]; omega
  have e2 : (0 : Int) < e := by omega
  have e3 : (e : Int) ≤ 1075 := by omega
  have hng : ∀ (z : Nat) (W : World), (Op.unary .neg (.float .f64 z)).run Tryd.prog W = .ok (.float .f64 (fOpp z)) W := fun _ _ => rfl
  clear hr hf0 hg0 hm h1 h2
  go_enter Tryd.func55, Tryd.ntmps55
  go_wp2_with fail
  go_loopw [3, 5] (fun e f wr => ∃ e' f' : Nat, e = .int .u64 (e' : Nat) ∧ f = .float .f64 f' ∧ Hid (H1 r f' e') ∧ Keeps w wr []) (fun e _ _ => 1075 - (intOf e).toNat)
  case atStart => exact ⟨_, _, rfl, rfl, H0, Keeps.refl _ _⟩
  case round =>
    obtain ⟨e4, f4, rfl, rfl, HI, hkp⟩ := hrel
    have HK := Lib.hid hkp
    clear hkp
    have b1 := HI.out.1
    by_cases he : e4 < 1075
    · obtain ⟨f5, m1, m2⟩ := H1_step HI.out he
      have hmu := run_half m1
      have H3 := Lib.hid m2
      clear m1 m2
      go_wp2_with fail
      exact ⟨⟨e4 + 1, f5, by go_num, rfl, H3, HK.out⟩, by simp only [intOf]; omega⟩
    · obtain rfl : e4 = 1075 := by omega
      obtain rfl := H1_end HI.out
      clear he b1
      go_wp2_with fail
      go_loopw [3, 5] (fun e f wr => e = .int .u64 1075 ∧ f = .float .f64 f4 ∧ Keeps w wr []) (fun _ _ _ => 0)
      case atStart => exact ⟨rfl, rfl, HK.out⟩
      case round =>
        obtain ⟨rfl, rfl, hkp⟩ := hrel
        clear HK
        have HK := Lib.hid hkp
        clear hkp
        by_cases hsg : (9223372036854775808 : Int) ≤ N
        · have hv : sg = true := by rw [← hs]; exact decide_eq_true hsg
          subst hv
          clear hs
          go_wp2_with fail
          go_ret
          exact ⟨rfl, HK.out⟩
        · have hv : sg = false := by rw [← hs]; exact decide_eq_false hsg
          subst hv
          clear hs
          go_wp2_with fail
          go_ret
          exact ⟨rfl, HK.out⟩
set_option maxRecDepth 100000 in
set_option maxHeartbeats 4000000 in
theorem refFloat_sub (N : Int) (m : Nat) (sg : Bool) (w : World) (hE : (IntKind.u64.wrap (N.tdiv 4503599627370496)).tmod 2048 = 0) (hM : N.tmod 4503599627370496 = (m : Int)) (hs : decide ((9223372036854775808 : Int) ≤ N) = sg) (hm : m < fB) :
    Calls Tryd.prog 55 #[.int .u64 N] w fun x w' => x = .returned (.float .f64 (sgnW sg m)) ∧ Keeps w w' [] := by
  have hcv := of_word (m := m) (by omega)
  have H0 := Lib.hid (H1_sub m hm)
  obtain ⟨r, hr⟩ : ∃ r, m = r := ⟨_, rfl⟩
  obtain ⟨g0, hg0⟩ : ∃ f, intRung m = f := ⟨_, rfl⟩
  rw [hg0] at hcv H0
  rw [hr] at H0 ⊢
  have hng : ∀ (z : Nat) (W : World), (Op.unary .neg (.float .f64 z)).run Tryd.prog W = .ok (.float .f64 (fOpp z)) W := fun _ _ => rfl
  clear hr hg0 hm
  go_enter Tryd.func55, Tryd.ntmps55
  go_wp2_with fail
  go_loopw [3, 5] (fun e f wr => ∃ e' f' : Nat, e = .int .u64 (e' : Nat) ∧ f = .float .f64 f' ∧ Hid (H1 r f' e') ∧ Keeps w wr []) (fun e _ _ => 1075 - (intOf e).toNat)
  case atStart => exact ⟨_, _, rfl, rfl, H0, Keeps.refl _ _⟩
  case round =>
    obtain ⟨e4, f4, rfl, rfl, HI, hkp⟩ := hrel
    have HK := Lib.hid hkp
    clear hkp
    have b1 := HI.out.1
    by_cases he : e4 < 1075
    · obtain ⟨f5, m1, m2⟩ := H1_step HI.out he
      have hmu := run_half m1
      have H3 := Lib.hid m2
      clear m1 m2
      go_wp2_with fail
      exact ⟨⟨e4 + 1, f5, by go_num, rfl, H3, HK.out⟩, by simp only [intOf]; omega⟩
    · obtain rfl : e4 = 1075 := by omega
      obtain rfl := H1_end HI.out
      clear he b1
      go_wp2_with fail
      go_loopw [3, 5] (fun e f wr => e = .int .u64 1075 ∧ f = .float .f64 f4 ∧ Keeps w wr []) (fun _ _ _ => 0)
      case atStart => exact ⟨rfl, rfl, HK.out⟩
      case round =>
        obtain ⟨rfl, rfl, hkp⟩ := hrel
        clear HK
        have HK := Lib.hid hkp
        clear hkp
        by_cases hsg : (9223372036854775808 : Int) ≤ N
        · have hv : sg = true := by rw [← hs]; exact decide_eq_true hsg
          subst hv
          clear hs
          go_wp2_with fail
          go_ret
          exact ⟨rfl, HK.out⟩
        · have hv : sg = false := by rw [← hs]; exact decide_eq_false hsg
          subst hv
          clear hs
          go_wp2_with fail
          go_ret
          exact ⟨rfl, HK.out⟩
set_option maxRecDepth 100000 in
set_option maxHeartbeats 4000000 in
theorem refFloat_big (N : Int) (e m : Nat) (sg : Bool) (w : World) (hE : (IntKind.u64.wrap (N.tdiv 4503599627370496)).tmod 2048 = (e : Int)) (hM : N.tmod 4503599627370496 = (m : Int)) (hs : decide ((9223372036854775808 : Int) ≤ N) = sg) (h1 : 1075 < e) (h2 : e ≤ 2046) (hm : m < fB) :
    Calls Tryd.prog 55 #[.int .u64 N] w fun x w' => x = .returned (.float .f64 (sgnW sg (e * fB + m))) ∧ Keeps w w' [] := by
  have hcv := of_word (m := m) (by omega)
  have hadd : ∀ W, (binOp BinOp.add 32 (.float .f64 (intRung m)) (.float .f64 4841369599423283200)).run Tryd.prog W = .ok (.float .f64 (1075 * fB + m)) W := fun W => run_float_arith W _ _ _ _ _ _ (add_r52 m hm)
  have H0 := Lib.hid (H2_start e m (by omega) h2 hm)
  obtain ⟨r, hr⟩ : ∃ r, e * fB + m = r := ⟨_, rfl⟩
  obtain ⟨f0, hf0⟩ : ∃ f, 1075 * fB + m = f := ⟨_, rfl⟩
  obtain ⟨g0, hg0⟩ : ∃ f, intRung m = f := ⟨_, rfl⟩
  rw [hf0, hg0] at hadd
  rw [hg0] at hcv
  rw [hr, hf0] at H0
  rw [hr]
  have e1 : ((e : Int) == 2047) = false := by rw [beq_eq_false_iff_ne]; omega
  have e2 : (0 : Int) < e := by omega
  have e3 : (1075 : Int) < e := by omega
  have e4 : (e : Int) ≤ 2046 := by omega
  have hng : ∀ (z : Nat) (W : World), (Op.unary .neg (.float .f64 z)).run Tryd.prog W = .ok (.float .f64 (fOpp z)) W := fun _ _ => rfl
  clear hr hf0 hg0 hm h1 h2
  go_enter Tryd.func55, Tryd.ntmps55
  go_wp2_with fail
  go_loopw [3, 5] (fun x f wr => x = .int .u64 (e : Nat) ∧ f = .float .f64 f0 ∧ Keeps w wr []) (fun _ _ _ => 0)
  case atStart => exact ⟨rfl, rfl, Keeps.refl _ _⟩
  case round =>
    obtain ⟨rfl, rfl, hkp⟩ := hrel
    have HK := Lib.hid hkp
    clear hkp
    go_wp2_with fail
    go_loopw [3, 5] (fun x f wr => ∃ e' f' : Nat, x = .int .u64 (e' : Nat) ∧ f = .float .f64 f' ∧ Hid (1075 ≤ e' ∧ e' ≤ 2046 ∧ H2 r f' e') ∧ Keeps w wr []) (fun x _ _ => (intOf x).toNat)
    case atStart => exact ⟨e, f0, rfl, rfl, Lib.hid ⟨by omega, by omega, H0.out⟩, HK.out⟩
    case round =>
      clear HK
      obtain ⟨e5, f5, rfl, rfl, HI, hkp⟩ := hrel
      have HK := Lib.hid hkp
      clear hkp
      obtain ⟨b1, b2, b3⟩ := HI.out
      by_cases he : 1075 < e5
      · obtain ⟨f6, m1, m2⟩ := H2_step b3 he
        have hmu := run_two m1
        have H3 := Lib.hid (show 1075 ≤ e5 - 1 ∧ e5 - 1 ≤ 2046 ∧ H2 r f6 (e5 - 1) from ⟨by omega, by omega, m2⟩)
        clear m1 m2 b3
        go_wp2_with fail
        exact ⟨⟨e5 - 1, f6, congrArg (Value.int .u64) (by omega), rfl, H3, HK.out⟩, by simp only [intOf]; omega⟩
      · obtain rfl : e5 = 1075 := by omega
        obtain rfl := H2_end b3
        clear he b1 b2 HI
        by_cases hsg : (9223372036854775808 : Int) ≤ N
        · have hv : sg = true := by rw [← hs]; exact decide_eq_true hsg
          subst hv
          clear hs
          go_wp2_with fail
          go_ret
          exact ⟨rfl, HK.out⟩
        · have hv : sg = false := by rw [← hs]; exact decide_eq_false hsg
          subst hv
          clear hs
          go_wp2_with fail
          go_ret
          exact ⟨rfl, HK.out⟩
set_option maxRecDepth 100000 in
set_option maxHeartbeats 4000000 in
theorem refFloat_inf (N : Int) (sg : Bool) (w : World) (hE : (IntKind.u64.wrap (N.tdiv 4503599627370496)).tmod 2048 = 2047) (hM : N.tmod 4503599627370496 = 0) (hs : decide ((9223372036854775808 : Int) ≤ N) = sg) :
    Calls Tryd.prog 55 #[.int .u64 N] w fun x w' => x = .returned (.float .f64 (sgnW sg 9218868437227405312)) ∧ Keeps w w' [] := by
  have hcv : floatOfInt FloatKind.f64 0 = 0 := by kernel_rfl
  have hmu : ∀ W, (binOp BinOp.mul 32 (.float .f64 9214871658872686752) (.float .f64 9214871658872686752)).run Tryd.prog W = .ok (.float .f64 9218868437227405312) W := fun W => run_mul (by decide +kernel) W
  have hng : ∀ (z : Nat) (W : World), (Op.unary .neg (.float .f64 z)).run Tryd.prog W = .ok (.float .f64 (fOpp z)) W := fun _ _ => rfl
  have HK := Lib.hid (Keeps.refl w [])
  go_enter Tryd.func55, Tryd.ntmps55
  by_cases hsg : (9223372036854775808 : Int) ≤ N
  · have hv : sg = true := by rw [← hs]; exact decide_eq_true hsg
    subst hv
    clear hs
    go_wp2_with fail
    go_ret
    exact ⟨rfl, HK.out⟩
  · have hv : sg = false := by rw [← hs]; exact decide_eq_false hsg
    subst hv
    clear hs
    go_wp2_with fail
    go_ret
    exact ⟨rfl, HK.out⟩
end Go.Proofs.YtckmlmedhchpaaaDoor
