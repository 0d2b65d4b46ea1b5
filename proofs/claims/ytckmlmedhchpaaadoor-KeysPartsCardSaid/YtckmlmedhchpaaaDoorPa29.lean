/- Layer 18: what numbers and texts are as parts: the law. -/
import Derived.Test.YtckmlmedhchpaaaDoorPa25

namespace Go.Proofs.YtckmlmedhchpaaaDoor
open Go.RowKit Ieee Op

theorem kInt_call (n : Int) (w : World) : Calls Tryd.prog 15 #[.int .i64 n] w fun e w' => e = .returned (.agg #[.int .i64 1, .int .i64 n, .float .f64 0, .string ⟨#[]⟩]) ∧ Keeps w w' [] := kInt_any n w
theorem kText_call (s : ByteArray) (w : World) : Calls Tryd.prog 17 #[.string s] w fun e w' => e = .returned (.agg #[.int .i64 3, .int .i64 0, .float .f64 0, .string s]) ∧ Keeps w w' [] := kText_any s w

set_option maxRecDepth 100000 in
set_option maxHeartbeats 4000000 in
theorem keysParts_any (n : Int) (x : Nat) (s : ByteArray) (w : World) (hM : MaxL w) :
    Calls Tryd.prog 4 #[.int .i64 n, .float .f64 x, .string s] w fun e w' => e = .returned (.bool true) ∧ Keeps w w' [] := by
  have hsf := @run_store_float Tryd.prog
  have HMX := Lib.hid (show ∀ W, Keeps w W [] → MaxL W from fun W h => hM.keeps h)
  have HM := Lib.hid (Keeps.refl w [])
  clear hM
  by_cases hs : (s.size : Int) > 300
  · go_enter Tryd.func4, Tryd.ntmps4
    go_wp2_with (go_at_call 9; refine (known_any _ (HMX.out _ HM.out)).mono ?_; rintro e w' ⟨rfl, hk⟩; have HK := Lib.hid hk; clear hk)
    go_ret
    exact ⟨rfl, HM.out.trans HK.out (by simp)⟩
  · have hF : ∀ w, Calls Tryd.prog 16 #[.float .f64 x] w fun e w' => e = .returned (.agg #[.int .i64 2, .int .i64 0, .float .f64 (wholeW x), .string ⟨#[]⟩]) ∧ Keeps w w' [] := kFloat_any x
    have n1 := order_self_nan x
    have heq : ∀ W, (Op.equalIn 9999 32 (.float .f64 0) (.float .f64 0)).run Tryd.prog W = .ok true W := fun _ => rfl
    by_cases hn : fInf < x % fS
    · rw [wholeW_nan x hn] at hF
      simp only [hn, decide_true] at n1
      clear hn
      go_enter Tryd.func4, Tryd.ntmps4
      go_wp2_with fail
      refine (kInt_call _ _).mono ?_
      rintro e w1 ⟨rfl, hk⟩
      have H1 := Lib.hid hk
      clear hk
      go_wp2_with fail
      refine (hF _).mono ?_
      rintro e w2 ⟨rfl, hk⟩
      have H2 := Lib.hid (H1.out.trans hk (by simp))
      clear hk
      go_wp2_with fail
      refine (kText_call _ _).mono ?_
      rintro e w3 ⟨rfl, hk⟩
      replace HM := Lib.hid (H2.out.trans hk (by simp))
      clear hk
      go_wp2_with (go_at_call 9; refine (known_any _ (HMX.out _ (HM.out.trans (((Keeps.alloc _ _).trans (Keeps.alloc _ _) (by simp)).trans (Keeps.alloc _ _) (by simp)) (by simp)))).mono ?_; rintro e w' ⟨rfl, hk⟩; have HK := Lib.hid ((HM.out.trans (((Keeps.alloc _ _).trans (Keeps.alloc _ _) (by simp)).trans (Keeps.alloc _ _) (by simp)) (by simp)).trans hk (by simp)); clear hk)
      go_ret
      exact ⟨rfl, HK.out⟩
    · have hnx : x % fS ≤ fInf := by omega
      simp only [hn, decide_false] at n1
      have hW := wholeW_key x hnx
      by_cases hz : x % fS = 0
      · rw [if_pos hz] at hW
        rw [hW] at hF
        have n2 : (FloatKind.f64.format.order x 0 != some Ordering.eq) = false := by
          rw [bne, order_zero x]
          simp [fz, hz]
        have n3 : (FloatKind.f64.format.order 0 x == some Ordering.eq) = true := by
          change (double.order 0 x == some Ordering.eq) = _
          rw [order_key 0 x (by decide) hnx]
          have : fKey x = 0 := by unfold fKey; rw [hz]; simp
          rw [this]
          rfl
        have hdiv : ∀ W, (binOp BinOp.quo 32 (Value.float FloatKind.f64 4607182418800017408) (Value.float FloatKind.f64 0)).run Tryd.prog W = .ok (.float .f64 9218868437227405312) W := fun _ => by kernel_rfl
        have hgt : (FloatKind.f64.format.order 9218868437227405312 0 == some Ordering.gt) = true := by kernel_rfl
        clear hn hnx hz hW
        go_enter Tryd.func4, Tryd.ntmps4
        go_wp2_with fail
        refine (kInt_call _ _).mono ?_
        rintro e w1 ⟨rfl, hk⟩
        have H1 := Lib.hid hk
        clear hk
        go_wp2_with fail
        refine (hF _).mono ?_
        rintro e w2 ⟨rfl, hk⟩
        have H2 := Lib.hid (H1.out.trans hk (by simp))
        clear hk
        go_wp2_with fail
        refine (kText_call _ _).mono ?_
        rintro e w3 ⟨rfl, hk⟩
        replace HM := Lib.hid (H2.out.trans hk (by simp))
        clear hk
        go_wp2_with (go_at_call 9; refine (known_any _ (HMX.out _ (HM.out.trans (((Keeps.alloc _ _).trans (Keeps.alloc _ _) (by simp)).trans (Keeps.alloc _ _) (by simp)) (by simp)))).mono ?_; rintro e w' ⟨rfl, hk⟩; have HK := Lib.hid ((HM.out.trans (((Keeps.alloc _ _).trans (Keeps.alloc _ _) (by simp)).trans (Keeps.alloc _ _) (by simp)) (by simp)).trans hk (by simp)); clear hk)
        go_ret
        exact ⟨rfl, HK.out⟩
      · rw [if_neg hz] at hW
        rw [hW] at hF
        have n2 : (FloatKind.f64.format.order x 0 != some Ordering.eq) = true := by
          rw [bne, order_zero x]
          simp [fz, hz]
        have n3 : (FloatKind.f64.format.order x x == some Ordering.eq) = true := by
          simpa [bne] using n1
        clear hn hnx hz hW
        go_enter Tryd.func4, Tryd.ntmps4
        go_wp2_with fail
        refine (kInt_call _ _).mono ?_
        rintro e w1 ⟨rfl, hk⟩
        have H1 := Lib.hid hk
        clear hk
        go_wp2_with fail
        refine (hF _).mono ?_
        rintro e w2 ⟨rfl, hk⟩
        have H2 := Lib.hid (H1.out.trans hk (by simp))
        clear hk
        go_wp2_with fail
        refine (kText_call _ _).mono ?_
        rintro e w3 ⟨rfl, hk⟩
        replace HM := Lib.hid (H2.out.trans hk (by simp))
        clear hk
        go_wp2_with (go_at_call 9; refine (known_any _ (HMX.out _ (HM.out.trans (((Keeps.alloc _ _).trans (Keeps.alloc _ _) (by simp)).trans (Keeps.alloc _ _) (by simp)) (by simp)))).mono ?_; rintro e w' ⟨rfl, hk⟩; have HK := Lib.hid ((HM.out.trans (((Keeps.alloc _ _).trans (Keeps.alloc _ _) (by simp)).trans (Keeps.alloc _ _) (by simp)) (by simp)).trans hk (by simp)); clear hk)
        go_ret
        exact ⟨rfl, HK.out⟩
end Go.Proofs.YtckmlmedhchpaaaDoor
