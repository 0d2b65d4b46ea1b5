/- Package records: within, client. -/
import Derived.Test.YtfglgeoookbppaaGreatDoorPa25
import Derived.Test.YtfglgeoookbppaaGreatDoorPa32
import Derived.Test.YtfglgeoookbppaaGreatDoorPa38

namespace Go.Proofs.YtfglgeoookbppaaGreatDoor
open Go.RowKit Go.Shelf

set_option maxRecDepth 100000 in
theorem rcWithin_any (w : World) (n a b : Int) : Calls Tryz.prog 27 #[.int .i64 n, .int .i64 a, .int .i64 b] w fun e w' => e = .returned (.bool (inN n a b)) ∧ w = w' := by
  by_cases h1 : a ≤ n
  · have d1 : decide (n ≥ a) = true := decide_eq_true h1
    by_cases h2 : n ≤ b
    · have d2 : decide (n ≤ b) = true := decide_eq_true h2
      have HT := Lib.hid (show inN n a b = true by unfold inN; rw [decide_eq_true h1, decide_eq_true h2]; rfl)
      go_enter Tryz.func27, Tryz.ntmps27
      go_wp2_with fail
      go_ret
      exact ⟨by rw [HT.out]; rfl, rfl⟩
    · have d2 : decide (n ≤ b) = false := decide_eq_false h2
      have HT := Lib.hid (show inN n a b = false by unfold inN; rw [d2, Bool.and_false])
      go_enter Tryz.func27, Tryz.ntmps27
      go_wp2_with fail
      go_ret
      exact ⟨by rw [HT.out]; rfl, rfl⟩
  · have d1 : decide (n ≥ a) = false := decide_eq_false h1
    have HT := Lib.hid (show inN n a b = false by unfold inN; rw [decide_eq_false h1]; rfl)
    go_enter Tryz.func27, Tryz.ntmps27
    go_wp2_with fail
    go_ret
    exact ⟨by rw [HT.out]; rfl, rfl⟩
set_option maxRecDepth 100000 in
set_option maxHeartbeats 1000000 in
theorem rcClient_any (w : World) (s : List UInt8) (hs : s.length ≤ 60000) : Calls Tryz.prog 59 #[.string ⟨s.toArray⟩] w fun e w' => e = .returned (.bool (rcClient s)) ∧ Keeps w w' [] := by
  obtain ⟨S, hS⟩ : ∃ S : ByteArray, (⟨s.toArray⟩ : ByteArray) = S := ⟨_, rfl⟩
  have hsz : S.size = s.length := by rw [← hS]; rfl
  have hem := emp_iff s hS
  have HS := Lib.hid hS
  rw [hS]
  clear hS
  by_cases h0 : s.length = 0
  · have HT := Lib.hid (show rcClient s = false by unfold rcClient; rw [decide_eq_false (by omega)]; rfl)
    rw [decide_eq_true h0] at hem
    clear h0
    go_enter Tryz.func59, Tryz.ntmps59
    go_wp2_with fail
    go_ret
    exact ⟨by rw [HT.out]; rfl, Keeps.refl _ _⟩
  · rw [decide_eq_false h0] at hem
    by_cases h2 : s.length ≤ 23
    · have HT := Lib.hid (show rcClient s = uGood s by unfold rcClient; rw [decide_eq_true h2, decide_eq_true (by omega)]; rfl)
      have hL : (s.length : Int) ≤ 23 := by omega
      clear h0 h2
      go_enter Tryz.func59, Tryz.ntmps59
      go_wp2_with fail
      rw [← HS.out]
      refine (uCheck_any w s hs).mono ?_
      rintro e w1 ⟨rfl, hk⟩
      rw [HS.out]
      have HK := Lib.hid hk
      clear hk
      cases hg : uGood s with
      | true =>
        have hc : uCode s = 0 := by unfold uCode; rw [hg]; rfl
        rw [hc]
        rw [hg] at HT
        clear hg
        go_wp2_with fail
        go_ret
        exact ⟨by rw [HT.out]; rfl, HK.out⟩
      | false =>
        have hc : uCode s = 220 := by unfold uCode; rw [hg]; rfl
        rw [hc]
        rw [hg] at HT
        clear hg
        go_wp2_with fail
        go_ret
        exact ⟨by rw [HT.out]; rfl, HK.out⟩
    · have HT := Lib.hid (show rcClient s = false by unfold rcClient; rw [decide_eq_false h2, Bool.false_and, Bool.and_false])
      have hL : ¬ (s.length : Int) ≤ 23 := by omega
      clear h0 h2
      go_enter Tryz.func59, Tryz.ntmps59
      go_wp2_with fail
      go_ret
      exact ⟨by rw [HT.out]; rfl, Keeps.refl _ _⟩
end Go.Proofs.YtfglgeoookbppaaGreatDoor
