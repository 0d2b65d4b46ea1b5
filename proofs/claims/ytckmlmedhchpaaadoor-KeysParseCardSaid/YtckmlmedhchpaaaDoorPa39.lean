/- Package pigeonryref18: May, part. -/
import Derived.Test.YtckmlmedhchpaaaDoorPa38
import Derived.Test.YtckmlmedhchpaaaDoorPa17
import Derived.Test.YtckmlmedhchpaaaDoorPa21
import Derived.Test.YtckmlmedhchpaaaDoorPa27

namespace Go.Proofs.YtckmlmedhchpaaaDoor
open Go.RowKit

theorem isEmpty_eq (s : List UInt8) : (s == []) = s.isEmpty := by cases s <;> rfl
set_option maxRecDepth 100000 in
set_option maxHeartbeats 4000000 in
theorem refMay_any (p : KP) (w : World) : Calls Tryd.prog 13 #[kpV p] w fun e w' => e = .returned (.bool (kMay p)) ∧ Keeps w w' [] := by
  obtain ⟨k, n, f, s⟩ := p
  have t1 := strV_toList s
  have t2 := isEmpty_eq s
  have z1 := order_zero f
  obtain ⟨E, hE⟩ : ∃ b, s.isEmpty = b := ⟨_, rfl⟩
  obtain ⟨Z, hZ⟩ : ∃ b, fz f = b := ⟨_, rfl⟩
  obtain ⟨N, hN⟩ : ∃ b, (n == 0) = b := ⟨_, rfl⟩
  rw [hE] at t2
  rw [hZ] at z1
  rcases kind_cases k with rfl | rfl | rfl | ⟨h1, h2, h3⟩
  · have HV := Lib.hid (show kMay ⟨1, n, f, s⟩ = (E && Z) by show (s.isEmpty && fz f) = _; rw [hE, hZ])
    clear hE hZ hN
    cases E <;> cases Z
    all_goals
      unfold kpV strV
      have hsf := @run_store_float Tryd.prog
      go_enter Tryd.func13, Tryd.ntmps13
      go_wp2
      go_ret
      exact ⟨by rw [HV.out]; rfl, Keeps.alloc _ _⟩
  · have HV := Lib.hid (show kMay ⟨2, n, f, s⟩ = (E && N) by show (s.isEmpty && n == 0) = _; rw [hE, hN])
    clear hE hZ
    cases E <;> cases N
    all_goals
      unfold kpV strV
      have hsf := @run_store_float Tryd.prog
      go_enter Tryd.func13, Tryd.ntmps13
      go_wp2
      go_ret
      exact ⟨by rw [HV.out]; rfl, Keeps.alloc _ _⟩
  · have HV := Lib.hid (show kMay ⟨3, n, f, s⟩ = (N && Z) by show (n == 0 && fz f) = _; rw [hN, hZ])
    clear hE hZ
    cases Z <;> cases N
    all_goals
      unfold kpV strV
      have hsf := @run_store_float Tryd.prog
      go_enter Tryd.func13, Tryd.ntmps13
      go_wp2
      go_ret
      exact ⟨by rw [HV.out]; rfl, Keeps.alloc _ _⟩
  · have HV := Lib.hid (show kMay ⟨k, n, f, s⟩ = false by simp [kMay, h1, h2, h3])
    have k1 : (k == 1) = false := by simpa using h1
    have k2 : (k == 2) = false := by simpa using h2
    have k3 : (k == 3) = false := by simpa using h3
    clear hE hZ hN h1 h2 h3
    unfold kpV strV
    have hsf := @run_store_float Tryd.prog
    go_enter Tryd.func13, Tryd.ntmps13
    go_wp2
    go_ret
    exact ⟨by rw [HV.out]; rfl, Keeps.alloc _ _⟩
end Go.Proofs.YtckmlmedhchpaaaDoor
