/- Package keys: what a kind has: may, raw, compare. -/
import Derived.Test.YtfglgeoookbppaaGreatDoorPa13
import Derived.Test.YtfglgeoookbppaaGreatDoorPa15

namespace Go.Proofs.YtfglgeoookbppaaGreatDoor
open Go.RowKit Ieee

/-- A part as a value; its cells. -/
def kpCells (p : KP) : List Value := [.int .i64 p.k, .int .i64 p.n, .float .f64 p.f, strV p.s]
def kpV (p : KP) : Value := .agg #[.int .i64 p.k, .int .i64 p.n, .float .f64 p.f, strV p.s]
theorem order_zero (x : Nat) : (FloatKind.f64.format.order x 0 == some Ordering.eq) = fz x := by
  change (double.order x 0 == some Ordering.eq) = _
  unfold fz
  by_cases h : fInf < x % fS
  · rw [order_nan x 0 (.inl h)]
    simp
    omega
  · rw [order_key x 0 (by omega) (by decide), show fKey 0 = 0 by decide]
    by_cases hz : x % fS = 0
    · rw [hz]
      have : fKey x = 0 := by unfold fKey; rw [hz]; simp
      rw [this]; rfl
    · have hne : fKey x ≠ 0 := by unfold fKey; split <;> omega
      have h1 : (compare (fKey x) 0) ≠ Ordering.eq := fun h => hne (Int.compare_eq_eq.1 h)
      cases hc : compare (fKey x) 0
      · simp [hz]
      · exact absurd hc h1
      · simp [hz]

/-- The highest bit, turned. -/
theorem xor_high (m : Nat) (h : m < 18446744073709551616) : bits BinOp.xor IntKind.u64 (m : Int) 9223372036854775808 = ((if m < fS then m + fS else m - fS : Nat) : Int) := by
  have h1 := u64_xor_nat m 9223372036854775808 h (by omega)
  rw [show ((9223372036854775808 : Nat) : Int) = 9223372036854775808 from rfl] at h1
  rw [h1]
  congr 1
  have d := Nat.xor_div_two_pow (a := m) (b := 2 ^ 63) (n := 63)
  have r := Nat.xor_mod_two_pow (a := m) (b := 2 ^ 63) (n := 63)
  rw [show (9223372036854775808 : Nat) = 2 ^ 63 from rfl]
  have e := Nat.div_add_mod (m ^^^ 2 ^ 63) (2 ^ 63)
  rw [d, r, show 2 ^ 63 / 2 ^ 63 = 1 from rfl, show 2 ^ 63 % 2 ^ 63 = 0 from rfl, Nat.xor_zero] at e
  unfold fS
  have e2 := Nat.div_add_mod m (2 ^ 63)
  split
  · rw [show m / 2 ^ 63 = 0 by omega] at e e2
    rw [show (0 : Nat) ^^^ 1 = 1 from rfl] at e
    omega
  · rw [show m / 2 ^ 63 = 1 by omega] at e e2
    rw [show (1 : Nat) ^^^ 1 = 0 from rfl] at e
    omega
theorem xor_up (n : Int) (h1 : -9223372036854775808 ≤ n) (h2 : n ≤ 9223372036854775807) : bits BinOp.xor IntKind.u64 (IntKind.u64.wrap n) 9223372036854775808 = ((kUp n : Nat) : Int) := by
  have hw : IntKind.u64.wrap n = ((n % 18446744073709551616).toNat : Int) := by
    rw [IntKind.wrap_u64]
    omega
  rw [hw, xor_high _ (by omega)]
  unfold kUp fS
  split <;> omega

set_option maxRecDepth 100000 in
set_option maxHeartbeats 2000000 in
theorem kMayI_any (p : KP) (w : World) : Calls Tryz.prog 105 #[kpV p] w fun e w' => e = .returned (.bool (p.s.isEmpty && fz p.f)) ∧ Keeps w w' [] := by
  obtain ⟨k, n, f, s⟩ := p
  unfold kpV strV
  have hsf := @run_store_float Tryz.prog
  rcases s with _ | ⟨b, s⟩
  · have h := order_zero f
    go_enter Tryz.func105, Tryz.ntmps105
    go_wp2
    go_ret
    exact ⟨by simp, Keeps.alloc _ _⟩
  · go_enter Tryz.func105, Tryz.ntmps105
    go_wp2
    go_ret
    exact ⟨by simp, Keeps.alloc _ _⟩
set_option maxRecDepth 100000 in
set_option maxHeartbeats 2000000 in
theorem kMayF_any (p : KP) (w : World) : Calls Tryz.prog 112 #[kpV p] w fun e w' => e = .returned (.bool (p.s.isEmpty && p.n == 0)) ∧ Keeps w w' [] := by
  obtain ⟨k, n, f, s⟩ := p
  unfold kpV strV
  have hsf := @run_store_float Tryz.prog
  rcases s with _ | ⟨b, s⟩
  · go_enter Tryz.func112, Tryz.ntmps112
    go_wp2
    go_ret
    exact ⟨by simp, Keeps.alloc _ _⟩
  · go_enter Tryz.func112, Tryz.ntmps112
    go_wp2
    go_ret
    exact ⟨by simp, Keeps.alloc _ _⟩
set_option maxRecDepth 100000 in
set_option maxHeartbeats 2000000 in
theorem kMayT_any (p : KP) (w : World) : Calls Tryz.prog 120 #[kpV p] w fun e w' => e = .returned (.bool (p.n == 0 && fz p.f)) ∧ Keeps w w' [] := by
  obtain ⟨k, n, f, s⟩ := p
  unfold kpV strV
  have hsf := @run_store_float Tryz.prog
  have h := order_zero f
  cases hn : n == 0
  all_goals
    go_enter Tryz.func120, Tryz.ntmps120
    go_wp2
    go_ret
    exact ⟨by simp, Keeps.alloc _ _⟩
set_option maxRecDepth 100000 in
set_option maxHeartbeats 2000000 in
theorem kRawI_any (p : KP) (hp : p.Ok) (w : World) : Calls Tryz.prog 106 #[kpV p] w fun e w' => e = .returned (strV (toBE 8 (kUp p.n))) ∧ Keeps w w' [] := by
  obtain ⟨k, n, f, s⟩ := p
  have hn1 := hp.n1
  have hn2 := hp.n2
  simp only at hn1 hn2
  unfold kpV strV
  have hsf := @run_store_float Tryz.prog
  have hx := xor_up n hn1 hn2
  have HL := Lib.hid (show kUp n < 18446744073709551616 by unfold kUp; omega)
  go_enter Tryz.func106, Tryz.ntmps106
  go_wp2_with (go_at_call 107; refine (kLaid_any _ _ HL.out).mono ?_; rintro e w' ⟨rfl, hk⟩)
  go_ret
  exact ⟨rfl, (Keeps.alloc _ _).trans hk (by simp)⟩
set_option maxRecDepth 100000 in
set_option maxHeartbeats 2000000 in
theorem kRawF_any (p : KP) (hp : p.Ok) (w : World) : Calls Tryz.prog 113 #[kpV p] w fun e w' => e = .returned (strV (toBE 8 (kOf p.f))) ∧ Keeps w w' [] := by
  obtain ⟨k, n, f, s⟩ := p
  have HF := Lib.hid hp.f
  unfold kpV strV
  have hsf := @run_store_float Tryz.prog
  have HL := Lib.hid (kOf_lt f HF.out)
  go_enter Tryz.func113, Tryz.ntmps113
  go_wp2_with (first
    | (go_at_call 114; refine (kBits_any _ HF.out _).mono ?_; rintro e w' ⟨rfl, rfl⟩)
    | (go_at_call 107; refine (kLaid_any _ _ HL.out).mono ?_; rintro e w' ⟨rfl, hk⟩))
  go_ret
  exact ⟨rfl, (Keeps.alloc _ _).trans hk (by simp)⟩
end Go.Proofs.YtfglgeoookbppaaGreatDoor
