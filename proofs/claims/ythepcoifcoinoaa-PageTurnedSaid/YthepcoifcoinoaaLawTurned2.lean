/- The statement PageTurned (layer 4): the walk, whole. -/
import Derived.Test.YthepcoifcoinoaaLawTurned
namespace Go.Proofs.Ythepcoifcoinoaa
open Go.RowKit

set_option maxRecDepth 100000 in
set_option maxHeartbeats 2000000 in
theorem pageTurned_long (w : World) (m k t n : Int) (A : Option Addr) (len c : Nat) (x0 x1 x2 : Int) (h : 300 < len) (hm : len ≤ 9223372036854775807) :
    Calls Try.prog 4 #[.int .i64 m, .agg #[.int .i64 k, .int .i64 t, .int .i64 n, .slice A len c], .agg #[.int .i64 x0, .int .i64 x1, .int .i64 x2]] w fun e w' => e = .returned (.bool true) ∧ Keeps w w' [] := by
  have d1 : decide ((300 : Int) < (len : Int)) = true := by simp; omega
  clear h
  go_enter Try.func4, Try.ntmps4
  go_wp2_with fail
  refine (known4_any _).mono ?_
  rintro e w1 ⟨rfl, hk1⟩
  have H := Lib.hid (((Keeps.alloc _ _).then_alloc _).then_ hk1)
  clear hk1
  go_wp2
  go_ret
  exact ⟨rfl, H.out⟩

set_option maxRecDepth 100000 in
set_option maxHeartbeats 2000000 in
theorem pageTurned_no (w : World) (m k t n : Int) (A : Option Addr) (len c : Nat) (x0 x1 x2 : Int) (h300 : len ≤ 300) (hno : (pageOk k t n len && withinB m 0 4095) = false) :
    Calls Try.prog 4 #[.int .i64 m, .agg #[.int .i64 k, .int .i64 t, .int .i64 n, .slice A len c], .agg #[.int .i64 x0, .int .i64 x1, .int .i64 x2]] w fun e w' => e = .returned (.bool true) ∧ Keeps w w' [] := by
  have d1 : decide ((300 : Int) < (len : Int)) = false := by simp; omega
  have HN := Lib.hid hno
  clear hno
  go_enter Try.func4, Try.ntmps4
  go_wp2_with fail
  refine (rawNo_any _ m k t n A len c (by omega) HN.out).mono ?_
  rintro e w1 ⟨rfl, hk1⟩
  have H1 := Lib.hid (((Keeps.alloc _ _).then_alloc _).then_ hk1)
  clear hk1
  go_wp2_with fail
  refine (known4_any _).mono ?_
  rintro e w2 ⟨rfl, hk2⟩
  have H2 := Lib.hid (H1.out.then_ hk2)
  clear hk2
  go_wp2
  go_ret
  exact ⟨rfl, H2.out⟩

theorem pageTurned_came (w : World) (m k t n : Int) (A : Option Addr) (c : Nat) (l : List UInt8) (x0 x1 x2 : Int) (hC : Came w A c l) :
    Calls Try.prog 4 #[.int .i64 m, .agg #[.int .i64 k, .int .i64 t, .int .i64 n, .slice A l.length c], .agg #[.int .i64 x0, .int .i64 x1, .int .i64 x2]] w fun e w' => e = .returned (.bool true) ∧ Keeps w w' [] := by
  by_cases h : l.length ≤ 300
  · cases hok : (pageOk k t n l.length && withinB m 0 4095)
    · exact pageTurned_no w m k t n A l.length c x0 x1 x2 h hok
    · obtain ⟨h1, h2⟩ := Bool.and_eq_true_iff.1 hok
      exact pageTurned_yes w m k t n A c l x0 x1 x2 hC h h1 h2
  · exact pageTurned_long w m k t n A l.length c x0 x1 x2 (by omega) hC.small
end Go.Proofs.Ythepcoifcoinoaa
