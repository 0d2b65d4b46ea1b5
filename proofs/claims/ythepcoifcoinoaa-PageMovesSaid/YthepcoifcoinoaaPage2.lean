/- Walks over package page (layer 4) and its reference: sameness, what may be, numbers of the reference. -/
import Derived.Test.YthepcoifcoinoaaPage1
namespace Go.Proofs.Ythepcoifcoinoaa
open Go.RowKit

theorem pageOk_dec (k t n : Int) (len : Nat) : pageOk k t n len = decide (1 ≤ k ∧ k ≤ 5 ∧ 0 ≤ t ∧ t ≤ 4611686018427387904 ∧ 0 ≤ n ∧ n ≤ 4095 ∧ len ≤ 232) := by
  rw [Bool.eq_iff_iff]
  simp [pageOk, withinB, and_assoc]
theorem ret_bool {a b : Bool} (h : a = b) : Ending.returned (.bool a) = .returned (.bool b) := by rw [h]

set_option maxRecDepth 100000 in
set_option maxHeartbeats 2000000 in
theorem right_any (k t n : Int) (A : Option Addr) (len c : Nat) (hlen : len ≤ 140737488351232) (w : World) :
    Calls Try.prog 20 #[.agg #[.int .i64 k, .int .i64 t, .int .i64 n, .slice A len c]] w fun e w' => e = .returned (.bool (pageOk k t n len)) ∧ Keeps w w' [] := by
  go_enter Try.func20, Try.ntmps20
  go_wp2
  all_goals
    go_ret
    refine ⟨ret_bool ?_, Keeps.alloc _ _⟩
    rw [pageOk_dec]
    first
      | exact (decide_eq_true (by omega)).symm
      | exact (decide_eq_false (by omega)).symm
      | (rw [decide_eq_decide]; omega)
end Go.Proofs.Ythepcoifcoinoaa
