/- Reference 19: Tree, a part of a text, of a number. -/
import Derived.Test.YtfglgeoookbppaaGreatDoorPa33

namespace Go.Proofs.YtfglgeoookbppaaGreatDoor
open Go.RowKit Go.Shelf

theorem rrTree_any (k : Int) (w : World) (hi : rcIs k = true) : Calls Tryz.prog 17 #[.int .i64 k] w fun e w' => e = .returned (strV (rcTree k)) ∧ Keeps w w' [] := by
 have hk : k = 1 ∨ k = 2 ∨ k = 3 ∨ k = 4 ∨ k = 5 := by
  unfold rcIs inN at hi
  simp only [Bool.and_eq_true, decide_eq_true_eq] at hi
  omega
 clear hi
 rcases hk with rfl | rfl | rfl | rfl | rfl
 all_goals
  go_enter Tryz.func17, Tryz.ntmps17
  go_wp2_with fail
  go_ret
  exact ⟨rfl, Keeps.alloc _ _⟩
set_option maxRecDepth 100000 in
set_option maxHeartbeats 400000 in
theorem rrText_any (s : List UInt8) (w : World) : Calls Tryz.prog 81 #[.string ⟨s.toArray⟩] w fun e w' => e = .returned (kpV (kText s)) ∧ Keeps w w' [] := by
 have hsf := @run_store_float Tryz.prog
 go_enter Tryz.func81, Tryz.ntmps81
 go_wp2
 exact bodyPost_ret (v := .agg #[.int .i64 3, .int .i64 0, .float .f64 0, .string ⟨s.toArray⟩]) (by simp [results, Tryz.results81, go_sem]) rfl ⟨rfl, Keeps.alloc _ _⟩
set_option maxRecDepth 100000 in
set_option maxHeartbeats 400000 in
theorem rrWhole_any (n : Int) (w : World) : Calls Tryz.prog 32 #[.int .i64 n] w fun e w' => e = .returned (kpV (kInt n)) ∧ Keeps w w' [] := by
 have hsf := @run_store_float Tryz.prog
 go_enter Tryz.func32, Tryz.ntmps32
 go_wp2
 exact bodyPost_ret (v := .agg #[.int .i64 1, .int .i64 n, .float .f64 0, .string ⟨#[]⟩]) (by simp [results, Tryz.results32, go_sem]) rfl ⟨rfl, Keeps.alloc _ _⟩
end Go.Proofs.YtfglgeoookbppaaGreatDoor
