/- Walks over package page (layer 4) and its reference: what may be a page. -/
import Derived.Test.YthepcoifcoinoaaWrite2
namespace Go.Proofs.Ythepcoifcoinoaa
open Go.RowKit

set_option maxRecDepth 100000 in
set_option maxHeartbeats 400000 in
theorem within_any (n a b : Int) (w : World) :
    Calls Try.prog 45 #[.int .i64 n, .int .i64 a, .int .i64 b] w fun e w' => e = .returned (.bool (withinB n a b)) ∧ w = w' := by
  by_cases h : a ≤ n <;> by_cases h2 : n ≤ b
  all_goals
    go_enter Try.func45, Try.ntmps45
    go_wp2
    go_ret
    exact ⟨by simp [withinB, h, h2], rfl⟩

/-- What a kind is called. -/
def kindName : Int → ByteArray
  | 1 => ⟨#[109, 101, 116, 97]⟩
  | 2 => ⟨#[108, 101, 97, 102]⟩
  | 3 => ⟨#[98, 114, 97, 110, 99, 104]⟩
  | 4 => ⟨#[99, 104, 97, 105, 110]⟩
  | _ => ⟨#[102, 114, 101, 101]⟩

set_option maxRecDepth 100000 in
set_option maxHeartbeats 1000000 in
theorem names_any (w : World) :
    Calls Try.prog 53 #[] w fun e w' => e = .returned (.agg #[.string ByteArray.empty, .string (kindName 1), .string (kindName 2), .string (kindName 3), .string (kindName 4), .string (kindName 5)]) ∧ Keeps w w' [] := by
  go_enter Try.func53, Try.ntmps53
  go_wp2
  exact bodyPost_ret (v := .agg #[.string ByteArray.empty, .string (kindName 1), .string (kindName 2), .string (kindName 3), .string (kindName 4), .string (kindName 5)]) (by simp [results, Try.results53, go_sem]; exact ⟨rfl, rfl, rfl, rfl, rfl, rfl⟩) rfl ⟨rfl, Keeps.alloc _ _⟩

set_option maxRecDepth 100000 in
set_option maxHeartbeats 1000000 in
theorem textNo_any (k : Int) (hk : k < 1 ∨ 5 < k) (w : World) :
    Calls Try.prog 23 #[.int .i64 k] w fun e w' => e = .returned (.tuple #[.string ByteArray.empty, .int .i64 2]) ∧ w = w' := by
  by_cases h : k < 1
  all_goals
    go_enter Try.func23, Try.ntmps23
    go_wp2
    go_ret2
    exact ⟨rfl, rfl⟩

theorem name_at (k : Int) (hk : k = 1 ∨ k = 2 ∨ k = 3 ∨ k = 4 ∨ k = 5) (w : World) :
    (Instr.index 91 (.agg #[.string ByteArray.empty, .string (kindName 1), .string (kindName 2), .string (kindName 3), .string (kindName 4), .string (kindName 5)]) (.int .i64 k)).run Try.prog w = .ok (.string (kindName k)) w := by
  rcases hk with rfl | rfl | rfl | rfl | rfl <;> kernel_rfl

set_option maxRecDepth 100000 in
set_option maxHeartbeats 1000000 in
theorem textYes_any (k : Int) (hk : 1 ≤ k ∧ k ≤ 5) (w : World) :
    Calls Try.prog 23 #[.int .i64 k] w fun e w' => e = .returned (.tuple #[.string (kindName k), .int .i64 0]) ∧ Keeps w w' [] := by
  have hi := fun w => name_at k (by omega) w
  have b1 : ¬ k < 1 := by omega
  have b2 : ¬ 5 < k := by omega
  clear hk
  go_enter Try.func23, Try.ntmps23
  go_wp2_with fail
  refine (names_any _).mono ?_
  rintro e w1 ⟨rfl, hk⟩
  have HK := Lib.hid hk
  clear hk
  go_wp2
  go_ret2
  exact ⟨rfl, HK.out⟩

/-- May a page of these parts be? -/
def pageOk (k t n : Int) (len : Nat) : Bool := withinB k 1 5 && (withinB t 0 4611686018427387904 && (withinB n 0 4095 && decide (len ≤ 232)))
theorem pageOk_true {k t n : Int} {len : Nat} (h : pageOk k t n len = true) : (1 ≤ k ∧ k ≤ 5) ∧ (0 ≤ t ∧ t ≤ 4611686018427387904) ∧ (0 ≤ n ∧ n ≤ 4095) ∧ len ≤ 232 := by
  simpa [pageOk, withinB] using h

set_option maxRecDepth 100000 in
set_option maxHeartbeats 1000000 in
theorem checkYes_any (k t n : Int) (A : Option Addr) (len c : Nat) (h : pageOk k t n len = true) (w : World) :
    Calls Try.prog 19 #[.agg #[.int .i64 k, .int .i64 t, .int .i64 n, .slice A len c]] w fun e w' => e = .returned (.int .i64 0) ∧ Keeps w w' [] := by
  obtain ⟨hk, ht, hn, hl⟩ := pageOk_true h
  have b1 : withinB t 0 4611686018427387904 = true := by simp [withinB, ht]
  have b2 : withinB n 0 4095 = true := by simp [withinB, hn]
  have h4 : decide ((232 : Int) < (len : Int)) = false := by simp; omega
  clear h
  go_enter Try.func19, Try.ntmps19
  go_wp2_with fail
  refine (textYes_any k hk _).mono ?_
  rintro e w1 ⟨rfl, hk1⟩
  have r1 := (Row.new w 26 #[.int .i64 k, .int .i64 t, .int .i64 n, .slice A len c]).keep hk1 (by simp)
  have HK := Lib.hid ((Keeps.alloc w (.cells #[.int .i64 k, .int .i64 t, .int .i64 n, .slice A len c] 26)).trans hk1 (by simp))
  have c1 := r1.cell 1
  have c2 := r1.cell 2
  have c3 := r1.cell 3
  clear r1 hk1 hk ht hn
  go_wp2_with fail
  refine (within_any _ _ _ _).mono ?_
  rintro e w2 ⟨rfl, rfl⟩
  rw [b1]
  go_wp2_with fail
  refine (within_any _ _ _ _).mono ?_
  rintro e w2 ⟨rfl, rfl⟩
  rw [b2]
  go_wp2
  go_ret
  exact ⟨rfl, HK.out⟩

set_option maxRecDepth 100000 in
set_option maxHeartbeats 2000000 in
theorem checkNo_any (k t n : Int) (A : Option Addr) (len c : Nat) (hlen : len ≤ 140737488351232) (h : pageOk k t n len = false) (w : World) :
    Calls Try.prog 19 #[.agg #[.int .i64 k, .int .i64 t, .int .i64 n, .slice A len c]] w fun e w' => e = .returned (.int .i64 2) ∧ Keeps w w' [] := by
  by_cases hk : 1 ≤ k ∧ k ≤ 5
  · cases b1 : withinB t 0 4611686018427387904 <;> cases b2 : withinB n 0 4095
    all_goals
      have B1 := Lib.hid b1
      have B2 := Lib.hid b2
      have h4 : withinB t 0 4611686018427387904 = true → withinB n 0 4095 = true → decide ((232 : Int) < (len : Int)) = true := by
        intro e1 e2
        have hk' : withinB k 1 5 = true := by simp [withinB, hk]
        simp only [pageOk, e1, e2, hk', Bool.true_and, decide_eq_false_iff_not] at h
        simp; omega
      first
        | have h5 := h4 b1 b2
        | skip
      clear h4 h b1 b2
      go_enter Try.func19, Try.ntmps19
      go_wp2_with fail
      refine (textYes_any k hk _).mono ?_
      rintro e w1 ⟨rfl, hk1⟩
      have r1 := (Row.new w 26 #[.int .i64 k, .int .i64 t, .int .i64 n, .slice A len c]).keep hk1 (by simp)
      have HK := Lib.hid ((Keeps.alloc w (.cells #[.int .i64 k, .int .i64 t, .int .i64 n, .slice A len c] 26)).trans hk1 (by simp))
      have c1 := r1.cell 1
      have c2 := r1.cell 2
      have c3 := r1.cell 3
      clear r1 hk1
      go_wp2_with (go_at_call 45; refine (within_any _ _ _ _).mono ?_; rintro e w2 ⟨rfl, rfl⟩; first | rw [B1.out] | rw [B2.out])
      go_wp2
      go_ret
      exact ⟨rfl, HK.out⟩
  · clear h
    have hk' : k < 1 ∨ 5 < k := by omega
    clear hk
    go_enter Try.func19, Try.ntmps19
    go_wp2_with fail
    refine (textNo_any k hk' _).mono ?_
    rintro e w1 ⟨rfl, rfl⟩
    clear hk'
    go_wp2
    go_ret
    exact ⟨rfl, Keeps.alloc _ _⟩
end Go.Proofs.Ythepcoifcoinoaa
