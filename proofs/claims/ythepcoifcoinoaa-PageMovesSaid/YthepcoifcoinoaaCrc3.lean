/- Walks over package crc (layer 1): a new sum under way; is there none; the sum told. -/
import Derived.Test.YthepcoifcoinoaaCrc2
namespace Go.Proofs.Ythepcoifcoinoaa
open Go.RowKit

theorem ret_int {k : IntKind} {a b : Int} (h : a = b) : Ending.returned (.int k a) = .returned (.int k b) := by rw [h]

/-- A sum under way at a: n bytes were written, the register holds s. -/
def Adder (w : World) (g a : Nat) (n : Int) (s : Nat) : Prop :=
  Words w g ∧ Row w a 129 #[.int .i64 n, .pointer (some ⟨g, 0, none⟩), .int .u32 (s : Int)] ∧ g < a

set_option maxRecDepth 100000 in
set_option maxHeartbeats 400000 in
theorem newAdder_any (w : World) :
    Calls Try.prog 64 #[] w fun e w' => ∃ g a, e = .returned (.pointer (some ⟨a, 0, none⟩)) ∧ Adder w' g a 0 4294967295 ∧ w.heap.size ≤ g ∧ Keeps w w' [] := by
  go_enter Try.func64, Try.ntmps64
  go_wp2_with (go_at_call 74; refine (words_any _).mono ?_; rintro e w' ⟨rfl, hw1, hk1⟩)
  have HW := Lib.hid (And.intro hw1 hk1)
  clear hw1 hk1
  go_wp2
  go_ret
  have hl := HW.out.1.lt
  refine ⟨w.heap.size, w'.heap.size, rfl, ⟨HW.out.1.keep (Keeps.alloc _ _) (by simp), Row.new _ _ _, hl⟩, Nat.le_refl _, HW.out.2.trans (Keeps.alloc _ _) (by simp)⟩

set_option maxRecDepth 100000 in
set_option maxHeartbeats 400000 in
theorem adderNone_any (w : World) (g a : Nat) (n : Int) (s : Nat) (h : Adder w g a n s) :
    Calls Try.prog 76 #[.pointer (some ⟨a, 0, none⟩)] w fun e w' => e = .returned (.bool false) ∧ w = w' := by
  obtain ⟨_, hr, _⟩ := h
  have h1 := hr.cell 1
  clear hr
  go_enter Try.func76, Try.ntmps76
  go_wp2
  go_ret
  exact ⟨rfl, rfl⟩

set_option maxRecDepth 100000 in
set_option maxHeartbeats 400000 in
theorem adderSum_any (w : World) (g a : Nat) (n : Int) (s : Nat) (h : Adder w g a n s) (hs : s < 4294967296) :
    Calls Try.prog 66 #[.pointer (some ⟨a, 0, none⟩)] w fun e w' => e = .returned (.int .u32 ((4294967295 - s : Nat) : Int)) ∧ w = w' := by
  have hn := adderNone_any w g a n s h
  obtain ⟨_, hr, _⟩ := h
  have h1 := hr.cell 2
  clear hr
  go_enter Try.func66, Try.ntmps66
  go_wp2_with (go_at_call 76; refine (hn).mono ?_; rintro e w' ⟨rfl, rfl⟩)
  go_wp2
  go_ret
  exact ⟨ret_int (not32 s hs), rfl⟩
end Go.Proofs.Ythepcoifcoinoaa
