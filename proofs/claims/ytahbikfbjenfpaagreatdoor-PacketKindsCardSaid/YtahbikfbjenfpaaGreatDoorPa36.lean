/- Package packet: Text, Asks. -/
import Derived.Test.YtahbikfbjenfpaaGreatDoorPa35

namespace Go.Proofs.YtahbikfbjenfpaaGreatDoor
open Go.RowKit Go.Shelf

def pkNames : List (List UInt8) := [[], [99, 111, 110, 110, 101, 99, 116], [99, 111, 110, 110, 97, 99, 107], [112, 117, 98, 108, 105, 115, 104], [112, 117, 98, 97, 99, 107], [112, 117, 98, 114, 101, 99], [112, 117, 98, 114, 101, 108], [112, 117, 98, 99, 111, 109, 112], [115, 117, 98, 115, 99, 114, 105, 98, 101], [115, 117, 98, 97, 99, 107], [117, 110, 115, 117, 98, 115, 99, 114, 105, 98, 101], [117, 110, 115, 117, 98, 97, 99, 107], [112, 105, 110, 103, 114, 101, 113], [112, 105, 110, 103, 114, 101, 115, 112], [100, 105, 115, 99, 111, 110, 110, 101, 99, 116]]
abbrev pkNamesA : Array Value := #[.string ⟨#[]⟩, .string ⟨#[99, 111, 110, 110, 101, 99, 116]⟩, .string ⟨#[99, 111, 110, 110, 97, 99, 107]⟩, .string ⟨#[112, 117, 98, 108, 105, 115, 104]⟩, .string ⟨#[112, 117, 98, 97, 99, 107]⟩, .string ⟨#[112, 117, 98, 114, 101, 99]⟩, .string ⟨#[112, 117, 98, 114, 101, 108]⟩, .string ⟨#[112, 117, 98, 99, 111, 109, 112]⟩, .string ⟨#[115, 117, 98, 115, 99, 114, 105, 98, 101]⟩, .string ⟨#[115, 117, 98, 97, 99, 107]⟩, .string ⟨#[117, 110, 115, 117, 98, 115, 99, 114, 105, 98, 101]⟩, .string ⟨#[117, 110, 115, 117, 98, 97, 99, 107]⟩, .string ⟨#[112, 105, 110, 103, 114, 101, 113]⟩, .string ⟨#[112, 105, 110, 103, 114, 101, 115, 112]⟩, .string ⟨#[100, 105, 115, 99, 111, 110, 110, 101, 99, 116]⟩]
def pkText (k : Int) : List UInt8 := if 1 ≤ k ∧ k ≤ 14 then pkNames.getD k.toNat [] else []
set_option maxRecDepth 100000 in
theorem pkNamesIx1 (w : World) : (Instr.index 93 (.agg pkNamesA) (.int .i64 1)).run Tryz.prog w = .ok (.string ⟨(pkText 1).toArray⟩) w := by kernel_rfl
set_option maxRecDepth 100000 in
theorem pkNamesIx2 (w : World) : (Instr.index 93 (.agg pkNamesA) (.int .i64 2)).run Tryz.prog w = .ok (.string ⟨(pkText 2).toArray⟩) w := by kernel_rfl
set_option maxRecDepth 100000 in
theorem pkNamesIx3 (w : World) : (Instr.index 93 (.agg pkNamesA) (.int .i64 3)).run Tryz.prog w = .ok (.string ⟨(pkText 3).toArray⟩) w := by kernel_rfl
set_option maxRecDepth 100000 in
theorem pkNamesIx4 (w : World) : (Instr.index 93 (.agg pkNamesA) (.int .i64 4)).run Tryz.prog w = .ok (.string ⟨(pkText 4).toArray⟩) w := by kernel_rfl
set_option maxRecDepth 100000 in
theorem pkNamesIx5 (w : World) : (Instr.index 93 (.agg pkNamesA) (.int .i64 5)).run Tryz.prog w = .ok (.string ⟨(pkText 5).toArray⟩) w := by kernel_rfl
set_option maxRecDepth 100000 in
theorem pkNamesIx6 (w : World) : (Instr.index 93 (.agg pkNamesA) (.int .i64 6)).run Tryz.prog w = .ok (.string ⟨(pkText 6).toArray⟩) w := by kernel_rfl
set_option maxRecDepth 100000 in
theorem pkNamesIx7 (w : World) : (Instr.index 93 (.agg pkNamesA) (.int .i64 7)).run Tryz.prog w = .ok (.string ⟨(pkText 7).toArray⟩) w := by kernel_rfl
set_option maxRecDepth 100000 in
theorem pkNamesIx8 (w : World) : (Instr.index 93 (.agg pkNamesA) (.int .i64 8)).run Tryz.prog w = .ok (.string ⟨(pkText 8).toArray⟩) w := by kernel_rfl
set_option maxRecDepth 100000 in
theorem pkNamesIx9 (w : World) : (Instr.index 93 (.agg pkNamesA) (.int .i64 9)).run Tryz.prog w = .ok (.string ⟨(pkText 9).toArray⟩) w := by kernel_rfl
set_option maxRecDepth 100000 in
theorem pkNamesIx10 (w : World) : (Instr.index 93 (.agg pkNamesA) (.int .i64 10)).run Tryz.prog w = .ok (.string ⟨(pkText 10).toArray⟩) w := by kernel_rfl
set_option maxRecDepth 100000 in
theorem pkNamesIx11 (w : World) : (Instr.index 93 (.agg pkNamesA) (.int .i64 11)).run Tryz.prog w = .ok (.string ⟨(pkText 11).toArray⟩) w := by kernel_rfl
set_option maxRecDepth 100000 in
theorem pkNamesIx12 (w : World) : (Instr.index 93 (.agg pkNamesA) (.int .i64 12)).run Tryz.prog w = .ok (.string ⟨(pkText 12).toArray⟩) w := by kernel_rfl
set_option maxRecDepth 100000 in
theorem pkNamesIx13 (w : World) : (Instr.index 93 (.agg pkNamesA) (.int .i64 13)).run Tryz.prog w = .ok (.string ⟨(pkText 13).toArray⟩) w := by kernel_rfl
set_option maxRecDepth 100000 in
theorem pkNamesIx14 (w : World) : (Instr.index 93 (.agg pkNamesA) (.int .i64 14)).run Tryz.prog w = .ok (.string ⟨(pkText 14).toArray⟩) w := by kernel_rfl
theorem pkNamesIx {k : Int} (hk : 1 ≤ k ∧ k ≤ 14) (w : World) : (Instr.index 93 (.agg pkNamesA) (.int .i64 k)).run Tryz.prog w = .ok (.string ⟨(pkText k).toArray⟩) w := by
 have h : k = 1 ∨ k = 2 ∨ k = 3 ∨ k = 4 ∨ k = 5 ∨ k = 6 ∨ k = 7 ∨ k = 8 ∨ k = 9 ∨ k = 10 ∨ k = 11 ∨ k = 12 ∨ k = 13 ∨ k = 14 := by omega
 rcases h with h | h | h | h | h | h | h | h | h | h | h | h | h | h <;> subst h
 ·exact pkNamesIx1 w
 ·exact pkNamesIx2 w
 ·exact pkNamesIx3 w
 ·exact pkNamesIx4 w
 ·exact pkNamesIx5 w
 ·exact pkNamesIx6 w
 ·exact pkNamesIx7 w
 ·exact pkNamesIx8 w
 ·exact pkNamesIx9 w
 ·exact pkNamesIx10 w
 ·exact pkNamesIx11 w
 ·exact pkNamesIx12 w
 ·exact pkNamesIx13 w
 ·exact pkNamesIx14 w
theorem undNames : ∃ d, Tryz.prog.underlying 93 = some d ∧ d.isRow = true := ⟨_, Tryz.underlying93, rfl⟩
set_option maxRecDepth 100000 in
set_option maxHeartbeats 2000000 in
theorem pkNames_any (w : World) : Calls Tryz.prog 46 #[] w fun e w' => e = .returned (.agg pkNamesA) ∧ Keeps w w' [] := by
 obtain ⟨X, hX⟩ : ∃ X : Array Value, X = pkNamesA := ⟨_, rfl⟩
 rw [← hX]
 have HX := Lib.hid hX
 clear hX
 go_enter Tryz.func46, Tryz.ntmps46
 go_wp2_with (refine wpList_store_new rfl (.tmp 0) (.tmp 1) rfl pkNamesA #[.string ⟨#[]⟩, .string ⟨#[]⟩, .string ⟨#[]⟩, .string ⟨#[]⟩, .string ⟨#[]⟩, .string ⟨#[]⟩, .string ⟨#[]⟩, .string ⟨#[]⟩, .string ⟨#[]⟩, .string ⟨#[]⟩, .string ⟨#[]⟩, .string ⟨#[]⟩, .string ⟨#[]⟩, .string ⟨#[]⟩, .string ⟨#[]⟩] w rfl (by kernel_rfl) rfl (by simp [Value.oneCell']) rfl rfl ?_; intro w5 hw5)
 refine Lib.hid ?_
 have q9 : Row w5 w.heap.size 93 X := by rw [← hw5, HX.out]; exact Row.new _ _ _
 have k9 : Keeps w w5 [] := by rw [← hw5]; exact Keeps.alloc _ _
 have H9 := Lib.hid (And.intro q9 k9)
 clear k9 q9 hw5
 go_wp2_with fail
 obtain ⟨d, hu, hd⟩ := undNames
 exact bodyPost_ret (results_row (s := 0) (cs := X.toList) rfl rfl (range_row H9.out.1) hu hd (by rw [HX.out]; kernel_rfl)) rfl ⟨rfl, H9.out.2⟩
def pkTextE (k : Int) : Int := if 1 ≤ k ∧ k ≤ 14 then 0 else 2
set_option maxRecDepth 100000 in
set_option maxHeartbeats 1000000 in
theorem pkText_any (k : Int) (w : World) : Calls Tryz.prog 19 #[.int .i64 k] w fun e w' => e = .returned (.tuple #[.string ⟨(pkText k).toArray⟩, .int .i64 (pkTextE k)]) ∧ Keeps w w' [] := by
 by_cases hk : 1 ≤ k ∧ k ≤ 14
 ·have e2 : pkTextE k = 0 := if_pos hk
  have h1 : decide (k < 1) = false := by simp; omega
  have h2 : decide (k > 14) = false := by simp; omega
  have hi := fun w => pkNamesIx hk w
  obtain ⟨T, hT⟩ : ∃ T : Array UInt8, (pkText k).toArray = T := ⟨_, rfl⟩
  rw [e2, hT]
  rw [hT] at hi
  clear hT e2 hk
  obtain ⟨A, hA⟩ : ∃ A, pkNamesA = A := ⟨_, rfl⟩
  have HN := Lib.hid (fun w => pkNames_any w)
  rw [hA] at hi HN
  clear hA
  go_enter Tryz.func19, Tryz.ntmps19
  go_wp2_with fail
  refine (HN.out _).mono ?_
  rintro e w' ⟨rfl, hk'⟩
  have HK := Lib.hid hk'
  clear hk'
  have hi' := hi w'
  go_wp2_with fail
  refine bodyPost_ret (v := .tuple #[.string ⟨T⟩, .int .i64 0]) (by simp [results, Tryz.results19, go_sem]) rfl ⟨rfl, HK.out⟩
 ·have e1 : pkText k = [] := if_neg hk
  have e2 : pkTextE k = 2 := if_neg hk
  rw [e1, e2]
  clear e1 e2
  by_cases h1 : k < 1
  ·have b1 : decide (k < 1) = true := by simpa using h1
   clear hk h1
   go_enter Tryz.func19, Tryz.ntmps19
   go_wp2_with fail
   refine bodyPost_ret (v := .tuple #[.string ⟨#[]⟩, .int .i64 2]) (by simp [results, Tryz.results19, go_sem]) rfl ⟨rfl, Keeps.refl _ _⟩
  ·have b1 : decide (k < 1) = false := by simpa using h1
   have b2 : decide (k > 14) = true := by simp; omega
   clear hk h1
   go_enter Tryz.func19, Tryz.ntmps19
   go_wp2_with fail
   refine bodyPost_ret (v := .tuple #[.string ⟨#[]⟩, .int .i64 2]) (by simp [results, Tryz.results19, go_sem]) rfl ⟨rfl, Keeps.refl _ _⟩
end Go.Proofs.YtahbikfbjenfpaaGreatDoor
