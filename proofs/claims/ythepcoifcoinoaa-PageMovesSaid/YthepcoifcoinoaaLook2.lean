/- Walks over package page (layer 4): Look's two closures; are all of some bytes noughts. -/
import Derived.Test.YthepcoifcoinoaaLook1
namespace Go.Proofs.Ythepcoifcoinoaa
open Go.RowKit

set_option maxRecDepth 100000 in
set_option maxHeartbeats 1000000 in
theorem lookTake_any (w : World) (base r bx k : Nat) (K : Int) (hK : K = k) (l : List UInt8) (hb : w.cell? ⟨bx, 0, none⟩ = some (.pointer (some ⟨r, 0, none⟩))) (h : Rd w base r l) (hk1 : 1 ≤ k) (hk8 : k ≤ 8) (hkl : k ≤ l.length) :
    Calls Try.prog 38 #[.int .i64 K, .pointer (some ⟨bx, 0, none⟩)] w fun e w' => e = .returned (.int .i64 (wrap64 (beN (l.take k) : Nat))) ∧ Rd w' base r (l.drop k) ∧ Keeps w w' [r] := by
  subst hK
  have H := Lib.hid h
  clear h
  go_enter Try.func38, Try.ntmps38
  go_wp2_with fail
  refine (rdNumber_any w base r k l H.out hk1 hk8 hkl).mono ?_
  rintro e w1 ⟨rfl, hr1, hk1⟩
  have H1 := Lib.hid (And.intro hr1 hk1)
  clear hr1 hk1
  go_wp2
  go_ret
  exact ⟨rfl, H1.out.1, H1.out.2⟩

set_option maxRecDepth 100000 in
set_option maxHeartbeats 400000 in
theorem lookIs_any (w : World) (x : Nat) :
    Calls Try.prog 44 #[.int .u8 x] w fun e w' => e = .returned (.bool ((x : Int) != 0)) ∧ w = w' := by
  go_enter Try.func44, Try.ntmps44
  go_wp2
  go_ret
  exact ⟨rfl, rfl⟩

def allZero (l : List UInt8) : Bool := l.all (· == 0)

set_option maxRecDepth 100000 in
set_option maxHeartbeats 1000000 in
theorem indexFunc_any (w : World) (A : Option Addr) (c : Nat) (l : List UInt8) (hL : Lies w w.heap.size A (l.map byteV)) (hlen : l.length ≤ 140737488351232) :
    Calls Try.prog 77 #[.slice A l.length c, .func (.func 44) #[] #[]] w fun e w' => ∃ i : Int, e = .returned (.int .i64 i) ∧ ((-1 ≤ i ∧ i ≤ l.length) ∧ decide (0 ≤ i) = !allZero l) ∧ w = w' := by
  have HL := Lib.hid hL
  clear hL
  go_enter Try.func77, Try.ntmps77
  go_wp2
  go_loop [5, 8] (fun _ i => ∃ k : Nat, k ≤ l.length ∧ i = .int .i64 k ∧ allZero (l.take k) = true) (fun _ i => l.length - (intOf i).toNat)
  case atStart => exact ⟨0, by omega, rfl, rfl⟩
  case round =>
    obtain ⟨k, hk, rfl, hz⟩ := hrel
    have HZ := Lib.hid hz
    clear hz
    by_cases hlt : k < l.length
    · obtain ⟨b, o, rfl, hb, hcx⟩ := HL.out.at_ (k := k) (by simpa using hlt)
      rw [byteV_get l hlt] at hcx
      have HX := Lib.hid (show l[k].toNat = 0 ↔ l[k] = 0 from ⟨fun h => UInt8.toNat_inj.1 h, fun h => by rw [h]; rfl⟩)
      have HS := Lib.hid (List.take_succ_eq_append_getElem hlt)
      have hmem : l[k] ∈ l := List.getElem_mem hlt
      have HM := Lib.hid hmem
      clear hmem
      generalize l[k] = y at *
      by_cases hy : y.toNat = 0
      · have hyb : (((y.toNat : Nat) : Int) != 0) = false := by simp [hy]
        have HY := Lib.hid hy
        have HYB := Lib.hid hyb
        clear hy hyb
        go_wp2_with (go_at_call 44; refine (lookIs_any _ y.toNat).mono ?_; rintro e w1 ⟨rfl, rfl⟩; rw [HYB.out])
        refine ⟨⟨k + 1, by omega, by go_num, ?_⟩, by simp [intOf]; omega⟩
        rw [HS.out]
        have h0 := HX.out.1 HY.out
        have hz := HZ.out
        unfold allZero at hz ⊢
        simp [hz, h0]
      · have hyb : (((y.toNat : Nat) : Int) != 0) = true := by simp; omega
        have HY := Lib.hid hy
        have HYB := Lib.hid hyb
        clear hy hyb
        go_wp2_with (go_at_call 44; refine (lookIs_any _ y.toNat).mono ?_; rintro e w1 ⟨rfl, rfl⟩; rw [HYB.out])
        go_ret
        refine ⟨k, rfl, ⟨by omega, ?_⟩, rfl⟩
        have hne : y ≠ 0 := fun h => HY.out (HX.out.2 h)
        have : allZero l = false := by
          unfold allZero
          rw [List.all_eq_false]
          exact ⟨y, HM.out, by simpa using hne⟩
        rw [this]; simp
    · obtain rfl : k = l.length := by omega
      have hz := HZ.out
      rw [List.take_length] at hz
      have HZ' := Lib.hid hz
      clear hz
      go_wp2
      go_ret
      refine ⟨-1, rfl, ⟨by omega, by rw [HZ'.out]; rfl⟩, rfl⟩

set_option maxRecDepth 100000 in
set_option maxHeartbeats 400000 in
theorem none_any (w : World) (A : Option Addr) (c : Nat) (l : List UInt8) (hL : Lies w w.heap.size A (l.map byteV)) (hlen : l.length ≤ 140737488351232) :
    Calls Try.prog 43 #[.slice A l.length c, .func (.func 44) #[] #[]] w fun e w' => e = .returned (.bool (allZero l)) ∧ w = w' := by
  have HL := Lib.hid hL
  clear hL
  go_enter Try.func43, Try.ntmps43
  go_wp2_with (first | (go_at_call 67; go_in) | (go_at_call 77; refine (indexFunc_any _ A c l HL.out hlen).mono ?_; rintro e w1 ⟨i, rfl, ⟨⟨hi1, hi2⟩, hi⟩, rfl⟩; have HI := Lib.hid hi; clear hi))
  all_goals go_wp2
  all_goals go_ret
  all_goals have hi := HI.out
  all_goals (refine ⟨ret_bool ?_, rfl⟩)
  all_goals (cases hz : allZero l <;> simp [hz] at hi <;> simp <;> omega)
end Go.Proofs.Ythepcoifcoinoaa
