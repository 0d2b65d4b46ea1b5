/- Package packet: Asks. -/
import Derived.Test.YtahbikfbjenfpaaGreatDoorPa36

namespace Go.Proofs.YtahbikfbjenfpaaGreatDoor
open Go.RowKit

def KNotYet (zs : List Int) (x : Int) (k : Nat) : Prop := ∀ j (h : j < zs.length), j < k → zs[j] ≠ x
set_option maxRecDepth 100000 in
set_option maxHeartbeats 1000000 in
theorem pkIndex_any (w : World) (b c : Nat) (zs : List Int) (x : Int) (hz : ∀ j (h : j < zs.length), w.cell? ⟨b, j, none⟩ = some (.int .i64 zs[j])) (hl : zs.length ≤ 1000) :
  Calls Tryz.prog 104 #[.slice (some ⟨b, 0, none⟩) zs.length c, .int .i64 x] w fun e w' => ∃ r : Int, e = .returned (.int .i64 r) ∧ (0 ≤ r ↔ x ∈ zs) ∧ w = w' := by
 have HZ := Lib.hid hz
 clear hz
 go_enter Tryz.func104, Tryz.ntmps104
 go_wp2_with fail
 go_loop [8] (fun i => ∃ k : Nat, k ≤ zs.length ∧ i = .int .i64 k ∧ Hid (KNotYet zs x k)) (fun i => zs.length - (intOf i).toNat)
 case atStart => exact ⟨0, by omega, rfl, Lib.hid (fun j _ h => by omega)⟩
 case round =>
  obtain ⟨k, hk, rfl, HN⟩ := hrel
  by_cases hkl : k < zs.length
  ·have hc := HZ.out k hkl
   have hm : zs[k] ∈ zs := List.getElem_mem _
   obtain ⟨z, hzd⟩ : ∃ z, zs[k] = z := ⟨_, rfl⟩
   rw [hzd] at hc hm
   have HZD := Lib.hid hzd
   clear hzd
   by_cases hzx : x = z
   ·subst hzx
    have HM := Lib.hid hm
    clear hm
    go_wp2_with fail
    go_ret
    exact ⟨_, rfl, ⟨fun _ => HM.out, fun _ => by omega⟩, rfl⟩
   ·have hb : (x == z) = false := by simpa using hzx
    have HNE := Lib.hid hzx
    clear hzx hm
    go_wp2_with fail
    refine ⟨⟨k + 1, by omega, by go_num, Lib.hid (fun j h hj => ?_)⟩, by simp [intOf]; omega⟩
    by_cases hjk : j = k
    ·subst hjk
     rw [HZD.out]
     exact fun h => HNE.out h.symm
    ·exact HN.out j h (by omega)
  ·obtain rfl : k = zs.length := by omega
   go_wp2_with fail
   go_ret
   refine ⟨-1, rfl, ⟨fun h => by omega, fun h => ?_⟩, rfl⟩
   obtain ⟨j, hj, he⟩ := List.getElem_of_mem h
   exact absurd he (HN.out j hj hj)
set_option maxRecDepth 100000 in
theorem pkContains_any (w : World) (b c : Nat) (zs : List Int) (x : Int) (hz : ∀ j (h : j < zs.length), w.cell? ⟨b, j, none⟩ = some (.int .i64 zs[j])) (hl : zs.length ≤ 1000) :
  Calls Tryz.prog 47 #[.slice (some ⟨b, 0, none⟩) zs.length c, .int .i64 x] w fun e w' => e = .returned (.bool (decide (x ∈ zs))) ∧ w = w' := by
 have HI := Lib.hid (pkIndex_any w b c zs x hz hl)
 clear hz hl
 go_enter Tryz.func47, Tryz.ntmps47
 go_wp2_with fail
 refine HI.out.mono ?_
 rintro e w' ⟨r, rfl, hr, rfl⟩
 have HR := Lib.hid hr
 clear hr
 go_wp2_with fail
 go_ret
 refine ⟨?_, rfl⟩
 show Ending.returned (.bool (decide (0 ≤ r))) = _
 rw [decide_eq_decide.2 HR.out]
def pkAsks (k : Int) : Bool := decide (1 ≤ k ∧ k ≤ 14) && !decide (k ∈ [2, 9, 11, 13])
set_option maxRecDepth 100000 in
set_option maxHeartbeats 1000000 in
theorem pkAsks_any (k : Int) (w : World) : Calls Tryz.prog 20 #[.int .i64 k] w fun e w' => e = .returned (.bool (pkAsks k)) ∧ Keeps w w' [] := by
 have HT := Lib.hid (pkText_any k w)
 obtain ⟨S, hS⟩ : ∃ S : ByteArray, S = ⟨(pkText k).toArray⟩ := ⟨_, rfl⟩
 obtain ⟨z, hz⟩ : ∃ z, pkTextE k = z := ⟨_, rfl⟩
 rw [hz, ← hS] at HT
 obtain ⟨m, hmm⟩ : ∃ m, decide (k ∈ ([2, 9, 11, 13] : List Int)) = m := ⟨_, rfl⟩
 obtain ⟨A, hA⟩ : ∃ A, pkAsks k = A := ⟨_, rfl⟩
 rw [hA]
 have HA := Lib.hid (show A = ((z == 0) && !m) by
  rw [← hA, ← hmm, ← hz]
  unfold pkAsks pkTextE
  by_cases h : 1 ≤ k ∧ k ≤ 14
  ·rw [if_pos h, decide_eq_true h]
   rfl
  ·rw [if_neg h, decide_eq_false h]
   rfl)
 have HM := Lib.hid hmm
 clear hS hz hmm hA
 go_enter Tryz.func20, Tryz.ntmps20
 go_wp2_with fail
 refine HT.out.mono ?_
 rintro e w1 ⟨rfl, hk⟩
 have HK := Lib.hid hk
 clear hk HT
 by_cases hz0 : z = 0
 ·subst hz0
  go_wp2_with fail
  have hc := pkContains_any (w1.alloc (.cells #[.int .i64 2, .int .i64 9, .int .i64 11, .int .i64 13] 22)) w1.heap.size 4 [2, 9, 11, 13] k (fun j hj => by
   have := (Row.new w1 22 #[.int .i64 2, .int .i64 9, .int .i64 11, .int .i64 13]).cell j
   rw [this]
   have hj4 : j < 4 := hj
   obtain rfl | rfl | rfl | rfl : j = 0 ∨ j = 1 ∨ j = 2 ∨ j = 3 := by omega
   all_goals rfl) (by decide)
  rw [HM.out] at hc
  refine hc.mono ?_
  clear hc
  rintro e w2 ⟨rfl, rfl⟩
  have HAA := Lib.hid (show A = !m from HA.out.trans (by simp))
  go_wp2_with fail
  go_ret
  exact ⟨by rw [HAA.out]; rfl, HK.out.then_alloc _⟩
 ·have hb : (z == 0) = false := by simpa using hz0
  have HAA := Lib.hid (show A = false from HA.out.trans (by rw [hb]; rfl))
  go_wp2_with fail
  go_ret
  exact ⟨by rw [HAA.out]; rfl, HK.out⟩
end Go.Proofs.YtahbikfbjenfpaaGreatDoor
