/- Reference 19: Right, walked: rows of the fourth kind. -/
import Derived.Test.YtfglgeoookbppaaGreatDoorPa26

namespace Go.Proofs.YtfglgeoookbppaaGreatDoor
open Go.RowKit Go.Shelf

set_option maxRecDepth 100000 in
set_option maxHeartbeats 4000000 in
theorem rrRight_4 (c : List UInt8) (seq id : Int) (t b : List UInt8) (q : Int) (w : World) (hx : (⟨4, c, seq, id, t, b, q, false, 0⟩ : Rw).Small) : Calls Tryz.prog 8 #[rwV ⟨4, c, seq, id, t, b, q, false, 0⟩] w (TruePost w (rcOk ⟨4, c, seq, id, t, b, q, false, 0⟩)) := by
 have hc : c.length ≤ 50000 := hx.c
 have ht : t.length ≤ 50000 := hx.t
 have hb : b.length ≤ 50000 := hx.b
 clear hx
 have HT0 := rok4 c seq id t b q false 0
 obtain ⟨N, hN⟩ : ∃ N, (t.isEmpty && (b.isEmpty && (q == 0))) = N := ⟨_, rfl⟩
 obtain ⟨Q, hQ⟩ : ∃ Q, inN q 0 2 = Q := ⟨_, rfl⟩
 obtain ⟨I, hI⟩ : ∃ I, inN id 1 65535 = I := ⟨_, rfl⟩
 obtain ⟨b1, h1⟩ : ∃ b1, rcClient c = b1 := ⟨_, rfl⟩
 have HT := Lib.hid (show rcOk ⟨4, c, seq, id, t, b, q, false, 0⟩ = ((b1 && I) && ((seq == 0) && N)) by
  rw [HT0, h1, hI, ← hN]
  simp)
 have C1 := Lib.hid (fun w => rrClient_any w c (by omega))
 rw [h1] at C1
 have HN := Lib.hid hN
 have HQ := Lib.hid hQ
 have HI := Lib.hid hI
 obtain ⟨k, hk⟩ : ∃ k : Int, k = 4 := ⟨_, rfl⟩
 obtain ⟨r, hr⟩ : ∃ r : Bool, r = false := ⟨_, rfl⟩
 obtain ⟨s, hs⟩ : ∃ s : Int, s = 0 := ⟨_, rfl⟩
 rw [← hk, ← hr, ← hs]
 rw [← hk, ← hr, ← hs] at HT
 clear hN hQ hI HT0 h1
 obtain ⟨W0, hW0⟩ : ∃ W0, w.alloc (.cells #[.int .i64 k, .string ⟨c.toArray⟩, .int .i64 seq, .int .i64 id, .string ⟨t.toArray⟩, .string ⟨b.toArray⟩, .int .i64 q, .bool r, .int .i64 s] 25) = W0 := ⟨_, rfl⟩
 have k0 : Keeps w W0 [] := by rw [← hW0]; exact Keeps.alloc _ _
 have r0 : Row W0 w.heap.size 25 #[.int .i64 k, .string ⟨c.toArray⟩, .int .i64 seq, .int .i64 id, .string ⟨t.toArray⟩, .string ⟨b.toArray⟩, .int .i64 q, .bool r, .int .i64 s] := by rw [← hW0]; exact Row.new _ _ _
 have HR := Lib.hid (And.intro k0 r0)
 have x0 := r0.cell 0
 have x1 := r0.cell 1
 have x2 := r0.cell 2
 have x3 := r0.cell 3
 have x4 := r0.cell 4
 have x5 := r0.cell 5
 have x6 := r0.cell 6
 have x7 := r0.cell 7
 have x8 := r0.cell 8
 simp only [List.getElem?_toArray, List.getElem?_cons_zero, List.getElem?_cons_succ] at x0 x1 x2 x3 x4 x5 x6 x7 x8
 clear k0 r0
 subst hk hr hs
 go_enter Tryz.func8, Tryz.ntmps8
 go_upto_region 1 with fail
 clear hW0
 go_cut [3] (fun v wx => v = .bool N ∧ wx = W0)
 case first =>
  rcases t with _ | ⟨t0, t1⟩
  ·rcases b with _ | ⟨bb0, bb1⟩
   ·by_cases hq : q = 0
    ·subst hq
     go_wp2_with fail
     go_meet
     case rel => exact ⟨by rw [← HN.out]; first | rfl | simp [*], rfl⟩
    ·have hq' : (q == 0) = false := by simpa using hq
     go_wp2_with fail
     go_meet
     case rel => exact ⟨by rw [← HN.out]; first | rfl | simp [*], rfl⟩
   ·skip
    go_wp2_with fail
    go_meet
    case rel => exact ⟨by rw [← HN.out]; first | rfl | simp [*], rfl⟩
  ·skip
   go_wp2_with fail
   go_meet
   case rel => exact ⟨by rw [← HN.out]; first | rfl | simp [*], rfl⟩
 case rest =>
  obtain ⟨rfl, rfl⟩ := hcut
  obtain ⟨wd, rfl⟩ : ∃ x, x = wc := ⟨_, rfl⟩
  go_upto_region 2 with fail
  go_cut [4] (fun v wx => v = .bool Q ∧ wx = wd)
  case first =>
   by_cases q1 : 0 ≤ q
   ·have d1 : decide (q ≥ 0) = true := decide_eq_true q1
    by_cases q2 : q ≤ 2
    ·have d2 : decide (q ≤ 2) = true := decide_eq_true q2
     have HB := Lib.hid (show inN q 0 2 = true from inN_iff.2 ⟨q1, q2⟩)
     go_wp2_with fail
     go_meet
     case rel => exact ⟨by rw [← HQ.out, HB.out], rfl⟩
    ·have d2 : decide (q ≤ 2) = false := decide_eq_false q2
     have HB := Lib.hid (show inN q 0 2 = false by unfold inN; rw [d2, Bool.and_false])
     go_wp2_with fail
     go_meet
     case rel => exact ⟨by rw [← HQ.out, HB.out], rfl⟩
   ·have d1 : decide (q ≥ 0) = false := decide_eq_false q1
    have HB := Lib.hid (show inN q 0 2 = false by unfold inN; rw [decide_eq_false q1]; rfl)
    go_wp2_with fail
    go_meet
    case rel => exact ⟨by rw [← HQ.out, HB.out], rfl⟩
  case rest =>
   obtain ⟨rfl, rfl⟩ := hcut
   obtain ⟨we, rfl⟩ : ∃ x, x = wc := ⟨_, rfl⟩
   go_upto_region 3 with fail
   go_cut [5] (fun v wx => v = .bool I ∧ wx = we)
   case first =>
    by_cases q1 : 1 ≤ id
    ·have d1 : decide (id ≥ 1) = true := decide_eq_true q1
     by_cases q2 : id ≤ 65535
     ·have d2 : decide (id ≤ 65535) = true := decide_eq_true q2
      have HB := Lib.hid (show inN id 1 65535 = true from inN_iff.2 ⟨q1, q2⟩)
      go_wp2_with fail
      go_meet
      case rel => exact ⟨by rw [← HI.out, HB.out], rfl⟩
     ·have d2 : decide (id ≤ 65535) = false := decide_eq_false q2
      have HB := Lib.hid (show inN id 1 65535 = false by unfold inN; rw [d2, Bool.and_false])
      go_wp2_with fail
      go_meet
      case rel => exact ⟨by rw [← HI.out, HB.out], rfl⟩
    ·have d1 : decide (id ≥ 1) = false := decide_eq_false q1
     have HB := Lib.hid (show inN id 1 65535 = false by unfold inN; rw [decide_eq_false q1]; rfl)
     go_wp2_with fail
     go_meet
     case rel => exact ⟨by rw [← HI.out, HB.out], rfl⟩
   case rest =>
    obtain ⟨rfl, rfl⟩ := hcut
    obtain ⟨wf, rfl⟩ : ∃ x, x = wc := ⟨_, rfl⟩
    go_wp2_with fail
    refine (C1.out _).mono ?_
    rintro e w1 ⟨rfl, hk⟩
    have r1 := HR.out.2.keeps hk
    have HK := Lib.hid (HR.out.1.then_ hk)
    clear x0 x1 x2 x3 x4 x5 x6 x7 x8
    have y0 := r1.cell 0
    have y1 := r1.cell 1
    have y2 := r1.cell 2
    have y3 := r1.cell 3
    have y4 := r1.cell 4
    have y5 := r1.cell 5
    have y6 := r1.cell 6
    have y7 := r1.cell 7
    have y8 := r1.cell 8
    simp only [List.getElem?_toArray, List.getElem?_cons_zero, List.getElem?_cons_succ] at y0 y1 y2 y3 y4 y5 y6 y7 y8
    replace HR := Lib.hid (And.intro HK.out r1)
    clear hk r1
    cases b1 with
    | false =>
     go_wp2_with fail
     go_ret
     exact ⟨by rw [HT.out]; first | rfl | simp [*], HK.out⟩
    | true =>
     cases I with
     | false =>
      go_wp2_with fail
      go_ret
      exact ⟨by rw [HT.out]; first | rfl | simp [*], HK.out⟩
     | true =>
      cases N with
      | false =>
       go_wp2_with fail
       go_ret
       exact ⟨by rw [HT.out]; first | rfl | simp [*], HK.out⟩
      | true =>
       by_cases hs0 : seq = 0
       ·subst hs0
        go_wp2_with fail
        go_ret
        exact ⟨by rw [HT.out]; first | rfl | simp [*], HK.out⟩
       ·have hs1 : (seq == 0) = false := by simpa using hs0
        go_wp2_with fail
        go_ret
        exact ⟨by rw [HT.out]; first | rfl | simp [*], HK.out⟩
end Go.Proofs.YtfglgeoookbppaaGreatDoor
