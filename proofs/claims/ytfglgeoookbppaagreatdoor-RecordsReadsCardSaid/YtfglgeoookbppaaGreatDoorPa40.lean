/- Reference 19: Right, walked: rows that no kind has. -/
import Derived.Test.YtfglgeoookbppaaGreatDoorPa26

namespace Go.Proofs.YtfglgeoookbppaaGreatDoor
open Go.RowKit Go.Shelf

theorem rcOk_bad {x : Rw} (h3 : x.k ≠ 3) (h : x.r = true ∨ x.s ≠ 0) : rcOk x = false := by
 cases hi : rcIs x.k with
 | false => unfold rcOk; rw [hi]; rfl
 | true =>
  have e : x.k = 1 ∨ x.k = 2 ∨ x.k = 3 ∨ x.k = 4 ∨ x.k = 5 := by
   unfold rcIs at hi
   rw [inN_iff] at hi
   omega
  obtain ⟨k, c, seq, id, t, b, q, r, s⟩ := x
  simp only at e h3 h
  have hb : ((!r) && (s == 0)) = false := by
   rcases h with h | h
   ·rw [h]; rfl
   ·rw [show (s == 0) = false by simpa using h, Bool.and_false]
  rcases e with rfl | rfl | rfl | rfl | rfl
  ·rw [rok1, hb]; simp
  ·rw [rok2, hb]; simp
  ·exact absurd rfl h3
  ·rw [rok4, hb]; simp
  ·rw [rok5, hb]; simp
set_option maxRecDepth 100000 in
set_option maxHeartbeats 4000000 in
theorem rrRight_bad (k : Int) (c : List UInt8) (seq id : Int) (t b : List UInt8) (q : Int) (r : Bool) (s : Int) (w : World) (h3 : k ≠ 3) (hbad : r = true ∨ s ≠ 0) : Calls Tryz.prog 8 #[rwV ⟨k, c, seq, id, t, b, q, r, s⟩] w (TruePost w (rcOk ⟨k, c, seq, id, t, b, q, r, s⟩)) := by
 have HT := Lib.hid (rcOk_bad (x := ⟨k, c, seq, id, t, b, q, r, s⟩) h3 hbad)
 obtain ⟨N, hN⟩ : ∃ N, (t.isEmpty && (b.isEmpty && (q == 0))) = N := ⟨_, rfl⟩
 obtain ⟨Q, hQ⟩ : ∃ Q, inN q 0 2 = Q := ⟨_, rfl⟩
 obtain ⟨I, hI⟩ : ∃ I, inN id 1 65535 = I := ⟨_, rfl⟩
 have HN := Lib.hid hN
 have HQ := Lib.hid hQ
 have HI := Lib.hid hI
 have hk3 : (k != 3) = true := by simpa using h3
 clear hN hQ hI
 obtain ⟨W0, hW0⟩ : ∃ W0, w.alloc (.cells #[.int .i64 k, .string ⟨c.toArray⟩, .int .i64 seq, .int .i64 id, .string ⟨t.toArray⟩, .string ⟨b.toArray⟩, .int .i64 q, .bool r, .int .i64 s] 25) = W0 := ⟨_, rfl⟩
 have k0 : Keeps w W0 [] := by rw [← hW0]; exact Keeps.alloc _ _
 have r0 : Row W0 w.heap.size 25 #[.int .i64 k, .string ⟨c.toArray⟩, .int .i64 seq, .int .i64 id, .string ⟨t.toArray⟩, .string ⟨b.toArray⟩, .int .i64 q, .bool r, .int .i64 s] := by rw [← hW0]; exact Row.new _ _ _
 have HR := Lib.hid (And.intro k0 r0)
 have x0 := r0.cell 0
 have x1 := r0.cell 1
 have x2 := r0.cell 2
 have x3 := r0.cell 3
 have x4 := r0.cell 4
 have x5 := r0.cell 5
 have x6 := r0.cell 6
 have x7 := r0.cell 7
 have x8 := r0.cell 8
 simp only [List.getElem?_toArray, List.getElem?_cons_zero, List.getElem?_cons_succ] at x0 x1 x2 x3 x4 x5 x6 x7 x8
 clear k0 r0
 go_enter Tryz.func8, Tryz.ntmps8
 go_upto_region 1 with fail
 clear hW0
 go_cut [3] (fun v wx => v = .bool N ∧ wx = W0)
 case first =>
  rcases t with _ | ⟨t0, t1⟩
  ·rcases b with _ | ⟨bb0, bb1⟩
   ·by_cases hq : q = 0
    ·subst hq
     go_wp2_with fail
     go_meet
     case rel => exact ⟨by rw [← HN.out]; first | rfl | simp [*], rfl⟩
    ·have hq' : (q == 0) = false := by simpa using hq
     go_wp2_with fail
     go_meet
     case rel => exact ⟨by rw [← HN.out]; first | rfl | simp [*], rfl⟩
   ·skip
    go_wp2_with fail
    go_meet
    case rel => exact ⟨by rw [← HN.out]; first | rfl | simp [*], rfl⟩
  ·skip
   go_wp2_with fail
   go_meet
   case rel => exact ⟨by rw [← HN.out]; first | rfl | simp [*], rfl⟩
 case rest =>
  obtain ⟨rfl, rfl⟩ := hcut
  obtain ⟨wd, rfl⟩ : ∃ x, x = wc := ⟨_, rfl⟩
  go_upto_region 2 with fail
  go_cut [4] (fun v wx => v = .bool Q ∧ wx = wd)
  case first =>
   by_cases q1 : 0 ≤ q
   ·have d1 : decide (q ≥ 0) = true := decide_eq_true q1
    by_cases q2 : q ≤ 2
    ·have d2 : decide (q ≤ 2) = true := decide_eq_true q2
     have HB := Lib.hid (show inN q 0 2 = true from inN_iff.2 ⟨q1, q2⟩)
     go_wp2_with fail
     go_meet
     case rel => exact ⟨by rw [← HQ.out, HB.out], rfl⟩
    ·have d2 : decide (q ≤ 2) = false := decide_eq_false q2
     have HB := Lib.hid (show inN q 0 2 = false by unfold inN; rw [d2, Bool.and_false])
     go_wp2_with fail
     go_meet
     case rel => exact ⟨by rw [← HQ.out, HB.out], rfl⟩
   ·have d1 : decide (q ≥ 0) = false := decide_eq_false q1
    have HB := Lib.hid (show inN q 0 2 = false by unfold inN; rw [decide_eq_false q1]; rfl)
    go_wp2_with fail
    go_meet
    case rel => exact ⟨by rw [← HQ.out, HB.out], rfl⟩
  case rest =>
   obtain ⟨rfl, rfl⟩ := hcut
   obtain ⟨we, rfl⟩ : ∃ x, x = wc := ⟨_, rfl⟩
   go_upto_region 3 with fail
   go_cut [5] (fun v wx => v = .bool I ∧ wx = we)
   case first =>
    by_cases q1 : 1 ≤ id
    ·have d1 : decide (id ≥ 1) = true := decide_eq_true q1
     by_cases q2 : id ≤ 65535
     ·have d2 : decide (id ≤ 65535) = true := decide_eq_true q2
      have HB := Lib.hid (show inN id 1 65535 = true from inN_iff.2 ⟨q1, q2⟩)
      go_wp2_with fail
      go_meet
      case rel => exact ⟨by rw [← HI.out, HB.out], rfl⟩
     ·have d2 : decide (id ≤ 65535) = false := decide_eq_false q2
      have HB := Lib.hid (show inN id 1 65535 = false by unfold inN; rw [d2, Bool.and_false])
      go_wp2_with fail
      go_meet
      case rel => exact ⟨by rw [← HI.out, HB.out], rfl⟩
    ·have d1 : decide (id ≥ 1) = false := decide_eq_false q1
     have HB := Lib.hid (show inN id 1 65535 = false by unfold inN; rw [decide_eq_false q1]; rfl)
     go_wp2_with fail
     go_meet
     case rel => exact ⟨by rw [← HI.out, HB.out], rfl⟩
   case rest =>
    obtain ⟨rfl, rfl⟩ := hcut
    obtain ⟨wf, rfl⟩ : ∃ x, x = wc := ⟨_, rfl⟩
    have HK := Lib.hid HR.out.1
    cases r with
    | true =>
     go_wp2_with fail
     go_ret
     exact ⟨by rw [HT.out]; first | rfl | simp [*], HK.out⟩
    | false =>
     have hs1 : s ≠ 0 := by
      rcases hbad with h | h
      ·cases h
      ·exact h
     have hs2 : (s != 0) = true := by simpa using hs1
     go_wp2_with fail
     go_ret
     exact ⟨by rw [HT.out]; first | rfl | simp [*], HK.out⟩
set_option maxRecDepth 100000 in
set_option maxHeartbeats 4000000 in
theorem rrRight_other (k : Int) (c : List UInt8) (seq id : Int) (t b : List UInt8) (q : Int) (w : World) (hi : rcIs k = false) : Calls Tryz.prog 8 #[rwV ⟨k, c, seq, id, t, b, q, false, 0⟩] w (TruePost w (rcOk ⟨k, c, seq, id, t, b, q, false, 0⟩)) := by
 have HT := Lib.hid (show rcOk ⟨k, c, seq, id, t, b, q, false, 0⟩ = false by unfold rcOk; rw [hi]; rfl)
 have hne : k ≠ 1 ∧ k ≠ 2 ∧ k ≠ 3 ∧ k ≠ 4 ∧ k ≠ 5 := by
  unfold rcIs inN at hi
  simp only [Bool.and_eq_false_iff, decide_eq_false_iff_not] at hi
  omega
 obtain ⟨N, hN⟩ : ∃ N, (t.isEmpty && (b.isEmpty && (q == 0))) = N := ⟨_, rfl⟩
 obtain ⟨Q, hQ⟩ : ∃ Q, inN q 0 2 = Q := ⟨_, rfl⟩
 obtain ⟨I, hI⟩ : ∃ I, inN id 1 65535 = I := ⟨_, rfl⟩
 have HN := Lib.hid hN
 have HQ := Lib.hid hQ
 have HI := Lib.hid hI
 have hk1 : (k == 1) = false := by simpa using hne.1
 have hk2 : (k == 2) = false := by simpa using hne.2.1
 have hk3 : (k != 3) = true := by simpa using hne.2.2.1
 have hk3' : (k == 3) = false := by simpa using hne.2.2.1
 have hk4 : (k == 4) = false := by simpa using hne.2.2.2.1
 have hk5 : (k == 5) = false := by simpa using hne.2.2.2.2
 clear hN hQ hI
 obtain ⟨r, hr⟩ : ∃ r : Bool, r = false := ⟨_, rfl⟩
 obtain ⟨s, hs⟩ : ∃ s : Int, s = 0 := ⟨_, rfl⟩
 rw [← hr, ← hs]
 rw [← hr, ← hs] at HT
 obtain ⟨W0, hW0⟩ : ∃ W0, w.alloc (.cells #[.int .i64 k, .string ⟨c.toArray⟩, .int .i64 seq, .int .i64 id, .string ⟨t.toArray⟩, .string ⟨b.toArray⟩, .int .i64 q, .bool r, .int .i64 s] 25) = W0 := ⟨_, rfl⟩
 have k0 : Keeps w W0 [] := by rw [← hW0]; exact Keeps.alloc _ _
 have r0 : Row W0 w.heap.size 25 #[.int .i64 k, .string ⟨c.toArray⟩, .int .i64 seq, .int .i64 id, .string ⟨t.toArray⟩, .string ⟨b.toArray⟩, .int .i64 q, .bool r, .int .i64 s] := by rw [← hW0]; exact Row.new _ _ _
 have HR := Lib.hid (And.intro k0 r0)
 have x0 := r0.cell 0
 have x1 := r0.cell 1
 have x2 := r0.cell 2
 have x3 := r0.cell 3
 have x4 := r0.cell 4
 have x5 := r0.cell 5
 have x6 := r0.cell 6
 have x7 := r0.cell 7
 have x8 := r0.cell 8
 simp only [List.getElem?_toArray, List.getElem?_cons_zero, List.getElem?_cons_succ] at x0 x1 x2 x3 x4 x5 x6 x7 x8
 clear k0 r0
 subst hr hs
 go_enter Tryz.func8, Tryz.ntmps8
 go_upto_region 1 with fail
 clear hW0
 go_cut [3] (fun v wx => v = .bool N ∧ wx = W0)
 case first =>
  rcases t with _ | ⟨t0, t1⟩
  ·rcases b with _ | ⟨bb0, bb1⟩
   ·by_cases hq : q = 0
    ·subst hq
     go_wp2_with fail
     go_meet
     case rel => exact ⟨by rw [← HN.out]; first | rfl | simp [*], rfl⟩
    ·have hq' : (q == 0) = false := by simpa using hq
     go_wp2_with fail
     go_meet
     case rel => exact ⟨by rw [← HN.out]; first | rfl | simp [*], rfl⟩
   ·skip
    go_wp2_with fail
    go_meet
    case rel => exact ⟨by rw [← HN.out]; first | rfl | simp [*], rfl⟩
  ·skip
   go_wp2_with fail
   go_meet
   case rel => exact ⟨by rw [← HN.out]; first | rfl | simp [*], rfl⟩
 case rest =>
  obtain ⟨rfl, rfl⟩ := hcut
  obtain ⟨wd, rfl⟩ : ∃ x, x = wc := ⟨_, rfl⟩
  go_upto_region 2 with fail
  go_cut [4] (fun v wx => v = .bool Q ∧ wx = wd)
  case first =>
   by_cases q1 : 0 ≤ q
   ·have d1 : decide (q ≥ 0) = true := decide_eq_true q1
    by_cases q2 : q ≤ 2
    ·have d2 : decide (q ≤ 2) = true := decide_eq_true q2
     have HB := Lib.hid (show inN q 0 2 = true from inN_iff.2 ⟨q1, q2⟩)
     go_wp2_with fail
     go_meet
     case rel => exact ⟨by rw [← HQ.out, HB.out], rfl⟩
    ·have d2 : decide (q ≤ 2) = false := decide_eq_false q2
     have HB := Lib.hid (show inN q 0 2 = false by unfold inN; rw [d2, Bool.and_false])
     go_wp2_with fail
     go_meet
     case rel => exact ⟨by rw [← HQ.out, HB.out], rfl⟩
   ·have d1 : decide (q ≥ 0) = false := decide_eq_false q1
    have HB := Lib.hid (show inN q 0 2 = false by unfold inN; rw [decide_eq_false q1]; rfl)
    go_wp2_with fail
    go_meet
    case rel => exact ⟨by rw [← HQ.out, HB.out], rfl⟩
  case rest =>
   obtain ⟨rfl, rfl⟩ := hcut
   obtain ⟨we, rfl⟩ : ∃ x, x = wc := ⟨_, rfl⟩
   go_upto_region 3 with fail
   go_cut [5] (fun v wx => v = .bool I ∧ wx = we)
   case first =>
    by_cases q1 : 1 ≤ id
    ·have d1 : decide (id ≥ 1) = true := decide_eq_true q1
     by_cases q2 : id ≤ 65535
     ·have d2 : decide (id ≤ 65535) = true := decide_eq_true q2
      have HB := Lib.hid (show inN id 1 65535 = true from inN_iff.2 ⟨q1, q2⟩)
      go_wp2_with fail
      go_meet
      case rel => exact ⟨by rw [← HI.out, HB.out], rfl⟩
     ·have d2 : decide (id ≤ 65535) = false := decide_eq_false q2
      have HB := Lib.hid (show inN id 1 65535 = false by unfold inN; rw [d2, Bool.and_false])
      go_wp2_with fail
      go_meet
      case rel => exact ⟨by rw [← HI.out, HB.out], rfl⟩
    ·have d1 : decide (id ≥ 1) = false := decide_eq_false q1
     have HB := Lib.hid (show inN id 1 65535 = false by unfold inN; rw [decide_eq_false q1]; rfl)
     go_wp2_with fail
     go_meet
     case rel => exact ⟨by rw [← HI.out, HB.out], rfl⟩
   case rest =>
    obtain ⟨rfl, rfl⟩ := hcut
    obtain ⟨wf, rfl⟩ : ∃ x, x = wc := ⟨_, rfl⟩
    have HK := Lib.hid HR.out.1
    go_wp2_with fail
    go_ret
    exact ⟨by rw [HT.out]; first | rfl | simp [*], HK.out⟩
end Go.Proofs.YtfglgeoookbppaaGreatDoor
