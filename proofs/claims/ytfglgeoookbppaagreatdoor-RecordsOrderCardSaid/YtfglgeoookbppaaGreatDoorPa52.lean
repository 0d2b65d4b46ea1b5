/- Reference 19: Right, walked: rows of the third kind. Reference 19: Right, walked: rows of the fifth kind. Reference 19: Right, walked: rows that no kind has. Reference 19: Right. Package records, plain: how the keys of rows of a client stand. Arguments opened: a row. The law RecordsOrder. The law RecordsOrder, of two rows that may be. -/
import Derived.Test.YtfglgeoookbppaaGreatDoorPa50
import Derived.Test.YtfglgeoookbppaaGreatDoorPa51
import Derived.Test.YtfglgeoookbppaaGreatDoorPa46
import Derived.Test.YtfglgeoookbppaaGreatDoorPa40
import Derived.Test.YtfglgeoookbppaaGreatDoorPa1
import Derived.ProofKit
import Derived.Deep.Slices
import Derived.Deep.Fields
import Derived.ChangeSame
import Derived.Deep.DeepCutAuto

namespace Go.Proofs.YtfglgeoookbppaaGreatDoor
open Go.RowKit Go.Shelf

set_option maxRecDepth 100000 in
set_option maxHeartbeats 4000000 in
theorem rrRight_3 (c : List UInt8) (seq id : Int) (t b : List UInt8) (q : Int) (r : Bool) (s : Int) (w : World) (hx : (⟨3, c, seq, id, t, b, q, r, s⟩ : Rw).Small) : Calls Tryz.prog 8 #[rwV ⟨3, c, seq, id, t, b, q, r, s⟩] w (TruePost w (rcOk ⟨3, c, seq, id, t, b, q, r, s⟩)) := by
  have hc : c.length ≤ 50000 := hx.c
  have ht : t.length ≤ 50000 := hx.t
  have hb : b.length ≤ 50000 := hx.b
  clear hx
  have HT0 := rok3 c seq id t b q r s
  obtain ⟨N, hN⟩ : ∃ N, (t.isEmpty && (b.isEmpty && (q == 0))) = N := ⟨_, rfl⟩
  obtain ⟨Q, hQ⟩ : ∃ Q, inN q 0 2 = Q := ⟨_, rfl⟩
  obtain ⟨I, hI⟩ : ∃ I, inN id 1 65535 = I := ⟨_, rfl⟩
  obtain ⟨b1, h1⟩ : ∃ b1, rcClient c = b1 := ⟨_, rfl⟩
  obtain ⟨b2, h2⟩ : ∃ b2, inN seq 0 4611686018427387904 = b2 := ⟨_, rfl⟩
  obtain ⟨b3, h3⟩ : ∃ b3, tName t = b3 := ⟨_, rfl⟩
  have dd : ∀ a b : Int, decide (a = b) = (a == b) := fun a b => by rw [Bool.eq_iff_iff]; simp
  obtain ⟨a1, e1⟩ : ∃ a1, (s == 1) = a1 := ⟨_, rfl⟩
  obtain ⟨a2, e2⟩ : ∃ a2, (id == 0) = a2 := ⟨_, rfl⟩
  obtain ⟨a4, e4⟩ : ∃ a4, (s == 2) = a4 := ⟨_, rfl⟩
  obtain ⟨a5, e5⟩ : ∃ a5, (s == 3) = a5 := ⟨_, rfl⟩
  obtain ⟨a6, e6⟩ : ∃ a6, (q == 2) = a6 := ⟨_, rfl⟩
  have HT := Lib.hid (show rcOk ⟨3, c, seq, id, t, b, q, r, s⟩ = (b1 && (b2 && (b3 && (decide (b.length ≤ 2000) && (inN q 1 2 && ((a1 && a2) || (I && (a4 || (a5 && a6))))))))) by
    rw [HT0, h1, h2, h3]
    unfold rcStage
    simp only [dd]
    rw [e1, e2, e4, e5, e6, hI])
  have C1 := Lib.hid (fun w => rrClient_any w c (by omega))
  have C2 := Lib.hid (fun w => rName_any w t (by omega))
  rw [h1] at C1
  rw [h3] at C2
  have HN := Lib.hid hN
  have HQ := Lib.hid hQ
  have HI := Lib.hid hI
  obtain ⟨k, hk⟩ : ∃ k : Int, k = 3 := ⟨_, rfl⟩
  rw [← hk]
  rw [← hk] at HT
  clear hN hQ hI HT0 h1 h3 dd
  obtain ⟨W0, hW0⟩ : ∃ W0, w.alloc (.cells #[.int .i64 k, .string ⟨c.toArray⟩, .int .i64 seq, .int .i64 id, .string ⟨t.toArray⟩, .string ⟨b.toArray⟩, .int .i64 q, .bool r, .int .i64 s] 25) = W0 := ⟨_, rfl⟩
  have k0 : Keeps w W0 [] := by rw [← hW0]; exact Keeps.alloc _ _
  have r0 : Row W0 w.heap.size 25 #[.int .i64 k, .string ⟨c.toArray⟩, .int .i64 seq, .int .i64 id, .string ⟨t.toArray⟩, .string ⟨b.toArray⟩, .int .i64 q, .bool r, .int .i64 s] := by rw [← hW0]; exact Row.new _ _ _
  have HR := Lib.hid (And.intro k0 r0)
  have x0 := r0.cell 0
  have x1 := r0.cell 1
  have x2 := r0.cell 2
  have x3 := r0.cell 3
  have x4 := r0.cell 4
  have x5 := r0.cell 5
  have x6 := r0.cell 6
  have x7 := r0.cell 7
  have x8 := r0.cell 8
  simp only [List.getElem?_toArray, List.getElem?_cons_zero, List.getElem?_cons_succ] at x0 x1 x2 x3 x4 x5 x6 x7 x8
  clear k0 r0
  subst hk
  go_enter Tryz.func8, Tryz.ntmps8
  go_upto_region 1 with fail
  clear hW0
  go_cut [3] (fun v wx => v = .bool N ∧ wx = W0)
  case first =>
    rcases t with _ | ⟨t0, t1⟩
    · rcases b with _ | ⟨bb0, bb1⟩
      · by_cases hq : q = 0
        · subst hq
          go_wp2_with fail
          go_meet
          case rel => exact ⟨by rw [← HN.out]; first | rfl | simp [*], rfl⟩
        · have hq' : (q == 0) = false := by simpa using hq
          go_wp2_with fail
          go_meet
          case rel => exact ⟨by rw [← HN.out]; first | rfl | simp [*], rfl⟩
      · skip
        go_wp2_with fail
        go_meet
        case rel => exact ⟨by rw [← HN.out]; first | rfl | simp [*], rfl⟩
    · skip
      go_wp2_with fail
      go_meet
      case rel => exact ⟨by rw [← HN.out]; first | rfl | simp [*], rfl⟩
  case rest =>
    obtain ⟨rfl, rfl⟩ := hcut
    obtain ⟨wd, rfl⟩ : ∃ x, x = wc := ⟨_, rfl⟩
    go_upto_region 2 with fail
    go_cut [4] (fun v wx => v = .bool Q ∧ wx = wd)
    case first =>
      by_cases q1 : 0 ≤ q
      · have d1 : decide (q ≥ 0) = true := decide_eq_true q1
        by_cases q2 : q ≤ 2
        · have d2 : decide (q ≤ 2) = true := decide_eq_true q2
          have HB := Lib.hid (show inN q 0 2 = true from inN_iff.2 ⟨q1, q2⟩)
          go_wp2_with fail
          go_meet
          case rel => exact ⟨by rw [← HQ.out, HB.out], rfl⟩
        · have d2 : decide (q ≤ 2) = false := decide_eq_false q2
          have HB := Lib.hid (show inN q 0 2 = false by unfold inN; rw [d2, Bool.and_false])
          go_wp2_with fail
          go_meet
          case rel => exact ⟨by rw [← HQ.out, HB.out], rfl⟩
      · have d1 : decide (q ≥ 0) = false := decide_eq_false q1
        have HB := Lib.hid (show inN q 0 2 = false by unfold inN; rw [decide_eq_false q1]; rfl)
        go_wp2_with fail
        go_meet
        case rel => exact ⟨by rw [← HQ.out, HB.out], rfl⟩
    case rest =>
      obtain ⟨rfl, rfl⟩ := hcut
      obtain ⟨we, rfl⟩ : ∃ x, x = wc := ⟨_, rfl⟩
      go_upto_region 3 with fail
      go_cut [5] (fun v wx => v = .bool I ∧ wx = we)
      case first =>
        by_cases q1 : 1 ≤ id
        · have d1 : decide (id ≥ 1) = true := decide_eq_true q1
          by_cases q2 : id ≤ 65535
          · have d2 : decide (id ≤ 65535) = true := decide_eq_true q2
            have HB := Lib.hid (show inN id 1 65535 = true from inN_iff.2 ⟨q1, q2⟩)
            go_wp2_with fail
            go_meet
            case rel => exact ⟨by rw [← HI.out, HB.out], rfl⟩
          · have d2 : decide (id ≤ 65535) = false := decide_eq_false q2
            have HB := Lib.hid (show inN id 1 65535 = false by unfold inN; rw [d2, Bool.and_false])
            go_wp2_with fail
            go_meet
            case rel => exact ⟨by rw [← HI.out, HB.out], rfl⟩
        · have d1 : decide (id ≥ 1) = false := decide_eq_false q1
          have HB := Lib.hid (show inN id 1 65535 = false by unfold inN; rw [decide_eq_false q1]; rfl)
          go_wp2_with fail
          go_meet
          case rel => exact ⟨by rw [← HI.out, HB.out], rfl⟩
      case rest =>
        obtain ⟨rfl, rfl⟩ := hcut
        obtain ⟨wf, rfl⟩ : ∃ x, x = wc := ⟨_, rfl⟩
        go_wp2_with fail
        refine (C1.out _).mono ?_
        rintro e w1 ⟨rfl, hk⟩
        have r1 := HR.out.2.keeps hk
        have HK := Lib.hid (HR.out.1.then_ hk)
        clear x0 x1 x2 x3 x4 x5 x6 x7 x8
        have y0 := r1.cell 0
        have y1 := r1.cell 1
        have y2 := r1.cell 2
        have y3 := r1.cell 3
        have y4 := r1.cell 4
        have y5 := r1.cell 5
        have y6 := r1.cell 6
        have y7 := r1.cell 7
        have y8 := r1.cell 8
        simp only [List.getElem?_toArray, List.getElem?_cons_zero, List.getElem?_cons_succ] at y0 y1 y2 y3 y4 y5 y6 y7 y8
        replace HR := Lib.hid (And.intro HK.out r1)
        clear hk r1
        cases b1 with
        | false =>
          go_wp2_with fail
          go_ret
          exact ⟨by rw [HT.out]; first | rfl | simp [*], HK.out⟩
        | true =>
          go_wp2_with fail
          refine (rrNumber_any _ _).mono ?_
          rintro e w9 ⟨rfl, rfl⟩
          rw [h2]
          cases b2 with
          | false =>
            go_wp2_with fail
            go_ret
            exact ⟨by rw [HT.out]; first | rfl | simp [*], HK.out⟩
          | true =>
            go_wp2_with fail
            refine (C2.out _).mono ?_
            rintro e w2 ⟨rfl, hk⟩
            have r2 := HR.out.2.keeps hk
            replace HK := Lib.hid (HK.out.then_ hk)
            clear y0 y1 y2 y3 y4 y5 y6 y7 y8
            have z0 := r2.cell 0
            have z1 := r2.cell 1
            have z2 := r2.cell 2
            have z3 := r2.cell 3
            have z4 := r2.cell 4
            have z5 := r2.cell 5
            have z6 := r2.cell 6
            have z7 := r2.cell 7
            have z8 := r2.cell 8
            simp only [List.getElem?_toArray, List.getElem?_cons_zero, List.getElem?_cons_succ] at z0 z1 z2 z3 z4 z5 z6 z7 z8
            clear hk r2
            cases b3 with
            | false =>
              go_wp2_with fail
              go_ret
              exact ⟨by rw [HT.out]; first | rfl | simp [*], HK.out⟩
            | true =>
              by_cases l2 : b.length ≤ 2000
              · have e7 : decide ((b.length : Int) > 2000) = false := decide_eq_false (by omega)
                have e9 : decide (b.length ≤ 2000) = true := decide_eq_true l2
                rw [e9] at HT
                clear e9
                by_cases q1 : q < 1
                · have e8 : decide (q < 1) = true := decide_eq_true q1
                  have e10 : inN q 1 2 = false := by rw [← Bool.not_eq_true, inN_iff]; omega
                  rw [e10] at HT
                  go_wp2_with fail
                  go_ret
                  exact ⟨by rw [HT.out]; first | rfl | simp [*], HK.out⟩
                · have e8 : decide (q < 1) = false := decide_eq_false q1
                  by_cases q2 : q > 2
                  · have e11 : decide (q > 2) = true := decide_eq_true q2
                    have e10 : inN q 1 2 = false := by rw [← Bool.not_eq_true, inN_iff]; omega
                    rw [e10] at HT
                    go_wp2_with fail
                    go_ret
                    exact ⟨by rw [HT.out]; first | rfl | simp [*], HK.out⟩
                  · have e11 : decide (q > 2) = false := decide_eq_false q2
                    have e10 : inN q 1 2 = true := inN_iff.2 ⟨by omega, by omega⟩
                    rw [e10] at HT
                    clear e10
                    go_upto_region 14 with fail
                    cases a1 with
                    | true =>
                      cases a2 with
                      | true =>
                        go_wp2_with fail
                        go_ret
                        exact ⟨by rw [HT.out]; first | rfl | simp [*], HK.out⟩
                      | false =>
                        cases I with
                        | false =>
                          go_wp2_with fail
                          go_ret
                          exact ⟨by rw [HT.out]; first | rfl | simp [*], HK.out⟩
                        | true =>
                          cases a4 with
                          | true =>
                            go_wp2_with fail
                            go_ret
                            exact ⟨by rw [HT.out]; first | rfl | simp [*], HK.out⟩
                          | false =>
                            cases a5 with
                            | false =>
                              go_wp2_with fail
                              go_ret
                              exact ⟨by rw [HT.out]; first | rfl | simp [*], HK.out⟩
                            | true =>
                              cases a6 with
                              | false =>
                                go_wp2_with fail
                                go_ret
                                exact ⟨by rw [HT.out]; first | rfl | simp [*], HK.out⟩
                              | true =>
                                go_wp2_with fail
                                go_ret
                                exact ⟨by rw [HT.out]; first | rfl | simp [*], HK.out⟩
                    | false =>
                      cases I with
                      | false =>
                        go_wp2_with fail
                        go_ret
                        exact ⟨by rw [HT.out]; first | rfl | simp [*], HK.out⟩
                      | true =>
                        cases a4 with
                        | true =>
                          go_wp2_with fail
                          go_ret
                          exact ⟨by rw [HT.out]; first | rfl | simp [*], HK.out⟩
                        | false =>
                          cases a5 with
                          | false =>
                            go_wp2_with fail
                            go_ret
                            exact ⟨by rw [HT.out]; first | rfl | simp [*], HK.out⟩
                          | true =>
                            cases a6 with
                            | false =>
                              go_wp2_with fail
                              go_ret
                              exact ⟨by rw [HT.out]; first | rfl | simp [*], HK.out⟩
                            | true =>
                              go_wp2_with fail
                              go_ret
                              exact ⟨by rw [HT.out]; first | rfl | simp [*], HK.out⟩
              · have e7 : decide ((b.length : Int) > 2000) = true := decide_eq_true (by omega)
                have e9 : decide (b.length ≤ 2000) = false := decide_eq_false l2
                rw [e9] at HT
                clear e9
                go_wp2_with fail
                go_ret
                exact ⟨by rw [HT.out]; first | rfl | simp [*], HK.out⟩
end Go.Proofs.YtfglgeoookbppaaGreatDoor

namespace Go.Proofs.YtfglgeoookbppaaGreatDoor
open Go.RowKit Go.Shelf

set_option maxRecDepth 100000 in
set_option maxHeartbeats 4000000 in
theorem rrRight_5 (c : List UInt8) (seq id : Int) (t b : List UInt8) (q : Int) (w : World) (hx : (⟨5, c, seq, id, t, b, q, false, 0⟩ : Rw).Small) : Calls Tryz.prog 8 #[rwV ⟨5, c, seq, id, t, b, q, false, 0⟩] w (TruePost w (rcOk ⟨5, c, seq, id, t, b, q, false, 0⟩)) := by
  have hc : c.length ≤ 50000 := hx.c
  have ht : t.length ≤ 50000 := hx.t
  have hb : b.length ≤ 50000 := hx.b
  clear hx
  have HT0 := rok5 c seq id t b q false 0
  obtain ⟨N, hN⟩ : ∃ N, (t.isEmpty && (b.isEmpty && (q == 0))) = N := ⟨_, rfl⟩
  obtain ⟨Q, hQ⟩ : ∃ Q, inN q 0 2 = Q := ⟨_, rfl⟩
  obtain ⟨I, hI⟩ : ∃ I, inN id 1 65535 = I := ⟨_, rfl⟩
  obtain ⟨b1, h1⟩ : ∃ b1, tName t = b1 := ⟨_, rfl⟩
  have HT := Lib.hid (show rcOk ⟨5, c, seq, id, t, b, q, false, 0⟩ = ((b1 && (inN (b.length : Nat) 1 2000 && Q)) && (c.isEmpty && ((seq == 0) && (id == 0)))) by
    rw [HT0, h1, hQ]
    simp)
  have C1 := Lib.hid (fun w => rName_any w t (by omega))
  rw [h1] at C1
  have HN := Lib.hid hN
  have HQ := Lib.hid hQ
  have HI := Lib.hid hI
  obtain ⟨k, hk⟩ : ∃ k : Int, k = 5 := ⟨_, rfl⟩
  obtain ⟨r, hr⟩ : ∃ r : Bool, r = false := ⟨_, rfl⟩
  obtain ⟨s, hs⟩ : ∃ s : Int, s = 0 := ⟨_, rfl⟩
  rw [← hk, ← hr, ← hs]
  rw [← hk, ← hr, ← hs] at HT
  clear hN hQ hI HT0 h1
  obtain ⟨W0, hW0⟩ : ∃ W0, w.alloc (.cells #[.int .i64 k, .string ⟨c.toArray⟩, .int .i64 seq, .int .i64 id, .string ⟨t.toArray⟩, .string ⟨b.toArray⟩, .int .i64 q, .bool r, .int .i64 s] 25) = W0 := ⟨_, rfl⟩
  have k0 : Keeps w W0 [] := by rw [← hW0]; exact Keeps.alloc _ _
  have r0 : Row W0 w.heap.size 25 #[.int .i64 k, .string ⟨c.toArray⟩, .int .i64 seq, .int .i64 id, .string ⟨t.toArray⟩, .string ⟨b.toArray⟩, .int .i64 q, .bool r, .int .i64 s] := by rw [← hW0]; exact Row.new _ _ _
  have HR := Lib.hid (And.intro k0 r0)
  have x0 := r0.cell 0
  have x1 := r0.cell 1
  have x2 := r0.cell 2
  have x3 := r0.cell 3
  have x4 := r0.cell 4
  have x5 := r0.cell 5
  have x6 := r0.cell 6
  have x7 := r0.cell 7
  have x8 := r0.cell 8
  simp only [List.getElem?_toArray, List.getElem?_cons_zero, List.getElem?_cons_succ] at x0 x1 x2 x3 x4 x5 x6 x7 x8
  clear k0 r0
  subst hk hr hs
  go_enter Tryz.func8, Tryz.ntmps8
  go_upto_region 1 with fail
  clear hW0
  go_cut [3] (fun v wx => v = .bool N ∧ wx = W0)
  case first =>
    rcases t with _ | ⟨t0, t1⟩
    · rcases b with _ | ⟨bb0, bb1⟩
      · by_cases hq : q = 0
        · subst hq
          go_wp2_with fail
          go_meet
          case rel => exact ⟨by rw [← HN.out]; first | rfl | simp [*], rfl⟩
        · have hq' : (q == 0) = false := by simpa using hq
          go_wp2_with fail
          go_meet
          case rel => exact ⟨by rw [← HN.out]; first | rfl | simp [*], rfl⟩
      · skip
        go_wp2_with fail
        go_meet
        case rel => exact ⟨by rw [← HN.out]; first | rfl | simp [*], rfl⟩
    · skip
      go_wp2_with fail
      go_meet
      case rel => exact ⟨by rw [← HN.out]; first | rfl | simp [*], rfl⟩
  case rest =>
    obtain ⟨rfl, rfl⟩ := hcut
    obtain ⟨wd, rfl⟩ : ∃ x, x = wc := ⟨_, rfl⟩
    go_upto_region 2 with fail
    go_cut [4] (fun v wx => v = .bool Q ∧ wx = wd)
    case first =>
      by_cases q1 : 0 ≤ q
      · have d1 : decide (q ≥ 0) = true := decide_eq_true q1
        by_cases q2 : q ≤ 2
        · have d2 : decide (q ≤ 2) = true := decide_eq_true q2
          have HB := Lib.hid (show inN q 0 2 = true from inN_iff.2 ⟨q1, q2⟩)
          go_wp2_with fail
          go_meet
          case rel => exact ⟨by rw [← HQ.out, HB.out], rfl⟩
        · have d2 : decide (q ≤ 2) = false := decide_eq_false q2
          have HB := Lib.hid (show inN q 0 2 = false by unfold inN; rw [d2, Bool.and_false])
          go_wp2_with fail
          go_meet
          case rel => exact ⟨by rw [← HQ.out, HB.out], rfl⟩
      · have d1 : decide (q ≥ 0) = false := decide_eq_false q1
        have HB := Lib.hid (show inN q 0 2 = false by unfold inN; rw [decide_eq_false q1]; rfl)
        go_wp2_with fail
        go_meet
        case rel => exact ⟨by rw [← HQ.out, HB.out], rfl⟩
    case rest =>
      obtain ⟨rfl, rfl⟩ := hcut
      obtain ⟨we, rfl⟩ : ∃ x, x = wc := ⟨_, rfl⟩
      go_upto_region 3 with fail
      go_cut [5] (fun v wx => v = .bool I ∧ wx = we)
      case first =>
        by_cases q1 : 1 ≤ id
        · have d1 : decide (id ≥ 1) = true := decide_eq_true q1
          by_cases q2 : id ≤ 65535
          · have d2 : decide (id ≤ 65535) = true := decide_eq_true q2
            have HB := Lib.hid (show inN id 1 65535 = true from inN_iff.2 ⟨q1, q2⟩)
            go_wp2_with fail
            go_meet
            case rel => exact ⟨by rw [← HI.out, HB.out], rfl⟩
          · have d2 : decide (id ≤ 65535) = false := decide_eq_false q2
            have HB := Lib.hid (show inN id 1 65535 = false by unfold inN; rw [d2, Bool.and_false])
            go_wp2_with fail
            go_meet
            case rel => exact ⟨by rw [← HI.out, HB.out], rfl⟩
        · have d1 : decide (id ≥ 1) = false := decide_eq_false q1
          have HB := Lib.hid (show inN id 1 65535 = false by unfold inN; rw [decide_eq_false q1]; rfl)
          go_wp2_with fail
          go_meet
          case rel => exact ⟨by rw [← HI.out, HB.out], rfl⟩
      case rest =>
        obtain ⟨rfl, rfl⟩ := hcut
        obtain ⟨wf, rfl⟩ : ∃ x, x = wc := ⟨_, rfl⟩
        rcases c with _ | ⟨cc0, cc1⟩
        · go_wp2_with fail
          refine (C1.out _).mono ?_
          rintro e w1 ⟨rfl, hk⟩
          have r1 := HR.out.2.keeps hk
          have HK := Lib.hid (HR.out.1.then_ hk)
          clear x0 x1 x2 x3 x4 x5 x6 x7 x8
          have y0 := r1.cell 0
          have y1 := r1.cell 1
          have y2 := r1.cell 2
          have y3 := r1.cell 3
          have y4 := r1.cell 4
          have y5 := r1.cell 5
          have y6 := r1.cell 6
          have y7 := r1.cell 7
          have y8 := r1.cell 8
          simp only [List.getElem?_toArray, List.getElem?_cons_zero, List.getElem?_cons_succ] at y0 y1 y2 y3 y4 y5 y6 y7 y8
          replace HR := Lib.hid (And.intro HK.out r1)
          clear hk r1
          cases b1 with
          | false =>
            go_wp2_with fail
            go_ret
            exact ⟨by rw [HT.out]; first | rfl | simp [*], HK.out⟩
          | true =>
            by_cases l1 : 1 ≤ b.length
            · have e1 : decide ((b.length : Int) ≥ 1) = true := decide_eq_true (by omega)
              by_cases l2 : b.length ≤ 2000
              · have e2 : decide ((b.length : Int) ≤ 2000) = true := decide_eq_true (by omega)
                have e3 : inN (b.length : Nat) 1 2000 = true := inN_iff.2 ⟨by omega, by omega⟩
                rw [e3] at HT
                clear e3
                cases Q with
                | false =>
                  go_wp2_with fail
                  go_ret
                  exact ⟨by rw [HT.out]; first | rfl | simp [*], HK.out⟩
                | true =>
                  by_cases hs0 : seq = 0
                  · subst hs0
                    by_cases hi0 : id = 0
                    · subst hi0
                      go_wp2_with fail
                      go_ret
                      exact ⟨by rw [HT.out]; first | rfl | simp [*], HK.out⟩
                    · have hi1 : (id == 0) = false := by simpa using hi0
                      go_wp2_with fail
                      go_ret
                      exact ⟨by rw [HT.out]; first | rfl | simp [*], HK.out⟩
                  · have hs1 : (seq == 0) = false := by simpa using hs0
                    go_wp2_with fail
                    go_ret
                    exact ⟨by rw [HT.out]; first | rfl | simp [*], HK.out⟩
              · have e2 : decide ((b.length : Int) ≤ 2000) = false := decide_eq_false (by omega)
                have e3 : inN (b.length : Nat) 1 2000 = false := by rw [← Bool.not_eq_true, inN_iff]; omega
                rw [e3] at HT
                clear e3
                go_wp2_with fail
                go_ret
                exact ⟨by rw [HT.out]; first | rfl | simp [*], HK.out⟩
            · have e1 : decide ((b.length : Int) ≥ 1) = false := decide_eq_false (by omega)
              have e3 : inN (b.length : Nat) 1 2000 = false := by rw [← Bool.not_eq_true, inN_iff]; omega
              rw [e3] at HT
              clear e3
              go_wp2_with fail
              go_ret
              exact ⟨by rw [HT.out]; first | rfl | simp [*], HK.out⟩
        · have HK := Lib.hid HR.out.1
          go_wp2_with fail
          go_ret
          exact ⟨by rw [HT.out]; first | rfl | simp [*], HK.out⟩
end Go.Proofs.YtfglgeoookbppaaGreatDoor

namespace Go.Proofs.YtfglgeoookbppaaGreatDoor
open Go.RowKit Go.Shelf

theorem rcOk_bad {x : Rw} (h3 : x.k ≠ 3) (h : x.r = true ∨ x.s ≠ 0) : rcOk x = false := by
  cases hi : rcIs x.k with
  | false => unfold rcOk; rw [hi]; rfl
  | true =>
    have e : x.k = 1 ∨ x.k = 2 ∨ x.k = 3 ∨ x.k = 4 ∨ x.k = 5 := by
      unfold rcIs at hi
      rw [inN_iff] at hi
      omega
    obtain ⟨k, c, seq, id, t, b, q, r, s⟩ := x
    simp only at e h3 h
    have hb : ((!r) && (s == 0)) = false := by
      rcases h with h | h
      · rw [h]; rfl
      · rw [show (s == 0) = false by simpa using h, Bool.and_false]
    rcases e with rfl | rfl | rfl | rfl | rfl
    · rw [rok1, hb]; simp
    · rw [rok2, hb]; simp
    · exact absurd rfl h3
    · rw [rok4, hb]; simp
    · rw [rok5, hb]; simp
set_option maxRecDepth 100000 in
set_option maxHeartbeats 4000000 in
theorem rrRight_bad (k : Int) (c : List UInt8) (seq id : Int) (t b : List UInt8) (q : Int) (r : Bool) (s : Int) (w : World) (h3 : k ≠ 3) (hbad : r = true ∨ s ≠ 0) : Calls Tryz.prog 8 #[rwV ⟨k, c, seq, id, t, b, q, r, s⟩] w (TruePost w (rcOk ⟨k, c, seq, id, t, b, q, r, s⟩)) := by
  have HT := Lib.hid (rcOk_bad (x := ⟨k, c, seq, id, t, b, q, r, s⟩) h3 hbad)
  obtain ⟨N, hN⟩ : ∃ N, (t.isEmpty && (b.isEmpty && (q == 0))) = N := ⟨_, rfl⟩
  obtain ⟨Q, hQ⟩ : ∃ Q, inN q 0 2 = Q := ⟨_, rfl⟩
  obtain ⟨I, hI⟩ : ∃ I, inN id 1 65535 = I := ⟨_, rfl⟩
  have HN := Lib.hid hN
  have HQ := Lib.hid hQ
  have HI := Lib.hid hI
  have hk3 : (k != 3) = true := by simpa using h3
  clear hN hQ hI
  obtain ⟨W0, hW0⟩ : ∃ W0, w.alloc (.cells #[.int .i64 k, .string ⟨c.toArray⟩, .int .i64 seq, .int .i64 id, .string ⟨t.toArray⟩, .string ⟨b.toArray⟩, .int .i64 q, .bool r, .int .i64 s] 25) = W0 := ⟨_, rfl⟩
  have k0 : Keeps w W0 [] := by rw [← hW0]; exact Keeps.alloc _ _
  have r0 : Row W0 w.heap.size 25 #[.int .i64 k, .string ⟨c.toArray⟩, .int .i64 seq, .int .i64 id, .string ⟨t.toArray⟩, .string ⟨b.toArray⟩, .int .i64 q, .bool r, .int .i64 s] := by rw [← hW0]; exact Row.new _ _ _
  have HR := Lib.hid (And.intro k0 r0)
  have x0 := r0.cell 0
  have x1 := r0.cell 1
  have x2 := r0.cell 2
  have x3 := r0.cell 3
  have x4 := r0.cell 4
  have x5 := r0.cell 5
  have x6 := r0.cell 6
  have x7 := r0.cell 7
  have x8 := r0.cell 8
  simp only [List.getElem?_toArray, List.getElem?_cons_zero, List.getElem?_cons_succ] at x0 x1 x2 x3 x4 x5 x6 x7 x8
  clear k0 r0
  go_enter Tryz.func8, Tryz.ntmps8
  go_upto_region 1 with fail
  clear hW0
  go_cut [3] (fun v wx => v = .bool N ∧ wx = W0)
  case first =>
    rcases t with _ | ⟨t0, t1⟩
    · rcases b with _ | ⟨bb0, bb1⟩
      · by_cases hq : q = 0
        · subst hq
          go_wp2_with fail
          go_meet
          case rel => exact ⟨by rw [← HN.out]; first | rfl | simp [*], rfl⟩
        · have hq' : (q == 0) = false := by simpa using hq
          go_wp2_with fail
          go_meet
          case rel => exact ⟨by rw [← HN.out]; first | rfl | simp [*], rfl⟩
      · skip
        go_wp2_with fail
        go_meet
        case rel => exact ⟨by rw [← HN.out]; first | rfl | simp [*], rfl⟩
    · skip
      go_wp2_with fail
      go_meet
      case rel => exact ⟨by rw [← HN.out]; first | rfl | simp [*], rfl⟩
  case rest =>
    obtain ⟨rfl, rfl⟩ := hcut
    obtain ⟨wd, rfl⟩ : ∃ x, x = wc := ⟨_, rfl⟩
    go_upto_region 2 with fail
    go_cut [4] (fun v wx => v = .bool Q ∧ wx = wd)
    case first =>
      by_cases q1 : 0 ≤ q
      · have d1 : decide (q ≥ 0) = true := decide_eq_true q1
        by_cases q2 : q ≤ 2
        · have d2 : decide (q ≤ 2) = true := decide_eq_true q2
          have HB := Lib.hid (show inN q 0 2 = true from inN_iff.2 ⟨q1, q2⟩)
          go_wp2_with fail
          go_meet
          case rel => exact ⟨by rw [← HQ.out, HB.out], rfl⟩
        · have d2 : decide (q ≤ 2) = false := decide_eq_false q2
          have HB := Lib.hid (show inN q 0 2 = false by unfold inN; rw [d2, Bool.and_false])
          go_wp2_with fail
          go_meet
          case rel => exact ⟨by rw [← HQ.out, HB.out], rfl⟩
      · have d1 : decide (q ≥ 0) = false := decide_eq_false q1
        have HB := Lib.hid (show inN q 0 2 = false by unfold inN; rw [decide_eq_false q1]; rfl)
        go_wp2_with fail
        go_meet
        case rel => exact ⟨by rw [← HQ.out, HB.out], rfl⟩
    case rest =>
      obtain ⟨rfl, rfl⟩ := hcut
      obtain ⟨we, rfl⟩ : ∃ x, x = wc := ⟨_, rfl⟩
      go_upto_region 3 with fail
      go_cut [5] (fun v wx => v = .bool I ∧ wx = we)
      case first =>
        by_cases q1 : 1 ≤ id
        · have d1 : decide (id ≥ 1) = true := decide_eq_true q1
          by_cases q2 : id ≤ 65535
          · have d2 : decide (id ≤ 65535) = true := decide_eq_true q2
            have HB := Lib.hid (show inN id 1 65535 = true from inN_iff.2 ⟨q1, q2⟩)
            go_wp2_with fail
            go_meet
            case rel => exact ⟨by rw [← HI.out, HB.out], rfl⟩
          · have d2 : decide (id ≤ 65535) = false := decide_eq_false q2
            have HB := Lib.hid (show inN id 1 65535 = false by unfold inN; rw [d2, Bool.and_false])
            go_wp2_with fail
            go_meet
            case rel => exact ⟨by rw [← HI.out, HB.out], rfl⟩
        · have d1 : decide (id ≥ 1) = false := decide_eq_false q1
          have HB := Lib.hid (show inN id 1 65535 = false by unfold inN; rw [decide_eq_false q1]; rfl)
          go_wp2_with fail
          go_meet
          case rel => exact ⟨by rw [← HI.out, HB.out], rfl⟩
      case rest =>
        obtain ⟨rfl, rfl⟩ := hcut
        obtain ⟨wf, rfl⟩ : ∃ x, x = wc := ⟨_, rfl⟩
        have HK := Lib.hid HR.out.1
        cases r with
        | true =>
          go_wp2_with fail
          go_ret
          exact ⟨by rw [HT.out]; first | rfl | simp [*], HK.out⟩
        | false =>
          have hs1 : s ≠ 0 := by
            rcases hbad with h | h
            · cases h
            · exact h
          have hs2 : (s != 0) = true := by simpa using hs1
          go_wp2_with fail
          go_ret
          exact ⟨by rw [HT.out]; first | rfl | simp [*], HK.out⟩
set_option maxRecDepth 100000 in
set_option maxHeartbeats 4000000 in
theorem rrRight_other (k : Int) (c : List UInt8) (seq id : Int) (t b : List UInt8) (q : Int) (w : World) (hi : rcIs k = false) : Calls Tryz.prog 8 #[rwV ⟨k, c, seq, id, t, b, q, false, 0⟩] w (TruePost w (rcOk ⟨k, c, seq, id, t, b, q, false, 0⟩)) := by
  have HT := Lib.hid (show rcOk ⟨k, c, seq, id, t, b, q, false, 0⟩ = false by unfold rcOk; rw [hi]; rfl)
  have hne : k ≠ 1 ∧ k ≠ 2 ∧ k ≠ 3 ∧ k ≠ 4 ∧ k ≠ 5 := by
    unfold rcIs inN at hi
    simp only [Bool.and_eq_false_iff, decide_eq_false_iff_not] at hi
    omega
  obtain ⟨N, hN⟩ : ∃ N, (t.isEmpty && (b.isEmpty && (q == 0))) = N := ⟨_, rfl⟩
  obtain ⟨Q, hQ⟩ : ∃ Q, inN q 0 2 = Q := ⟨_, rfl⟩
  obtain ⟨I, hI⟩ : ∃ I, inN id 1 65535 = I := ⟨_, rfl⟩
  have HN := Lib.hid hN
  have HQ := Lib.hid hQ
  have HI := Lib.hid hI
  have hk1 : (k == 1) = false := by simpa using hne.1
  have hk2 : (k == 2) = false := by simpa using hne.2.1
  have hk3 : (k != 3) = true := by simpa using hne.2.2.1
  have hk3' : (k == 3) = false := by simpa using hne.2.2.1
  have hk4 : (k == 4) = false := by simpa using hne.2.2.2.1
  have hk5 : (k == 5) = false := by simpa using hne.2.2.2.2
  clear hN hQ hI
  obtain ⟨r, hr⟩ : ∃ r : Bool, r = false := ⟨_, rfl⟩
  obtain ⟨s, hs⟩ : ∃ s : Int, s = 0 := ⟨_, rfl⟩
  rw [← hr, ← hs]
  rw [← hr, ← hs] at HT
  obtain ⟨W0, hW0⟩ : ∃ W0, w.alloc (.cells #[.int .i64 k, .string ⟨c.toArray⟩, .int .i64 seq, .int .i64 id, .string ⟨t.toArray⟩, .string ⟨b.toArray⟩, .int .i64 q, .bool r, .int .i64 s] 25) = W0 := ⟨_, rfl⟩
  have k0 : Keeps w W0 [] := by rw [← hW0]; exact Keeps.alloc _ _
  have r0 : Row W0 w.heap.size 25 #[.int .i64 k, .string ⟨c.toArray⟩, .int .i64 seq, .int .i64 id, .string ⟨t.toArray⟩, .string ⟨b.toArray⟩, .int .i64 q, .bool r, .int .i64 s] := by rw [← hW0]; exact Row.new _ _ _
  have HR := Lib.hid (And.intro k0 r0)
  have x0 := r0.cell 0
  have x1 := r0.cell 1
  have x2 := r0.cell 2
  have x3 := r0.cell 3
  have x4 := r0.cell 4
  have x5 := r0.cell 5
  have x6 := r0.cell 6
  have x7 := r0.cell 7
  have x8 := r0.cell 8
  simp only [List.getElem?_toArray, List.getElem?_cons_zero, List.getElem?_cons_succ] at x0 x1 x2 x3 x4 x5 x6 x7 x8
  clear k0 r0
  subst hr hs
  go_enter Tryz.func8, Tryz.ntmps8
  go_upto_region 1 with fail
  clear hW0
  go_cut [3] (fun v wx => v = .bool N ∧ wx = W0)
  case first =>
    rcases t with _ | ⟨t0, t1⟩
    · rcases b with _ | ⟨bb0, bb1⟩
      · by_cases hq : q = 0
        · subst hq
          go_wp2_with fail
          go_meet
          case rel => exact ⟨by rw [← HN.out]; first | rfl | simp [*], rfl⟩
        · have hq' : (q == 0) = false := by simpa using hq
          go_wp2_with fail
          go_meet
          case rel => exact ⟨by rw [← HN.out]; first | rfl | simp [*], rfl⟩
      · skip
        go_wp2_with fail
        go_meet
        case rel => exact ⟨by rw [← HN.out]; first | rfl | simp [*], rfl⟩
    · skip
      go_wp2_with fail
      go_meet
      case rel => exact ⟨by rw [← HN.out]; first | rfl | simp [*], rfl⟩
  case rest =>
    obtain ⟨rfl, rfl⟩ := hcut
    obtain ⟨wd, rfl⟩ : ∃ x, x = wc := ⟨_, rfl⟩
    go_upto_region 2 with fail
    go_cut [4] (fun v wx => v = .bool Q ∧ wx = wd)
    case first =>
      by_cases q1 : 0 ≤ q
      · have d1 : decide (q ≥ 0) = true := decide_eq_true q1
        by_cases q2 : q ≤ 2
        · have d2 : decide (q ≤ 2) = true := decide_eq_true q2
          have HB := Lib.hid (show inN q 0 2 = true from inN_iff.2 ⟨q1, q2⟩)
          go_wp2_with fail
          go_meet
          case rel => exact ⟨by rw [← HQ.out, HB.out], rfl⟩
        · have d2 : decide (q ≤ 2) = false := decide_eq_false q2
          have HB := Lib.hid (show inN q 0 2 = false by unfold inN; rw [d2, Bool.and_false])
          go_wp2_with fail
          go_meet
          case rel => exact ⟨by rw [← HQ.out, HB.out], rfl⟩
      · have d1 : decide (q ≥ 0) = false := decide_eq_false q1
        have HB := Lib.hid (show inN q 0 2 = false by unfold inN; rw [decide_eq_false q1]; rfl)
        go_wp2_with fail
        go_meet
        case rel => exact ⟨by rw [← HQ.out, HB.out], rfl⟩
    case rest =>
      obtain ⟨rfl, rfl⟩ := hcut
      obtain ⟨we, rfl⟩ : ∃ x, x = wc := ⟨_, rfl⟩
      go_upto_region 3 with fail
      go_cut [5] (fun v wx => v = .bool I ∧ wx = we)
      case first =>
        by_cases q1 : 1 ≤ id
        · have d1 : decide (id ≥ 1) = true := decide_eq_true q1
          by_cases q2 : id ≤ 65535
          · have d2 : decide (id ≤ 65535) = true := decide_eq_true q2
            have HB := Lib.hid (show inN id 1 65535 = true from inN_iff.2 ⟨q1, q2⟩)
            go_wp2_with fail
            go_meet
            case rel => exact ⟨by rw [← HI.out, HB.out], rfl⟩
          · have d2 : decide (id ≤ 65535) = false := decide_eq_false q2
            have HB := Lib.hid (show inN id 1 65535 = false by unfold inN; rw [d2, Bool.and_false])
            go_wp2_with fail
            go_meet
            case rel => exact ⟨by rw [← HI.out, HB.out], rfl⟩
        · have d1 : decide (id ≥ 1) = false := decide_eq_false q1
          have HB := Lib.hid (show inN id 1 65535 = false by unfold inN; rw [decide_eq_false q1]; rfl)
          go_wp2_with fail
          go_meet
          case rel => exact ⟨by rw [← HI.out, HB.out], rfl⟩
      case rest =>
        obtain ⟨rfl, rfl⟩ := hcut
        obtain ⟨wf, rfl⟩ : ∃ x, x = wc := ⟨_, rfl⟩
        have HK := Lib.hid HR.out.1
        go_wp2_with fail
        go_ret
        exact ⟨by rw [HT.out]; first | rfl | simp [*], HK.out⟩
end Go.Proofs.YtfglgeoookbppaaGreatDoor

namespace Go.Proofs.YtfglgeoookbppaaGreatDoor
open Go.RowKit Go.Shelf

theorem rrRight_any (x : Rw) (w : World) (hx : x.Small) : Calls Tryz.prog 8 #[rwV x] w (TruePost w (rcOk x)) := by
  obtain ⟨k, c, seq, id, t, b, q, r, s⟩ := x
  by_cases h3 : k = 3
  · subst h3
    exact rrRight_3 c seq id t b q r s w hx
  · by_cases hb : r = true ∨ s ≠ 0
    · exact rrRight_bad k c seq id t b q r s w h3 hb
    · obtain rfl : r = false := by
        cases r with
        | false => rfl
        | true => exact absurd (.inl rfl) hb
      obtain rfl : s = 0 := by
        by_cases h : s = 0
        · exact h
        · exact absurd (.inr h) hb
      cases hi : rcIs k with
      | false => exact rrRight_other k c seq id t b q w hi
      | true =>
        have e : k = 1 ∨ k = 2 ∨ k = 4 ∨ k = 5 := by
          unfold rcIs at hi
          rw [inN_iff] at hi
          omega
        rcases e with rfl | rfl | rfl | rfl
        · exact rrRight_1 c seq id t b q w hx
        · exact rrRight_2 c seq id t b q w hx
        · exact rrRight_4 c seq id t b q w hx
        · exact rrRight_5 c seq id t b q w hx
end Go.Proofs.YtfglgeoookbppaaGreatDoor

namespace Go.Proofs.YtfglgeoookbppaaGreatDoor
open Go Go.RowKit

theorem split_zero : ∀ (c d u v : List UInt8), (0 : UInt8) ∉ c → (0 : UInt8) ∉ d → c ++ 0 :: u = d ++ 0 :: v → c = d
  | [], [], _, _, _, _, _ => rfl
  | [], b :: d, u, v, _, hd, h => by
    rw [List.nil_append, List.cons_append] at h
    injection h with h1 _
    exact absurd (by rw [h1]; simp) hd
  | a :: c, [], u, v, hc, _, h => by
    rw [List.nil_append, List.cons_append] at h
    injection h with h1 _
    exact absurd (by rw [h1]; simp) hc
  | a :: c, b :: d, u, v, hc, hd, h => by
    rw [List.cons_append, List.cons_append] at h
    injection h with h1 h2
    rw [h1, split_zero c d u v (fun h => hc (List.mem_cons_of_mem _ h)) (fun h => hd (List.mem_cons_of_mem _ h)) h2]
theorem less_zero : ∀ (c d u v : List UInt8), (0 : UInt8) ∉ c → (0 : UInt8) ∉ d → c ≠ d → Op.bytesLess (c ++ 0 :: u) (d ++ 0 :: v) = Op.bytesLess c d
  | [], [], _, _, _, _, h => absurd rfl h
  | [], b :: d, u, v, _, hd, _ => by
    have hb : b ≠ 0 := fun e => hd (by rw [e]; simp)
    have h1 : (0 : UInt8) < b := by
      rw [UInt8.lt_iff_toNat_lt]
      have : b.toNat ≠ 0 := fun e => hb (UInt8.toNat_inj.1 (by simpa using e))
      simp
      omega
    simp [Op.bytesLess, h1]
  | a :: c, [], u, v, hc, _, _ => by
    have hb : a ≠ 0 := fun e => hc (by rw [e]; simp)
    have h1 : ¬ a < 0 := by
      rw [UInt8.lt_iff_toNat_lt]
      simp
    simp [Op.bytesLess, h1, hb]
  | a :: c, b :: d, u, v, hc, hd, h => by
    by_cases e : a = b
    · subst e
      have ih := less_zero c d u v (fun h => hc (List.mem_cons_of_mem _ h)) (fun h => hd (List.mem_cons_of_mem _ h)) (fun e => h (by rw [e]))
      simp only [List.cons_append, Op.bytesLess, ih]
    · have e' : (a == b) = false := by simpa using e
      simp [Op.bytesLess, e']
theorem client_zero {c : List UInt8} (h : rcClient c = true) : (0 : UInt8) ∉ c := by
  unfold rcClient at h
  simp only [Bool.and_eq_true] at h
  exact uGood_nozero _ c (Nat.le_refl _) h.2.2
theorem kRaw_text {c : List UInt8} (h : rcClient c = true) : kRaw [kText c] = 3 :: (c ++ [0, 1]) := by
  rw [kRaw_one]
  show 3 :: (kEsc c ++ [0, 1]) = _
  rw [kEsc_plain (client_zero h)]
theorem text_take {c d : List UInt8} (hc : rcClient c = true) (hd : rcClient d = true) (r : List UInt8) : (kRaw [kText d] ++ r).take (kRaw [kText c]).length = kRaw [kText c] ↔ c = d := by
  rw [kRaw_text hc, kRaw_text hd]
  constructor
  · intro h
    have h2 := List.take_append_drop (3 :: (c ++ [0, 1]) : List UInt8).length ((3 :: (d ++ [0, 1])) ++ r)
    rw [h] at h2
    simp only [List.cons_append, List.append_assoc, List.nil_append, List.cons.injEq, true_and] at h2
    exact split_zero c d _ _ (client_zero hc) (client_zero hd) h2
  · rintro rfl
    exact List.take_left
theorem text_less {c d : List UInt8} (hc : rcClient c = true) (hd : rcClient d = true) (h : c ≠ d) (r s : List UInt8) : Op.bytesLess (kRaw [kText c] ++ r) (kRaw [kText d] ++ s) = Op.bytesLess c d := by
  rw [kRaw_text hc, kRaw_text hd]
  have := less_zero c d (1 :: r) (1 :: s) (client_zero hc) (client_zero hd) h
  simp only [List.cons_append, List.append_assoc, List.nil_append, Op.bytesLess, beq_self_eq_true, Bool.true_and]
  rw [this]
  simp
/-- A row of a client that has no place: its key begins with the client's part. -/
structure ClKey (x : Rw) (r : List UInt8) : Prop where
  c : rcClient x.c = true
  s : rcKeyS x 0 = kRaw [kText x.c] ++ r
  e : rcKeyE x 0 = 0
theorem clKey {x : Rw} (h : rcOk x = true) (hp : rcPlaced x.k = false) : ∃ r, ClKey x r ∧ (x.k = 1 ∧ r = [] ∨ x.k = 3 ∧ r = kRaw [kInt x.seq] ∧ 0 ≤ x.seq ∧ x.seq ≤ 4611686018427387904 ∨ x.k = 4 ∧ r = kRaw [kInt x.id] ∧ 1 ≤ x.id ∧ x.id ≤ 65535) := by
  have hf : rcFits x 0 = true := by unfold rcFits; rw [h]; simp [inN]
  have hS : rcKeyS x 0 = kRaw (rcParts x.k x) := by
    unfold rcKeyS rcKeyL
    rw [if_pos hf, hp]
    simp
  have hE : rcKeyE x 0 = 0 := by unfold rcKeyE; rw [if_pos hf]
  have hi : rcIs x.k = true := by
    unfold rcOk at h
    rw [Bool.and_eq_true] at h
    exact h.1
  have e : x.k = 1 ∨ x.k = 2 ∨ x.k = 3 ∨ x.k = 4 ∨ x.k = 5 := by
    unfold rcIs at hi
    rw [inN_iff] at hi
    omega
  obtain ⟨k, c, seq, id, t, b, q, r, s⟩ := x
  simp only at e hp hS ⊢
  rcases e with rfl | rfl | rfl | rfl | rfl
  · rw [rok1] at h
    simp only [Bool.and_eq_true] at h
    exact ⟨[], ⟨h.1.1, by rw [hS, List.append_nil]; rfl, hE⟩, .inl ⟨rfl, rfl⟩⟩
  · exact absurd hp (by decide)
  · rw [rok3] at h
    simp only [Bool.and_eq_true] at h
    have hq := inN_iff.1 h.2.1
    exact ⟨kRaw [kInt seq], ⟨h.1, by rw [hS, ← kRaw_append]; rfl, hE⟩, .inr (.inl ⟨rfl, rfl, hq.1, hq.2⟩)⟩
  · rw [rok4] at h
    simp only [Bool.and_eq_true] at h
    have hq := inN_iff.1 h.1.2
    exact ⟨kRaw [kInt id], ⟨h.1.1, by rw [hS, ← kRaw_append]; rfl, hE⟩, .inr (.inr ⟨rfl, rfl, hq.1, hq.2⟩)⟩
  · exact absurd hp (by decide)
theorem seOk {c : List UInt8} (h : rcClient c = true) : rcBegS ⟨1, c, 0, 0, [], [], 0, false, 0⟩ = kRaw [kText c] ∧ rcBegE ⟨1, c, 0, 0, [], [], 0, false, 0⟩ = 0 := by
  have ho : rcOk ⟨1, c, 0, 0, [], [], 0, false, 0⟩ = true := by
    rw [rok1, h]
    decide
  unfold rcBegS rcBegE
  rw [if_pos ho, if_pos ho]
  exact ⟨rfl, rfl⟩
end Go.Proofs.YtfglgeoookbppaaGreatDoor

namespace Go.Proofs.YtfglgeoookbppaaGreatDoor
open Go.ChangeShapes Go.WideShapes Go.RowKit Go.Deep

theorem list9 {α : Type} {l : List α} (h : l.length = 9) : ∃ c0 c1 c2 c3 c4 c5 c6 c7 c8, l = [c0, c1, c2, c3, c4, c5, c6, c7, c8] := by
  match l, h with
  | [c0, c1, c2, c3, c4, c5, c6, c7, c8], _ => exact ⟨c0, c1, c2, c3, c4, c5, c6, c7, c8, rfl⟩
theorem rUndKind : Tryz.prog.underlying 22 = some (.int .i64) := by kernel_rfl
theorem rUndStage : Tryz.prog.underlying 23 = some (.int .i64) := by kernel_rfl
theorem rUndInt64 : Tryz.prog.underlying 2 = some (.int .i64) := by kernel_rfl
theorem rUndInt : Tryz.prog.underlying 3 = some (.int .i64) := by kernel_rfl
theorem rUndStr : Tryz.prog.underlying 9 = some .string := by kernel_rfl
theorem rUndBool : Tryz.prog.underlying 4 = some .bool := by kernel_rfl
section
variable {H : Type} {enc : TypeId × Value → H} {W : World}
set_option maxRecDepth 100000 in
theorem open_rowCells {base fuel : Nat} {sp : Nat → Bool} {held : Bool} {cs : List Value} {x : DataW H × List MemPlace} (h : DataW.trod enc Tryz.prog W base sp held fuel 25 cs = some x) :
    ∃ r : Rw, cs = rwCells r ∧ -9223372036854775808 ≤ r.k ∧ r.k ≤ 9223372036854775807 := by
  obtain ⟨ys, n, _, _, hlen, hyl, hf⟩ := DataW.trod_struct Tryz.underlying25 h
  obtain ⟨c0, c1, c2, c3, c4, c5, c6, c7, c8, rfl⟩ := list9 (hlen.trans (by kernel_rfl))
  have hy : ∀ i, i < 9 → ∃ y, ys[i]? = some y := fun i hi => ⟨_, List.getElem?_eq_getElem (by rw [hyl]; exact hi)⟩
  obtain ⟨y0, e0⟩ := hy 0 (by decide)
  obtain ⟨y1, e1⟩ := hy 1 (by decide)
  obtain ⟨y2, e2⟩ := hy 2 (by decide)
  obtain ⟨y3, e3⟩ := hy 3 (by decide)
  obtain ⟨y4, e4⟩ := hy 4 (by decide)
  obtain ⟨y5, e5⟩ := hy 5 (by decide)
  obtain ⟨y6, e6⟩ := hy 6 (by decide)
  obtain ⟨y7, e7⟩ := hy 7 (by decide)
  obtain ⟨y8, e8⟩ := hy 8 (by decide)
  have g0 : DataW.trod enc Tryz.prog W base sp held n 22 [c0] = some y0 := (hf 0 _ rfl).trans e0
  have g1 : DataW.trod enc Tryz.prog W base sp held n 9 [c1] = some y1 := (hf 1 _ rfl).trans e1
  have g2 : DataW.trod enc Tryz.prog W base sp held n 2 [c2] = some y2 := (hf 2 _ rfl).trans e2
  have g3 : DataW.trod enc Tryz.prog W base sp held n 2 [c3] = some y3 := (hf 3 _ rfl).trans e3
  have g4 : DataW.trod enc Tryz.prog W base sp held n 9 [c4] = some y4 := (hf 4 _ rfl).trans e4
  have g5 : DataW.trod enc Tryz.prog W base sp held n 9 [c5] = some y5 := (hf 5 _ rfl).trans e5
  have g6 : DataW.trod enc Tryz.prog W base sp held n 3 [c6] = some y6 := (hf 6 _ rfl).trans e6
  have g7 : DataW.trod enc Tryz.prog W base sp held n 4 [c7] = some y7 := (hf 7 _ rfl).trans e7
  have g8 : DataW.trod enc Tryz.prog W base sp held n 23 [c8] = some y8 := (hf 8 _ rfl).trans e8
  obtain ⟨k, k0, _, k1⟩ := DataW.trod_int rUndKind g0
  obtain ⟨c, a1, _⟩ := DataW.trod_string rUndStr g1
  obtain ⟨seq, a2, _⟩ := DataW.trod_int rUndInt64 g2
  obtain ⟨id, a3, _⟩ := DataW.trod_int rUndInt64 g3
  obtain ⟨t, a4, _⟩ := DataW.trod_string rUndStr g4
  obtain ⟨b, a5, _⟩ := DataW.trod_string rUndStr g5
  obtain ⟨q, a6, _⟩ := DataW.trod_int rUndInt g6
  obtain ⟨r, a7, _⟩ := DataW.trod_bool rUndBool g7
  obtain ⟨s, a8, _⟩ := DataW.trod_int rUndStage g8
  injection k0 with k0
  injection a1 with a1
  injection a2 with a2
  injection a3 with a3
  injection a4 with a4
  injection a5 with a5
  injection a6 with a6
  injection a7 with a7
  injection a8 with a8
  subst k0 a1 a2 a3 a4 a5 a6 a7 a8
  have hw : (decide ((-9223372036854775808 : Int) ≤ k) && decide (k ≤ 9223372036854775807)) = true := k1
  rw [Bool.and_eq_true, decide_eq_true_eq, decide_eq_true_eq] at hw
  exact ⟨⟨k, c.data.toList, seq, id, t.data.toList, b.data.toList, q, r, s⟩, by simp [rwCells], hw.1, hw.2⟩
set_option maxRecDepth 100000 in
theorem open_row {base : Nat} {v : Value} {d : DataW H} {p : List MemPlace} (hv : Value.okWide Tryz.prog W .any base 25 v) (h : DataW.Trod enc Tryz.prog W 0 (fun _ => true) true 25 v d p) :
    ∃ r : Rw, v = rwV r ∧ -9223372036854775808 ≤ r.k ∧ r.k ≤ 9223372036854775807 := by
  obtain ⟨cs, rfl, hsz⟩ := okWide_struct Tryz.underlying25 hv
  obtain ⟨l⟩ := cs
  obtain ⟨fuel, hf⟩ := h
  obtain ⟨r, e, h1, h2⟩ := open_rowCells (show DataW.trod enc Tryz.prog W 0 (fun _ => true) true fuel 25 l = _ by simpa [Value.cells] using hf)
  refine ⟨r, ?_, h1, h2⟩
  rw [e]
end
end Go.Proofs.YtfglgeoookbppaaGreatDoor

namespace Go.Proofs.YtfglgeoookbppaaGreatDoor
open Go.RowKit Go.Shelf

theorem small_few {x : Rw} (h : rcFew x = true) : x.Small := by
  unfold rcFew at h
  simp only [Bool.and_eq_true, decide_eq_true_eq] at h
  exact ⟨by omega, by omega, by omega⟩
set_option maxRecDepth 100000 in
set_option maxHeartbeats 2000000 in
theorem recordsOrder_few (x y : Rw) (w : World) (hm : MaxL w) (h : rcFew x = false ∨ rcFew y = false) : Calls Tryz.prog 3 #[rwV x, rwV y] w (TruePost w true) := by
  have HM := Lib.hid hm
  have C1 := Lib.hid (fun w => rcFew_any x w)
  have C2 := Lib.hid (fun w => rcFew_any y w)
  clear hm
  cases hf : rcFew x with
  | false =>
    rw [hf] at C1
    clear h hf
    obtain ⟨k, c, seq, id, t, b, q, r, s⟩ := x
    obtain ⟨k', c', seq', id', t', b', q', r', s'⟩ := y
    obtain ⟨W1, hW1⟩ : ∃ W1, (w.alloc (.cells #[.int .i64 k, .string ⟨c.toArray⟩, .int .i64 seq, .int .i64 id, .string ⟨t.toArray⟩, .string ⟨b.toArray⟩, .int .i64 q, .bool r, .int .i64 s] 25)).alloc (.cells #[.int .i64 k', .string ⟨c'.toArray⟩, .int .i64 seq', .int .i64 id', .string ⟨t'.toArray⟩, .string ⟨b'.toArray⟩, .int .i64 q', .bool r', .int .i64 s'] 25) = W1 := ⟨_, rfl⟩
    have k1 : Keeps w W1 [] := by rw [← hW1]; exact (Keeps.alloc _ _).then_alloc _
    have r1 : Row W1 w.heap.size 25 #[.int .i64 k, .string ⟨c.toArray⟩, .int .i64 seq, .int .i64 id, .string ⟨t.toArray⟩, .string ⟨b.toArray⟩, .int .i64 q, .bool r, .int .i64 s] := by rw [← hW1]; exact (Row.new _ _ _).alloc _
    have r2 : Row W1 (w.heap.size + 1) 25 #[.int .i64 k', .string ⟨c'.toArray⟩, .int .i64 seq', .int .i64 id', .string ⟨t'.toArray⟩, .string ⟨b'.toArray⟩, .int .i64 q', .bool r', .int .i64 s'] := by
      rw [← hW1]
      have := Row.new (w.alloc (.cells #[.int .i64 k, .string ⟨c.toArray⟩, .int .i64 seq, .int .i64 id, .string ⟨t.toArray⟩, .string ⟨b.toArray⟩, .int .i64 q, .bool r, .int .i64 s] 25)) 25 #[.int .i64 k', .string ⟨c'.toArray⟩, .int .i64 seq', .int .i64 id', .string ⟨t'.toArray⟩, .string ⟨b'.toArray⟩, .int .i64 q', .bool r', .int .i64 s']
      rwa [World.size_alloc] at this
    have HR := Lib.hid (And.intro k1 (And.intro r1 r2))
    clear k1 r1 r2
    have r1 := HR.out.2.1
    have r2 := HR.out.2.2
    have x0 := r1.cell 0
    have x1 := r1.cell 1
    have x2 := r1.cell 2
    have x3 := r1.cell 3
    have x4 := r1.cell 4
    have x5 := r1.cell 5
    have x6 := r1.cell 6
    have x7 := r1.cell 7
    have x8 := r1.cell 8
    simp only [List.getElem?_toArray, List.getElem?_cons_zero, List.getElem?_cons_succ] at x0 x1 x2 x3 x4 x5 x6 x7 x8
    have y0 := r2.cell 0
    have y1 := r2.cell 1
    have y2 := r2.cell 2
    have y3 := r2.cell 3
    have y4 := r2.cell 4
    have y5 := r2.cell 5
    have y6 := r2.cell 6
    have y7 := r2.cell 7
    have y8 := r2.cell 8
    simp only [List.getElem?_toArray, List.getElem?_cons_zero, List.getElem?_cons_succ] at y0 y1 y2 y3 y4 y5 y6 y7 y8
    clear r1 r2
    go_enter Tryz.func3, Tryz.ntmps3
    go_wp2_with fail
    clear hW1
    refine (C1.out _).mono ?_
    rintro e w9 ⟨rfl, hk⟩
    replace HR := Lib.hid (And.intro (HR.out.1.then_ hk) (And.intro (HR.out.2.1.keeps hk) (HR.out.2.2.keeps hk)))
    clear hk
    clear x0 x1 x2 x3 x4 x5 x6 x7 x8 y0 y1 y2 y3 y4 y5 y6 y7 y8
    have r1 := HR.out.2.1
    have r2 := HR.out.2.2
    have x0 := r1.cell 0
    have x1 := r1.cell 1
    have x2 := r1.cell 2
    have x3 := r1.cell 3
    have x4 := r1.cell 4
    have x5 := r1.cell 5
    have x6 := r1.cell 6
    have x7 := r1.cell 7
    have x8 := r1.cell 8
    simp only [List.getElem?_toArray, List.getElem?_cons_zero, List.getElem?_cons_succ] at x0 x1 x2 x3 x4 x5 x6 x7 x8
    have y0 := r2.cell 0
    have y1 := r2.cell 1
    have y2 := r2.cell 2
    have y3 := r2.cell 3
    have y4 := r2.cell 4
    have y5 := r2.cell 5
    have y6 := r2.cell 6
    have y7 := r2.cell 7
    have y8 := r2.cell 8
    simp only [List.getElem?_toArray, List.getElem?_cons_zero, List.getElem?_cons_succ] at y0 y1 y2 y3 y4 y5 y6 y7 y8
    clear r1 r2
    go_wp2_with fail
    clear x0 x1 x2 x3 x4 x5 x6 x7 x8 y0 y1 y2 y3 y4 y5 y6 y7 y8
    refine (known19_any _ (HM.out.keeps HR.out.1)).mono ?_
    rintro e w9 ⟨rfl, hk⟩
    have HK := Lib.hid (HR.out.1.then_ hk)
    clear hk
    go_wp2_with fail
    go_ret
    exact ⟨rfl, HK.out⟩
  | true =>
    rw [hf] at C1 h
    have h2 : rcFew y = false := by simpa using h
    rw [h2] at C2
    clear h hf h2
    obtain ⟨k, c, seq, id, t, b, q, r, s⟩ := x
    obtain ⟨k', c', seq', id', t', b', q', r', s'⟩ := y
    obtain ⟨W1, hW1⟩ : ∃ W1, (w.alloc (.cells #[.int .i64 k, .string ⟨c.toArray⟩, .int .i64 seq, .int .i64 id, .string ⟨t.toArray⟩, .string ⟨b.toArray⟩, .int .i64 q, .bool r, .int .i64 s] 25)).alloc (.cells #[.int .i64 k', .string ⟨c'.toArray⟩, .int .i64 seq', .int .i64 id', .string ⟨t'.toArray⟩, .string ⟨b'.toArray⟩, .int .i64 q', .bool r', .int .i64 s'] 25) = W1 := ⟨_, rfl⟩
    have k1 : Keeps w W1 [] := by rw [← hW1]; exact (Keeps.alloc _ _).then_alloc _
    have r1 : Row W1 w.heap.size 25 #[.int .i64 k, .string ⟨c.toArray⟩, .int .i64 seq, .int .i64 id, .string ⟨t.toArray⟩, .string ⟨b.toArray⟩, .int .i64 q, .bool r, .int .i64 s] := by rw [← hW1]; exact (Row.new _ _ _).alloc _
    have r2 : Row W1 (w.heap.size + 1) 25 #[.int .i64 k', .string ⟨c'.toArray⟩, .int .i64 seq', .int .i64 id', .string ⟨t'.toArray⟩, .string ⟨b'.toArray⟩, .int .i64 q', .bool r', .int .i64 s'] := by
      rw [← hW1]
      have := Row.new (w.alloc (.cells #[.int .i64 k, .string ⟨c.toArray⟩, .int .i64 seq, .int .i64 id, .string ⟨t.toArray⟩, .string ⟨b.toArray⟩, .int .i64 q, .bool r, .int .i64 s] 25)) 25 #[.int .i64 k', .string ⟨c'.toArray⟩, .int .i64 seq', .int .i64 id', .string ⟨t'.toArray⟩, .string ⟨b'.toArray⟩, .int .i64 q', .bool r', .int .i64 s']
      rwa [World.size_alloc] at this
    have HR := Lib.hid (And.intro k1 (And.intro r1 r2))
    clear k1 r1 r2
    have r1 := HR.out.2.1
    have r2 := HR.out.2.2
    have x0 := r1.cell 0
    have x1 := r1.cell 1
    have x2 := r1.cell 2
    have x3 := r1.cell 3
    have x4 := r1.cell 4
    have x5 := r1.cell 5
    have x6 := r1.cell 6
    have x7 := r1.cell 7
    have x8 := r1.cell 8
    simp only [List.getElem?_toArray, List.getElem?_cons_zero, List.getElem?_cons_succ] at x0 x1 x2 x3 x4 x5 x6 x7 x8
    have y0 := r2.cell 0
    have y1 := r2.cell 1
    have y2 := r2.cell 2
    have y3 := r2.cell 3
    have y4 := r2.cell 4
    have y5 := r2.cell 5
    have y6 := r2.cell 6
    have y7 := r2.cell 7
    have y8 := r2.cell 8
    simp only [List.getElem?_toArray, List.getElem?_cons_zero, List.getElem?_cons_succ] at y0 y1 y2 y3 y4 y5 y6 y7 y8
    clear r1 r2
    go_enter Tryz.func3, Tryz.ntmps3
    go_wp2_with fail
    clear hW1
    refine (C1.out _).mono ?_
    rintro e w9 ⟨rfl, hk⟩
    replace HR := Lib.hid (And.intro (HR.out.1.then_ hk) (And.intro (HR.out.2.1.keeps hk) (HR.out.2.2.keeps hk)))
    clear hk
    clear x0 x1 x2 x3 x4 x5 x6 x7 x8 y0 y1 y2 y3 y4 y5 y6 y7 y8
    have r1 := HR.out.2.1
    have r2 := HR.out.2.2
    have x0 := r1.cell 0
    have x1 := r1.cell 1
    have x2 := r1.cell 2
    have x3 := r1.cell 3
    have x4 := r1.cell 4
    have x5 := r1.cell 5
    have x6 := r1.cell 6
    have x7 := r1.cell 7
    have x8 := r1.cell 8
    simp only [List.getElem?_toArray, List.getElem?_cons_zero, List.getElem?_cons_succ] at x0 x1 x2 x3 x4 x5 x6 x7 x8
    have y0 := r2.cell 0
    have y1 := r2.cell 1
    have y2 := r2.cell 2
    have y3 := r2.cell 3
    have y4 := r2.cell 4
    have y5 := r2.cell 5
    have y6 := r2.cell 6
    have y7 := r2.cell 7
    have y8 := r2.cell 8
    simp only [List.getElem?_toArray, List.getElem?_cons_zero, List.getElem?_cons_succ] at y0 y1 y2 y3 y4 y5 y6 y7 y8
    clear r1 r2
    go_wp2_with fail
    refine (C2.out _).mono ?_
    rintro e w9 ⟨rfl, hk⟩
    replace HR := Lib.hid (And.intro (HR.out.1.then_ hk) (And.intro (HR.out.2.1.keeps hk) (HR.out.2.2.keeps hk)))
    clear hk
    clear x0 x1 x2 x3 x4 x5 x6 x7 x8 y0 y1 y2 y3 y4 y5 y6 y7 y8
    have r1 := HR.out.2.1
    have r2 := HR.out.2.2
    have x0 := r1.cell 0
    have x1 := r1.cell 1
    have x2 := r1.cell 2
    have x3 := r1.cell 3
    have x4 := r1.cell 4
    have x5 := r1.cell 5
    have x6 := r1.cell 6
    have x7 := r1.cell 7
    have x8 := r1.cell 8
    simp only [List.getElem?_toArray, List.getElem?_cons_zero, List.getElem?_cons_succ] at x0 x1 x2 x3 x4 x5 x6 x7 x8
    have y0 := r2.cell 0
    have y1 := r2.cell 1
    have y2 := r2.cell 2
    have y3 := r2.cell 3
    have y4 := r2.cell 4
    have y5 := r2.cell 5
    have y6 := r2.cell 6
    have y7 := r2.cell 7
    have y8 := r2.cell 8
    simp only [List.getElem?_toArray, List.getElem?_cons_zero, List.getElem?_cons_succ] at y0 y1 y2 y3 y4 y5 y6 y7 y8
    clear r1 r2
    go_wp2_with fail
    clear x0 x1 x2 x3 x4 x5 x6 x7 x8 y0 y1 y2 y3 y4 y5 y6 y7 y8
    refine (known19_any _ (HM.out.keeps HR.out.1)).mono ?_
    rintro e w9 ⟨rfl, hk⟩
    have HK := Lib.hid (HR.out.1.then_ hk)
    clear hk
    go_wp2_with fail
    go_ret
    exact ⟨rfl, HK.out⟩
set_option maxRecDepth 100000 in
set_option maxHeartbeats 4000000 in
theorem recordsOrder_right (x y : Rw) (w : World) (hm : MaxL w) (hf : rcFew x = true) (hf2 : rcFew y = true) (h : rcOk x = false ∨ rcOk y = false ∨ x.k ≠ y.k ∨ rcPlaced x.k = true) : Calls Tryz.prog 3 #[rwV x, rwV y] w (TruePost w true) := by
  have HM := Lib.hid hm
  have C1 := Lib.hid (fun w => rcFew_any x w)
  have C2 := Lib.hid (fun w => rcFew_any y w)
  have C3 := Lib.hid (fun w => rrRight_any x w (small_few hf))
  have C4 := Lib.hid (fun w => rrRight_any y w (small_few hf2))
  have C5 := Lib.hid (fun w => rrPlaced_any w x.k)
  rw [hf] at C1
  rw [hf2] at C2
  obtain ⟨o1, h1⟩ : ∃ o1, rcOk x = o1 := ⟨_, rfl⟩
  obtain ⟨o2, h2⟩ : ∃ o2, rcOk y = o2 := ⟨_, rfl⟩
  rw [h1] at C3 h
  rw [h2] at C4 h
  clear hm hf hf2 h1 h2
  obtain ⟨k, c, seq, id, t, b, q, r, s⟩ := x
  obtain ⟨k', c', seq', id', t', b', q', r', s'⟩ := y
  simp only at h C5
  obtain ⟨W1, hW1⟩ : ∃ W1, (w.alloc (.cells #[.int .i64 k, .string ⟨c.toArray⟩, .int .i64 seq, .int .i64 id, .string ⟨t.toArray⟩, .string ⟨b.toArray⟩, .int .i64 q, .bool r, .int .i64 s] 25)).alloc (.cells #[.int .i64 k', .string ⟨c'.toArray⟩, .int .i64 seq', .int .i64 id', .string ⟨t'.toArray⟩, .string ⟨b'.toArray⟩, .int .i64 q', .bool r', .int .i64 s'] 25) = W1 := ⟨_, rfl⟩
  have k1 : Keeps w W1 [] := by rw [← hW1]; exact (Keeps.alloc _ _).then_alloc _
  have r1 : Row W1 w.heap.size 25 #[.int .i64 k, .string ⟨c.toArray⟩, .int .i64 seq, .int .i64 id, .string ⟨t.toArray⟩, .string ⟨b.toArray⟩, .int .i64 q, .bool r, .int .i64 s] := by rw [← hW1]; exact (Row.new _ _ _).alloc _
  have r2 : Row W1 (w.heap.size + 1) 25 #[.int .i64 k', .string ⟨c'.toArray⟩, .int .i64 seq', .int .i64 id', .string ⟨t'.toArray⟩, .string ⟨b'.toArray⟩, .int .i64 q', .bool r', .int .i64 s'] := by
    rw [← hW1]
    have := Row.new (w.alloc (.cells #[.int .i64 k, .string ⟨c.toArray⟩, .int .i64 seq, .int .i64 id, .string ⟨t.toArray⟩, .string ⟨b.toArray⟩, .int .i64 q, .bool r, .int .i64 s] 25)) 25 #[.int .i64 k', .string ⟨c'.toArray⟩, .int .i64 seq', .int .i64 id', .string ⟨t'.toArray⟩, .string ⟨b'.toArray⟩, .int .i64 q', .bool r', .int .i64 s']
    rwa [World.size_alloc] at this
  have HR := Lib.hid (And.intro k1 (And.intro r1 r2))
  clear k1 r1 r2
  have r1 := HR.out.2.1
  have r2 := HR.out.2.2
  have x0 := r1.cell 0
  have x1 := r1.cell 1
  have x2 := r1.cell 2
  have x3 := r1.cell 3
  have x4 := r1.cell 4
  have x5 := r1.cell 5
  have x6 := r1.cell 6
  have x7 := r1.cell 7
  have x8 := r1.cell 8
  simp only [List.getElem?_toArray, List.getElem?_cons_zero, List.getElem?_cons_succ] at x0 x1 x2 x3 x4 x5 x6 x7 x8
  have y0 := r2.cell 0
  have y1 := r2.cell 1
  have y2 := r2.cell 2
  have y3 := r2.cell 3
  have y4 := r2.cell 4
  have y5 := r2.cell 5
  have y6 := r2.cell 6
  have y7 := r2.cell 7
  have y8 := r2.cell 8
  simp only [List.getElem?_toArray, List.getElem?_cons_zero, List.getElem?_cons_succ] at y0 y1 y2 y3 y4 y5 y6 y7 y8
  clear r1 r2
  go_enter Tryz.func3, Tryz.ntmps3
  go_wp2_with fail
  clear hW1
  refine (C1.out _).mono ?_
  rintro e w9 ⟨rfl, hk⟩
  replace HR := Lib.hid (And.intro (HR.out.1.then_ hk) (And.intro (HR.out.2.1.keeps hk) (HR.out.2.2.keeps hk)))
  clear hk
  clear x0 x1 x2 x3 x4 x5 x6 x7 x8 y0 y1 y2 y3 y4 y5 y6 y7 y8
  have r1 := HR.out.2.1
  have r2 := HR.out.2.2
  have x0 := r1.cell 0
  have x1 := r1.cell 1
  have x2 := r1.cell 2
  have x3 := r1.cell 3
  have x4 := r1.cell 4
  have x5 := r1.cell 5
  have x6 := r1.cell 6
  have x7 := r1.cell 7
  have x8 := r1.cell 8
  simp only [List.getElem?_toArray, List.getElem?_cons_zero, List.getElem?_cons_succ] at x0 x1 x2 x3 x4 x5 x6 x7 x8
  have y0 := r2.cell 0
  have y1 := r2.cell 1
  have y2 := r2.cell 2
  have y3 := r2.cell 3
  have y4 := r2.cell 4
  have y5 := r2.cell 5
  have y6 := r2.cell 6
  have y7 := r2.cell 7
  have y8 := r2.cell 8
  simp only [List.getElem?_toArray, List.getElem?_cons_zero, List.getElem?_cons_succ] at y0 y1 y2 y3 y4 y5 y6 y7 y8
  clear r1 r2
  go_wp2_with fail
  refine (C2.out _).mono ?_
  rintro e w9 ⟨rfl, hk⟩
  replace HR := Lib.hid (And.intro (HR.out.1.then_ hk) (And.intro (HR.out.2.1.keeps hk) (HR.out.2.2.keeps hk)))
  clear hk
  clear x0 x1 x2 x3 x4 x5 x6 x7 x8 y0 y1 y2 y3 y4 y5 y6 y7 y8
  have r1 := HR.out.2.1
  have r2 := HR.out.2.2
  have x0 := r1.cell 0
  have x1 := r1.cell 1
  have x2 := r1.cell 2
  have x3 := r1.cell 3
  have x4 := r1.cell 4
  have x5 := r1.cell 5
  have x6 := r1.cell 6
  have x7 := r1.cell 7
  have x8 := r1.cell 8
  simp only [List.getElem?_toArray, List.getElem?_cons_zero, List.getElem?_cons_succ] at x0 x1 x2 x3 x4 x5 x6 x7 x8
  have y0 := r2.cell 0
  have y1 := r2.cell 1
  have y2 := r2.cell 2
  have y3 := r2.cell 3
  have y4 := r2.cell 4
  have y5 := r2.cell 5
  have y6 := r2.cell 6
  have y7 := r2.cell 7
  have y8 := r2.cell 8
  simp only [List.getElem?_toArray, List.getElem?_cons_zero, List.getElem?_cons_succ] at y0 y1 y2 y3 y4 y5 y6 y7 y8
  clear r1 r2
  go_wp2_with fail
  refine (C3.out _).mono ?_
  rintro e w9 ⟨rfl, hk⟩
  replace HR := Lib.hid (And.intro (HR.out.1.then_ hk) (And.intro (HR.out.2.1.keeps hk) (HR.out.2.2.keeps hk)))
  clear hk
  clear x0 x1 x2 x3 x4 x5 x6 x7 x8 y0 y1 y2 y3 y4 y5 y6 y7 y8
  have r1 := HR.out.2.1
  have r2 := HR.out.2.2
  have x0 := r1.cell 0
  have x1 := r1.cell 1
  have x2 := r1.cell 2
  have x3 := r1.cell 3
  have x4 := r1.cell 4
  have x5 := r1.cell 5
  have x6 := r1.cell 6
  have x7 := r1.cell 7
  have x8 := r1.cell 8
  simp only [List.getElem?_toArray, List.getElem?_cons_zero, List.getElem?_cons_succ] at x0 x1 x2 x3 x4 x5 x6 x7 x8
  have y0 := r2.cell 0
  have y1 := r2.cell 1
  have y2 := r2.cell 2
  have y3 := r2.cell 3
  have y4 := r2.cell 4
  have y5 := r2.cell 5
  have y6 := r2.cell 6
  have y7 := r2.cell 7
  have y8 := r2.cell 8
  simp only [List.getElem?_toArray, List.getElem?_cons_zero, List.getElem?_cons_succ] at y0 y1 y2 y3 y4 y5 y6 y7 y8
  clear r1 r2
  cases o1 with
  | false =>
    go_wp2_with fail
    clear x0 x1 x2 x3 x4 x5 x6 x7 x8 y0 y1 y2 y3 y4 y5 y6 y7 y8
    refine (known19_any _ (HM.out.keeps HR.out.1)).mono ?_
    rintro e w9 ⟨rfl, hk⟩
    have HK := Lib.hid (HR.out.1.then_ hk)
    clear hk
    go_wp2_with fail
    go_ret
    exact ⟨rfl, HK.out⟩
  | true =>
    go_wp2_with fail
    refine (C4.out _).mono ?_
    rintro e w9 ⟨rfl, hk⟩
    replace HR := Lib.hid (And.intro (HR.out.1.then_ hk) (And.intro (HR.out.2.1.keeps hk) (HR.out.2.2.keeps hk)))
    clear hk
    clear x0 x1 x2 x3 x4 x5 x6 x7 x8 y0 y1 y2 y3 y4 y5 y6 y7 y8
    have r1 := HR.out.2.1
    have r2 := HR.out.2.2
    have x0 := r1.cell 0
    have x1 := r1.cell 1
    have x2 := r1.cell 2
    have x3 := r1.cell 3
    have x4 := r1.cell 4
    have x5 := r1.cell 5
    have x6 := r1.cell 6
    have x7 := r1.cell 7
    have x8 := r1.cell 8
    simp only [List.getElem?_toArray, List.getElem?_cons_zero, List.getElem?_cons_succ] at x0 x1 x2 x3 x4 x5 x6 x7 x8
    have y0 := r2.cell 0
    have y1 := r2.cell 1
    have y2 := r2.cell 2
    have y3 := r2.cell 3
    have y4 := r2.cell 4
    have y5 := r2.cell 5
    have y6 := r2.cell 6
    have y7 := r2.cell 7
    have y8 := r2.cell 8
    simp only [List.getElem?_toArray, List.getElem?_cons_zero, List.getElem?_cons_succ] at y0 y1 y2 y3 y4 y5 y6 y7 y8
    clear r1 r2
    cases o2 with
    | false =>
      go_wp2_with fail
      clear x0 x1 x2 x3 x4 x5 x6 x7 x8 y0 y1 y2 y3 y4 y5 y6 y7 y8
      refine (known19_any _ (HM.out.keeps HR.out.1)).mono ?_
      rintro e w9 ⟨rfl, hk⟩
      have HK := Lib.hid (HR.out.1.then_ hk)
      clear hk
      go_wp2_with fail
      go_ret
      exact ⟨rfl, HK.out⟩
    | true =>
      by_cases hk : k = k'
      · have hp : rcPlaced k = true := by
          rcases h with h | h | h | h
          · cases h
          · cases h
          · exact absurd hk h
          · exact h
        rw [hp] at C5
        have hkk : (k != k') = false := by simpa using hk
        clear h hk
        go_wp2_with fail
        refine (C5.out _).mono ?_
        rintro e w9 ⟨rfl, rfl⟩
        go_wp2_with fail
        clear x0 x1 x2 x3 x4 x5 x6 x7 x8 y0 y1 y2 y3 y4 y5 y6 y7 y8
        refine (known19_any _ (HM.out.keeps HR.out.1)).mono ?_
        rintro e w9 ⟨rfl, hk⟩
        have HK := Lib.hid (HR.out.1.then_ hk)
        clear hk
        go_wp2_with fail
        go_ret
        exact ⟨rfl, HK.out⟩
      · have hkk : (k != k') = true := by simpa using hk
        clear h
        go_wp2_with fail
        clear x0 x1 x2 x3 x4 x5 x6 x7 x8 y0 y1 y2 y3 y4 y5 y6 y7 y8
        refine (known19_any _ (HM.out.keeps HR.out.1)).mono ?_
        rintro e w9 ⟨rfl, hk⟩
        have HK := Lib.hid (HR.out.1.then_ hk)
        clear hk
        go_wp2_with fail
        go_ret
        exact ⟨rfl, HK.out⟩
end Go.Proofs.YtfglgeoookbppaaGreatDoor

namespace Go.Proofs.YtfglgeoookbppaaGreatDoor
open Go.RowKit Go.Shelf

/-- What is read of two rows' keys: X and Y are these, S is how the first one begins. -/
structure OrdK (x y : Rw) (X Y S : List UInt8) (sm : Bool) : Prop where
  x0 : rcKeyS x 0 = X ∧ rcKeyE x 0 = 0
  y0 : rcKeyS y 0 = Y ∧ rcKeyE y 0 = 0
  s0 : rcBegS ⟨1, x.c, 0, 0, [], [], 0, false, 0⟩ = S ∧ rcBegE ⟨1, x.c, 0, 0, [], [], 0, false, 0⟩ = 0
  sx : S.length ≤ X.length ∧ X.take S.length = S
  sd : sm = (x.c == y.c)
  sy : (Y.take S.length == S) = sm
  ly : Y.length < S.length → sm = false
  lt : sm = false → Op.bytesLess X Y = Op.bytesLess x.c y.c
  eq : sm = true → x.k = y.k → x.k = 1 ∨ (x.k = 3 ∧ Op.bytesLess X Y = decide (x.seq < y.seq)) ∨ (x.k = 4 ∧ Op.bytesLess X Y = decide (x.id < y.id))
theorem ordK {x y : Rw} (h1 : rcOk x = true) (h2 : rcOk y = true) (p1 : rcPlaced x.k = false) (p2 : rcPlaced y.k = false) : ∃ X Y S sm, OrdK x y X Y S sm := by
  obtain ⟨ra, ka, ea⟩ := clKey h1 p1
  obtain ⟨rb, kb, eb⟩ := clKey h2 p2
  refine ⟨kRaw [kText x.c] ++ ra, kRaw [kText y.c] ++ rb, kRaw [kText x.c], x.c == y.c, ⟨ka.s, ka.e⟩, ⟨kb.s, kb.e⟩, seOk ka.c, ⟨by rw [List.length_append]; omega, by simp⟩, rfl, ?_, fun hl => ?_, fun hs => ?_, fun hs hk => ?_⟩
  · rw [Bool.eq_iff_iff, beq_iff_eq, beq_iff_eq]
    exact text_take ka.c kb.c rb
  · rw [beq_eq_false_iff_ne]
    intro e
    have := (text_take ka.c kb.c rb).2 e
    rw [List.take_of_length_le (by omega)] at this
    rw [this] at hl
    omega
  · exact text_less ka.c kb.c (by simpa using hs) ra rb
  · have hc : x.c = y.c := by simpa using hs
    rcases ea with ⟨e1, e2⟩ | ⟨e1, e2, e3, e4⟩ | ⟨e1, e2, e3, e4⟩
    · exact .inl e1
    · rcases eb with ⟨f1, _⟩ | ⟨f1, f2, f3, f4⟩ | ⟨f1, _⟩
      · omega
      · refine .inr (.inl ⟨e1, ?_⟩)
        rw [← hc, e2, f2, ← kRaw_append, ← kRaw_append]
        exact (key_last [kText x.c] (by omega) (by omega) (by omega) (by omega)).2
      · omega
    · rcases eb with ⟨f1, _⟩ | ⟨f1, _⟩ | ⟨f1, f2, f3, f4⟩
      · omega
      · omega
      · refine .inr (.inr ⟨e1, ?_⟩)
        rw [← hc, e2, f2, ← kRaw_append, ← kRaw_append]
        exact (key_last [kText x.c] (by omega) (by omega) (by omega) (by omega)).2
set_option maxRecDepth 100000 in
set_option maxHeartbeats 8000000 in
theorem recordsOrder_main (x y : Rw) (w : World) (hm : MaxL w) (hx1 : -9223372036854775808 ≤ x.k) (hx2 : x.k ≤ 9223372036854775807) (hf : rcFew x = true) (hf2 : rcFew y = true) (h1 : rcOk x = true) (h2 : rcOk y = true) (hk : x.k = y.k) (hp : rcPlaced x.k = false) : Calls Tryz.prog 3 #[rwV x, rwV y] w (TruePost w true) := by
  have HM := Lib.hid hm
  have C1 := Lib.hid (fun w => rcFew_any x w)
  have C2 := Lib.hid (fun w => rcFew_any y w)
  have C3 := Lib.hid (fun w => rrRight_any x w (small_few hf))
  have C4 := Lib.hid (fun w => rrRight_any y w (small_few hf2))
  have C5 := Lib.hid (fun w => rrPlaced_any w x.k)
  have C6 := Lib.hid (fun w h => rcKey_any x 0 w (small_few hf) h hx1 hx2)
  have C7 := Lib.hid (fun w h => rcKey_any y 0 w (small_few hf2) h (by rw [← hk]; exact hx1) (by rw [← hk]; exact hx2))
  have C8 := Lib.hid (fun w h => rcBegin_any ⟨1, x.c, 0, 0, [], [], 0, false, 0⟩ w (small_of _ (small_few hf).c (by simp) (by simp)) h (by simp) (by simp))
  rw [hf] at C1
  rw [hf2] at C2
  rw [h1] at C3
  rw [h2] at C4
  rw [hp] at C5
  obtain ⟨X, Y, S, sm, K⟩ := ordK h1 h2 hp (by rw [← hk]; exact hp)
  rw [K.x0.1, K.x0.2] at C6
  rw [K.y0.1, K.y0.2] at C7
  rw [K.s0.1, K.s0.2] at C8
  have HE := Lib.hid (fun h => K.eq h hk)
  have HL := Lib.hid K.lt
  have HY := Lib.hid K.ly
  have g1 := K.sx.1
  have g2 := K.sx.2
  have g3 := K.sy
  have g4 := K.sd
  clear K hm hf hf2 h1 h2 hp hx1 hx2
  obtain ⟨k, c, seq, id, t, b, q, r, s⟩ := x
  obtain ⟨k', c', seq', id', t', b', q', r', s'⟩ := y
  simp only at hk HE HL C5 C8 g4
  subst hk
  have q1 : (⟨X.toArray⟩ : ByteArray).extract 0 S.length = ⟨S.toArray⟩ := by rw [str_cut, List.drop_zero, Nat.sub_zero, g2]
  have q2 : (⟨Y.toArray⟩ : ByteArray).extract 0 S.length = ⟨(Y.take S.length).toArray⟩ := by rw [str_cut, List.drop_zero, Nat.sub_zero]
  have q3 : (c == c') = sm := g4.symm
  obtain ⟨k', hk'⟩ : ∃ k', k' = k := ⟨_, rfl⟩
  rw [← hk'] at C2 C4 C7
  rw [show (rwV ⟨k, c', seq', id', t', b', q', r', s'⟩) = rwV ⟨k', c', seq', id', t', b', q', r', s'⟩ by rw [hk']]
  have hkk : (k != k') = false := by rw [hk']; simp
  clear hk'
  obtain ⟨W1, hW1⟩ : ∃ W1, (w.alloc (.cells #[.int .i64 k, .string ⟨c.toArray⟩, .int .i64 seq, .int .i64 id, .string ⟨t.toArray⟩, .string ⟨b.toArray⟩, .int .i64 q, .bool r, .int .i64 s] 25)).alloc (.cells #[.int .i64 k', .string ⟨c'.toArray⟩, .int .i64 seq', .int .i64 id', .string ⟨t'.toArray⟩, .string ⟨b'.toArray⟩, .int .i64 q', .bool r', .int .i64 s'] 25) = W1 := ⟨_, rfl⟩
  have k1 : Keeps w W1 [] := by rw [← hW1]; exact (Keeps.alloc _ _).then_alloc _
  have r1 : Row W1 w.heap.size 25 #[.int .i64 k, .string ⟨c.toArray⟩, .int .i64 seq, .int .i64 id, .string ⟨t.toArray⟩, .string ⟨b.toArray⟩, .int .i64 q, .bool r, .int .i64 s] := by rw [← hW1]; exact (Row.new _ _ _).alloc _
  have r2 : Row W1 (w.heap.size + 1) 25 #[.int .i64 k', .string ⟨c'.toArray⟩, .int .i64 seq', .int .i64 id', .string ⟨t'.toArray⟩, .string ⟨b'.toArray⟩, .int .i64 q', .bool r', .int .i64 s'] := by
    rw [← hW1]
    have := Row.new (w.alloc (.cells #[.int .i64 k, .string ⟨c.toArray⟩, .int .i64 seq, .int .i64 id, .string ⟨t.toArray⟩, .string ⟨b.toArray⟩, .int .i64 q, .bool r, .int .i64 s] 25)) 25 #[.int .i64 k', .string ⟨c'.toArray⟩, .int .i64 seq', .int .i64 id', .string ⟨t'.toArray⟩, .string ⟨b'.toArray⟩, .int .i64 q', .bool r', .int .i64 s']
    rwa [World.size_alloc] at this
  have HR := Lib.hid (And.intro k1 (And.intro r1 r2))
  clear k1 r1 r2
  have r1 := HR.out.2.1
  have r2 := HR.out.2.2
  have x0 := r1.cell 0
  have x1 := r1.cell 1
  have x2 := r1.cell 2
  have x3 := r1.cell 3
  have x4 := r1.cell 4
  have x5 := r1.cell 5
  have x6 := r1.cell 6
  have x7 := r1.cell 7
  have x8 := r1.cell 8
  simp only [List.getElem?_toArray, List.getElem?_cons_zero, List.getElem?_cons_succ] at x0 x1 x2 x3 x4 x5 x6 x7 x8
  have y0 := r2.cell 0
  have y1 := r2.cell 1
  have y2 := r2.cell 2
  have y3 := r2.cell 3
  have y4 := r2.cell 4
  have y5 := r2.cell 5
  have y6 := r2.cell 6
  have y7 := r2.cell 7
  have y8 := r2.cell 8
  simp only [List.getElem?_toArray, List.getElem?_cons_zero, List.getElem?_cons_succ] at y0 y1 y2 y3 y4 y5 y6 y7 y8
  clear r1 r2
  go_enter Tryz.func3, Tryz.ntmps3
  go_wp2_with fail
  clear hW1
  refine (C1.out _).mono ?_
  rintro e w9 ⟨rfl, hk⟩
  replace HR := Lib.hid (And.intro (HR.out.1.then_ hk) (And.intro (HR.out.2.1.keeps hk) (HR.out.2.2.keeps hk)))
  clear hk
  clear x0 x1 x2 x3 x4 x5 x6 x7 x8 y0 y1 y2 y3 y4 y5 y6 y7 y8
  have r1 := HR.out.2.1
  have r2 := HR.out.2.2
  have x0 := r1.cell 0
  have x1 := r1.cell 1
  have x2 := r1.cell 2
  have x3 := r1.cell 3
  have x4 := r1.cell 4
  have x5 := r1.cell 5
  have x6 := r1.cell 6
  have x7 := r1.cell 7
  have x8 := r1.cell 8
  simp only [List.getElem?_toArray, List.getElem?_cons_zero, List.getElem?_cons_succ] at x0 x1 x2 x3 x4 x5 x6 x7 x8
  have y0 := r2.cell 0
  have y1 := r2.cell 1
  have y2 := r2.cell 2
  have y3 := r2.cell 3
  have y4 := r2.cell 4
  have y5 := r2.cell 5
  have y6 := r2.cell 6
  have y7 := r2.cell 7
  have y8 := r2.cell 8
  simp only [List.getElem?_toArray, List.getElem?_cons_zero, List.getElem?_cons_succ] at y0 y1 y2 y3 y4 y5 y6 y7 y8
  clear r1 r2
  go_wp2_with fail
  refine (C2.out _).mono ?_
  rintro e w9 ⟨rfl, hk⟩
  replace HR := Lib.hid (And.intro (HR.out.1.then_ hk) (And.intro (HR.out.2.1.keeps hk) (HR.out.2.2.keeps hk)))
  clear hk
  clear x0 x1 x2 x3 x4 x5 x6 x7 x8 y0 y1 y2 y3 y4 y5 y6 y7 y8
  have r1 := HR.out.2.1
  have r2 := HR.out.2.2
  have x0 := r1.cell 0
  have x1 := r1.cell 1
  have x2 := r1.cell 2
  have x3 := r1.cell 3
  have x4 := r1.cell 4
  have x5 := r1.cell 5
  have x6 := r1.cell 6
  have x7 := r1.cell 7
  have x8 := r1.cell 8
  simp only [List.getElem?_toArray, List.getElem?_cons_zero, List.getElem?_cons_succ] at x0 x1 x2 x3 x4 x5 x6 x7 x8
  have y0 := r2.cell 0
  have y1 := r2.cell 1
  have y2 := r2.cell 2
  have y3 := r2.cell 3
  have y4 := r2.cell 4
  have y5 := r2.cell 5
  have y6 := r2.cell 6
  have y7 := r2.cell 7
  have y8 := r2.cell 8
  simp only [List.getElem?_toArray, List.getElem?_cons_zero, List.getElem?_cons_succ] at y0 y1 y2 y3 y4 y5 y6 y7 y8
  clear r1 r2
  go_wp2_with fail
  refine (C3.out _).mono ?_
  rintro e w9 ⟨rfl, hk⟩
  replace HR := Lib.hid (And.intro (HR.out.1.then_ hk) (And.intro (HR.out.2.1.keeps hk) (HR.out.2.2.keeps hk)))
  clear hk
  clear x0 x1 x2 x3 x4 x5 x6 x7 x8 y0 y1 y2 y3 y4 y5 y6 y7 y8
  have r1 := HR.out.2.1
  have r2 := HR.out.2.2
  have x0 := r1.cell 0
  have x1 := r1.cell 1
  have x2 := r1.cell 2
  have x3 := r1.cell 3
  have x4 := r1.cell 4
  have x5 := r1.cell 5
  have x6 := r1.cell 6
  have x7 := r1.cell 7
  have x8 := r1.cell 8
  simp only [List.getElem?_toArray, List.getElem?_cons_zero, List.getElem?_cons_succ] at x0 x1 x2 x3 x4 x5 x6 x7 x8
  have y0 := r2.cell 0
  have y1 := r2.cell 1
  have y2 := r2.cell 2
  have y3 := r2.cell 3
  have y4 := r2.cell 4
  have y5 := r2.cell 5
  have y6 := r2.cell 6
  have y7 := r2.cell 7
  have y8 := r2.cell 8
  simp only [List.getElem?_toArray, List.getElem?_cons_zero, List.getElem?_cons_succ] at y0 y1 y2 y3 y4 y5 y6 y7 y8
  clear r1 r2
  go_wp2_with fail
  refine (C4.out _).mono ?_
  rintro e w9 ⟨rfl, hk⟩
  replace HR := Lib.hid (And.intro (HR.out.1.then_ hk) (And.intro (HR.out.2.1.keeps hk) (HR.out.2.2.keeps hk)))
  clear hk
  clear x0 x1 x2 x3 x4 x5 x6 x7 x8 y0 y1 y2 y3 y4 y5 y6 y7 y8
  have r1 := HR.out.2.1
  have r2 := HR.out.2.2
  have x0 := r1.cell 0
  have x1 := r1.cell 1
  have x2 := r1.cell 2
  have x3 := r1.cell 3
  have x4 := r1.cell 4
  have x5 := r1.cell 5
  have x6 := r1.cell 6
  have x7 := r1.cell 7
  have x8 := r1.cell 8
  simp only [List.getElem?_toArray, List.getElem?_cons_zero, List.getElem?_cons_succ] at x0 x1 x2 x3 x4 x5 x6 x7 x8
  have y0 := r2.cell 0
  have y1 := r2.cell 1
  have y2 := r2.cell 2
  have y3 := r2.cell 3
  have y4 := r2.cell 4
  have y5 := r2.cell 5
  have y6 := r2.cell 6
  have y7 := r2.cell 7
  have y8 := r2.cell 8
  simp only [List.getElem?_toArray, List.getElem?_cons_zero, List.getElem?_cons_succ] at y0 y1 y2 y3 y4 y5 y6 y7 y8
  clear r1 r2
  go_wp2_with fail
  refine (C5.out _).mono ?_
  rintro e w9 ⟨rfl, rfl⟩
  go_wp2_with fail
  refine (C6.out _ (HM.out.keeps HR.out.1)).mono ?_
  rintro e w9 ⟨rfl, hk⟩
  replace HR := Lib.hid (And.intro (HR.out.1.then_ hk) (And.intro (HR.out.2.1.keeps hk) (HR.out.2.2.keeps hk)))
  clear hk
  clear x0 x1 x2 x3 x4 x5 x6 x7 x8 y0 y1 y2 y3 y4 y5 y6 y7 y8
  unfold strV
  have r1 := HR.out.2.1
  have r2 := HR.out.2.2
  have x0 := r1.cell 0
  have x1 := r1.cell 1
  have x2 := r1.cell 2
  have x3 := r1.cell 3
  have x4 := r1.cell 4
  have x5 := r1.cell 5
  have x6 := r1.cell 6
  have x7 := r1.cell 7
  have x8 := r1.cell 8
  simp only [List.getElem?_toArray, List.getElem?_cons_zero, List.getElem?_cons_succ] at x0 x1 x2 x3 x4 x5 x6 x7 x8
  have y0 := r2.cell 0
  have y1 := r2.cell 1
  have y2 := r2.cell 2
  have y3 := r2.cell 3
  have y4 := r2.cell 4
  have y5 := r2.cell 5
  have y6 := r2.cell 6
  have y7 := r2.cell 7
  have y8 := r2.cell 8
  simp only [List.getElem?_toArray, List.getElem?_cons_zero, List.getElem?_cons_succ] at y0 y1 y2 y3 y4 y5 y6 y7 y8
  clear r1 r2
  go_wp2_with fail
  refine (C7.out _ (HM.out.keeps HR.out.1)).mono ?_
  rintro e w9 ⟨rfl, hk⟩
  replace HR := Lib.hid (And.intro (HR.out.1.then_ hk) (And.intro (HR.out.2.1.keeps hk) (HR.out.2.2.keeps hk)))
  clear hk
  clear x0 x1 x2 x3 x4 x5 x6 x7 x8 y0 y1 y2 y3 y4 y5 y6 y7 y8
  unfold strV
  have r1 := HR.out.2.1
  have r2 := HR.out.2.2
  have x0 := r1.cell 0
  have x1 := r1.cell 1
  have x2 := r1.cell 2
  have x3 := r1.cell 3
  have x4 := r1.cell 4
  have x5 := r1.cell 5
  have x6 := r1.cell 6
  have x7 := r1.cell 7
  have x8 := r1.cell 8
  simp only [List.getElem?_toArray, List.getElem?_cons_zero, List.getElem?_cons_succ] at x0 x1 x2 x3 x4 x5 x6 x7 x8
  have y0 := r2.cell 0
  have y1 := r2.cell 1
  have y2 := r2.cell 2
  have y3 := r2.cell 3
  have y4 := r2.cell 4
  have y5 := r2.cell 5
  have y6 := r2.cell 6
  have y7 := r2.cell 7
  have y8 := r2.cell 8
  simp only [List.getElem?_toArray, List.getElem?_cons_zero, List.getElem?_cons_succ] at y0 y1 y2 y3 y4 y5 y6 y7 y8
  clear r1 r2
  go_wp2_with fail
  refine (C8.out _ (HM.out.keeps HR.out.1)).mono ?_
  rintro e w9 ⟨rfl, hk⟩
  replace HR := Lib.hid (And.intro (HR.out.1.then_ hk) (And.intro (HR.out.2.1.keeps hk) (HR.out.2.2.keeps hk)))
  clear hk
  clear x0 x1 x2 x3 x4 x5 x6 x7 x8 y0 y1 y2 y3 y4 y5 y6 y7 y8
  unfold strV
  have r1 := HR.out.2.1
  have r2 := HR.out.2.2
  have x0 := r1.cell 0
  have x1 := r1.cell 1
  have x2 := r1.cell 2
  have x3 := r1.cell 3
  have x4 := r1.cell 4
  have x5 := r1.cell 5
  have x6 := r1.cell 6
  have x7 := r1.cell 7
  have x8 := r1.cell 8
  simp only [List.getElem?_toArray, List.getElem?_cons_zero, List.getElem?_cons_succ] at x0 x1 x2 x3 x4 x5 x6 x7 x8
  have y0 := r2.cell 0
  have y1 := r2.cell 1
  have y2 := r2.cell 2
  have y3 := r2.cell 3
  have y4 := r2.cell 4
  have y5 := r2.cell 5
  have y6 := r2.cell 6
  have y7 := r2.cell 7
  have y8 := r2.cell 8
  simp only [List.getElem?_toArray, List.getElem?_cons_zero, List.getElem?_cons_succ] at y0 y1 y2 y3 y4 y5 y6 y7 y8
  clear r1 r2
  clear C1 C2 C3 C4 C5 C6 C7 C8
  go_upto_region 8 with fail
  go_cut [11] (fun v wx => v = .bool sm ∧ wx = w9)
  case first =>
    by_cases hl : Y.length < S.length
    · have e1 : decide ((Y.length : Int) ≥ S.length) = false := decide_eq_false (by omega)
      have e5 : decide ((S.length : Int) ≤ Y.length) = false := decide_eq_false (by omega)
      have e6 : ¬ S.length ≤ Y.length := by omega
      have HS := Lib.hid (HY.out hl)
      go_wp2_with fail
      go_meet
      case rel => exact ⟨by rw [HS.out], rfl⟩
    · have e1 : decide ((Y.length : Int) ≥ S.length) = true := decide_eq_true (by omega)
      have e2 : (S.length : Int) ≤ Y.length := by omega
      clear q1 q3 g1 g2 g4 hl
      obtain ⟨Z, hZ⟩ : ∃ Z, Y.take S.length = Z := ⟨_, rfl⟩
      rw [hZ] at q2 g3
      clear hZ
      cases sm with
      | false =>
        have e7 : ¬ Z = S := by simpa using g3
        go_wp2_with fail
        go_meet
        case rel => exact ⟨rfl, rfl⟩
      | true =>
        obtain rfl : Z = S := by simpa using g3
        clear g3
        go_wp2_with fail
        go_meet
        case rel => exact ⟨rfl, rfl⟩
  case rest =>
    obtain ⟨rfl, rfl⟩ := hcut
    obtain ⟨wd, rfl⟩ : ∃ x, x = wc := ⟨_, rfl⟩
    have e3 : decide ((X.length : Int) < S.length) = false := decide_eq_false (by omega)
    have e4 : (S.length : Int) ≤ X.length := by omega
    clear q2 g2 g3
    cases sm with
    | false =>
      have hd := HL.out (by first | rfl | trivial)
      obtain ⟨d, hd2⟩ : ∃ d, Op.bytesLess c c' = d := ⟨_, rfl⟩
      rw [hd2] at hd
      clear g4
      go_wp2_with fail
      clear x0 x1 x2 x3 x4 x5 x6 x7 x8 y0 y1 y2 y3 y4 y5 y6 y7 y8
      refine (known19_any _ (HM.out.keeps HR.out.1)).mono ?_
      rintro e w9 ⟨rfl, hk⟩
      have HK := Lib.hid (HR.out.1.then_ hk)
      clear hk
      go_wp2_with fail
      go_ret
      exact ⟨rfl, HK.out⟩
    | true =>
      clear g4
      have HE2 := Lib.hid (HE.out (by first | rfl | trivial))
      clear HE
      go_upto_region 13 with fail
      have M1 := fun (W' : World) (hW : Keeps wd W' []) => (HR.out.2.1.keeps hW).cell 2
      have M2 := fun (W' : World) (hW : Keeps wd W' []) => (HR.out.2.2.keeps hW).cell 2
      simp only [List.getElem?_toArray, List.getElem?_cons_zero, List.getElem?_cons_succ] at M1 M2
      refine wp_region_keeps _ (by kernel_rfl) rfl (by kernel_rfl) ?_
      apply loose_is
      · intro W vals hW hkn
        clear hkn
        refine ⟨?_⟩
        simp only [fill]
        go_simp
        first | exact ⟨Keeps.refl _ _, rfl⟩ | exact ⟨Keeps.alloc _ _, rfl⟩
      simp only [addEnt]
      apply loose_is
      · intro W vals hW hkn
        simp only [knows] at hkn
        try simp only [and_true] at hkn
        clear hkn; have m1 := M1 W hW
        refine ⟨?_⟩
        simp only [fill]
        go_simp
        first | exact ⟨Keeps.refl _ _, rfl⟩ | exact ⟨Keeps.alloc _ _, rfl⟩
      simp only [addEnt]
      apply loose_is
      · intro W vals hW hkn
        clear hkn
        refine ⟨?_⟩
        simp only [fill]
        go_simp
        first | exact ⟨Keeps.refl _ _, rfl⟩ | exact ⟨Keeps.alloc _ _, rfl⟩
      simp only [addEnt]
      apply loose_is
      · intro W vals hW hkn
        simp only [knows] at hkn
        try simp only [and_true] at hkn
        clear hkn; have m1 := M2 W hW
        refine ⟨?_⟩
        simp only [fill]
        go_simp
        first | exact ⟨Keeps.refl _ _, rfl⟩ | exact ⟨Keeps.alloc _ _, rfl⟩
      simp only [addEnt]
      apply loose_is
      · intro W vals hW hkn
        clear hkn
        refine ⟨?_⟩
        simp only [fill]
        go_simp
        first | exact ⟨Keeps.refl _ _, rfl⟩ | exact ⟨Keeps.alloc _ _, rfl⟩
      simp only [addEnt]
      apply loose_is
      · intro W vals hW hkn
        clear hkn
        refine ⟨?_⟩
        simp only [fill]
        go_simp
        first | exact ⟨Keeps.refl _ _, rfl⟩ | exact ⟨Keeps.alloc _ _, rfl⟩
      simp only [addEnt]
      refine loose_nil (fun W vals hW hkn => ?_)
      simp only [knowsAll] at hkn
      try simp only [and_true] at hkn
      simp only [fill, Act.put, List.setIfInBounds_toArray, List.set_cons_succ, List.set_cons_zero]
      clear hkn M1 M2
      replace HR := Lib.hid (And.intro (HR.out.1.then_ hW) (And.intro (HR.out.2.1.keeps hW) (HR.out.2.2.keeps hW)))
      clear hW
      clear x0 x1 x2 x3 x4 x5 x6 x7 x8 y0 y1 y2 y3 y4 y5 y6 y7 y8
      have r1 := HR.out.2.1
      have r2 := HR.out.2.2
      have x0 := r1.cell 0
      have x1 := r1.cell 1
      have x2 := r1.cell 2
      have x3 := r1.cell 3
      have x4 := r1.cell 4
      have x5 := r1.cell 5
      have x6 := r1.cell 6
      have x7 := r1.cell 7
      have x8 := r1.cell 8
      simp only [List.getElem?_toArray, List.getElem?_cons_zero, List.getElem?_cons_succ] at x0 x1 x2 x3 x4 x5 x6 x7 x8
      have y0 := r2.cell 0
      have y1 := r2.cell 1
      have y2 := r2.cell 2
      have y3 := r2.cell 3
      have y4 := r2.cell 4
      have y5 := r2.cell 5
      have y6 := r2.cell 6
      have y7 := r2.cell 7
      have y8 := r2.cell 8
      simp only [List.getElem?_toArray, List.getElem?_cons_zero, List.getElem?_cons_succ] at y0 y1 y2 y3 y4 y5 y6 y7 y8
      clear r1 r2
      rcases HE2.out with hk1 | ⟨hk3, hd⟩ | ⟨hk4, hd⟩
      · subst hk1
        go_wp2_with fail
        clear x0 x1 x2 x3 x4 x5 x6 x7 x8 y0 y1 y2 y3 y4 y5 y6 y7 y8
        refine (known19_any _ (HM.out.keeps HR.out.1)).mono ?_
        rintro e w9 ⟨rfl, hk⟩
        have HK := Lib.hid (HR.out.1.then_ hk)
        clear hk
        go_wp2_with fail
        go_ret
        exact ⟨rfl, HK.out⟩
      · subst hk3
        have HD := Lib.hid hd
        obtain ⟨d, hd2⟩ : ∃ d, decide (seq < seq') = d := ⟨_, rfl⟩
        rw [hd2] at hd
        go_wp2_with fail
        clear x0 x1 x2 x3 x4 x5 x6 x7 x8 y0 y1 y2 y3 y4 y5 y6 y7 y8
        refine (known19_any _ (HM.out.keeps HR.out.1)).mono ?_
        rintro e w9 ⟨rfl, hk⟩
        have HK := Lib.hid (HR.out.1.then_ hk)
        clear hk
        go_wp2_with fail
        go_ret
        exact ⟨rfl, HK.out⟩
      · subst hk4
        obtain ⟨d, hd2⟩ : ∃ d, decide (id < id') = d := ⟨_, rfl⟩
        rw [hd2] at hd
        go_upto_region 15 with fail
        have M1 := fun (W' : World) (hW : Keeps W W' []) => (HR.out.2.1.keeps hW).cell 3
        have M2 := fun (W' : World) (hW : Keeps W W' []) => (HR.out.2.2.keeps hW).cell 3
        simp only [List.getElem?_toArray, List.getElem?_cons_zero, List.getElem?_cons_succ] at M1 M2
        obtain ⟨wz, rfl⟩ : ∃ x, x = W := ⟨_, rfl⟩
        refine wp_region_keeps _ (by kernel_rfl) rfl (by kernel_rfl) ?_
        apply loose_is
        · intro W vals hW hkn
          clear hkn
          refine ⟨?_⟩
          simp only [fill]
          go_simp
          first | exact ⟨Keeps.refl _ _, rfl⟩ | exact ⟨Keeps.alloc _ _, rfl⟩
        simp only [addEnt]
        apply loose_is
        · intro W vals hW hkn
          simp only [knows] at hkn
          try simp only [and_true] at hkn
          clear hkn; have m1 := M1 W hW
          refine ⟨?_⟩
          simp only [fill]
          go_simp
          first | exact ⟨Keeps.refl _ _, rfl⟩ | exact ⟨Keeps.alloc _ _, rfl⟩
        simp only [addEnt]
        apply loose_is
        · intro W vals hW hkn
          clear hkn
          refine ⟨?_⟩
          simp only [fill]
          go_simp
          first | exact ⟨Keeps.refl _ _, rfl⟩ | exact ⟨Keeps.alloc _ _, rfl⟩
        simp only [addEnt]
        apply loose_is
        · intro W vals hW hkn
          simp only [knows] at hkn
          try simp only [and_true] at hkn
          clear hkn; have m1 := M2 W hW
          refine ⟨?_⟩
          simp only [fill]
          go_simp
          first | exact ⟨Keeps.refl _ _, rfl⟩ | exact ⟨Keeps.alloc _ _, rfl⟩
        simp only [addEnt]
        apply loose_is
        · intro W vals hW hkn
          clear hkn
          refine ⟨?_⟩
          simp only [fill]
          go_simp
          first | exact ⟨Keeps.refl _ _, rfl⟩ | exact ⟨Keeps.alloc _ _, rfl⟩
        simp only [addEnt]
        apply loose_is
        · intro W vals hW hkn
          clear hkn
          refine ⟨?_⟩
          simp only [fill]
          go_simp
          first | exact ⟨Keeps.refl _ _, rfl⟩ | exact ⟨Keeps.alloc _ _, rfl⟩
        simp only [addEnt]
        refine loose_nil (fun W vals hW hkn => ?_)
        simp only [knowsAll] at hkn
        try simp only [and_true] at hkn
        simp only [fill, Act.put, List.setIfInBounds_toArray, List.set_cons_succ, List.set_cons_zero]
        clear hkn M1 M2
        replace HR := Lib.hid (And.intro (HR.out.1.then_ hW) (And.intro (HR.out.2.1.keeps hW) (HR.out.2.2.keeps hW)))
        clear hW
        clear x0 x1 x2 x3 x4 x5 x6 x7 x8 y0 y1 y2 y3 y4 y5 y6 y7 y8
        have r1 := HR.out.2.1
        have r2 := HR.out.2.2
        have x0 := r1.cell 0
        have x1 := r1.cell 1
        have x2 := r1.cell 2
        have x3 := r1.cell 3
        have x4 := r1.cell 4
        have x5 := r1.cell 5
        have x6 := r1.cell 6
        have x7 := r1.cell 7
        have x8 := r1.cell 8
        simp only [List.getElem?_toArray, List.getElem?_cons_zero, List.getElem?_cons_succ] at x0 x1 x2 x3 x4 x5 x6 x7 x8
        have y0 := r2.cell 0
        have y1 := r2.cell 1
        have y2 := r2.cell 2
        have y3 := r2.cell 3
        have y4 := r2.cell 4
        have y5 := r2.cell 5
        have y6 := r2.cell 6
        have y7 := r2.cell 7
        have y8 := r2.cell 8
        simp only [List.getElem?_toArray, List.getElem?_cons_zero, List.getElem?_cons_succ] at y0 y1 y2 y3 y4 y5 y6 y7 y8
        clear r1 r2
        go_wp2_with fail
        clear x0 x1 x2 x3 x4 x5 x6 x7 x8 y0 y1 y2 y3 y4 y5 y6 y7 y8
        refine (known19_any _ (HM.out.keeps HR.out.1)).mono ?_
        rintro e w9 ⟨rfl, hk⟩
        have HK := Lib.hid (HR.out.1.then_ hk)
        clear hk
        go_wp2_with fail
        go_ret
        exact ⟨rfl, HK.out⟩
set_option maxHeartbeats 1000000 in
theorem recordsOrder_any (x y : Rw) (w : World) (hm : MaxL w) (hx1 : -9223372036854775808 ≤ x.k) (hx2 : x.k ≤ 9223372036854775807) : Calls Tryz.prog 3 #[rwV x, rwV y] w (TruePost w true) := by
  by_cases h1 : rcFew x = false ∨ rcFew y = false
  · exact recordsOrder_few x y w hm h1
  · have f1 : rcFew x = true := by
      cases h : rcFew x with
      | true => rfl
      | false => exact absurd (.inl h) h1
    have f2 : rcFew y = true := by
      cases h : rcFew y with
      | true => rfl
      | false => exact absurd (.inr h) h1
    by_cases h2 : rcOk x = false ∨ rcOk y = false ∨ x.k ≠ y.k ∨ rcPlaced x.k = true
    · exact recordsOrder_right x y w hm f1 f2 h2
    · have o1 : rcOk x = true := by
        cases h : rcOk x with
        | true => rfl
        | false => exact absurd (.inl h) h2
      have o2 : rcOk y = true := by
        cases h : rcOk y with
        | true => rfl
        | false => exact absurd (.inr (.inl h)) h2
      have o3 : x.k = y.k := by
        by_cases h : x.k = y.k
        · exact h
        · exact absurd (.inr (.inr (.inl h))) h2
      have o4 : rcPlaced x.k = false := by
        cases h : rcPlaced x.k with
        | false => rfl
        | true => exact absurd (.inr (.inr (.inr h))) h2
      exact recordsOrder_main x y w hm hx1 hx2 f1 f2 o1 o2 o3 o4
end Go.Proofs.YtfglgeoookbppaaGreatDoor
