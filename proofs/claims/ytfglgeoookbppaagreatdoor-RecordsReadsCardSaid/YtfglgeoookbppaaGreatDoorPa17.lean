/- Package records: which messages may be. -/
import Derived.Test.YtfglgeoookbppaaGreatDoorPa11

namespace Go.Proofs.YtfglgeoookbppaaGreatDoor
open Go.RowKit Go.Shelf

set_option maxRecDepth 100000 in
set_option maxHeartbeats 2000000 in
theorem rcMay3_any (x : Rw) (w : World) (hx : x.Small) : Calls Tryz.prog 68 #[rwV x] w (TruePost w (rcMay 3 x)) := by
 have hc := hx.c
 have ht := hx.t
 have hb := hx.b
 have HT := Lib.hid (show rcMay 3 x = (rcClient x.c && (inN x.seq 0 4611686018427387904 && (tName x.t && (decide (x.b.length ≤ 2000) && (inN x.q 1 2 && rcStage x))))) from rfl)
 have HS := Lib.hid (show rcStage x = ((decide (x.s = 1) && decide (x.id = 0)) || (inN x.id 1 65535 && (decide (x.s = 2) || (decide (x.s = 3) && decide (x.q = 2))))) from rfl)
 obtain ⟨st, hst⟩ : ∃ st, rcStage x = st := ⟨_, rfl⟩
 rw [hst] at HT HS
 clear hx hst
 obtain ⟨k, c, seq, id, t, b, q, r, s⟩ := x
 simp only at hc ht hb HT HS ⊢
 have dd : ∀ a b : Int, decide (a = b) = (a == b) := fun a b => by rw [Bool.eq_iff_iff]; simp
 rw [dd, dd, dd, dd, dd] at HS
 obtain ⟨a1, e1⟩ : ∃ a1, (s == 1) = a1 := ⟨_, rfl⟩
 obtain ⟨a2, e2⟩ : ∃ a2, (id == 0) = a2 := ⟨_, rfl⟩
 obtain ⟨a3, h3⟩ : ∃ a3, inN id 1 65535 = a3 := ⟨_, rfl⟩
 obtain ⟨a4, e4⟩ : ∃ a4, (s == 2) = a4 := ⟨_, rfl⟩
 obtain ⟨a5, e5⟩ : ∃ a5, (s == 3) = a5 := ⟨_, rfl⟩
 obtain ⟨a6, e6⟩ : ∃ a6, (q == 2) = a6 := ⟨_, rfl⟩
 rw [e1, e2, h3, e4, e5, e6] at HS
 have HST := HS
 clear HS
 obtain ⟨b1, h1⟩ : ∃ b1, rcClient c = b1 := ⟨_, rfl⟩
 obtain ⟨b2, h2⟩ : ∃ b2, inN seq 0 4611686018427387904 = b2 := ⟨_, rfl⟩
 obtain ⟨b3, h4⟩ : ∃ b3, tName t = b3 := ⟨_, rfl⟩
 obtain ⟨b5, h5⟩ : ∃ b5, decide (b.length ≤ 2000) = b5 := ⟨_, rfl⟩
 obtain ⟨b6, h6⟩ : ∃ b6, inN q 1 2 = b6 := ⟨_, rfl⟩
 rw [h1, h2, h4, h5, h6] at HT
 have C1 := Lib.hid (fun w => rcClient_any w c (by omega))
 have C2 := Lib.hid (fun w => tName_any w t (by omega))
 have h5' : decide ((b.length : Int) ≤ 2000) = b5 := by rw [← h5, Bool.eq_iff_iff]; simp; omega
 rw [h1] at C1
 rw [h4] at C2
 clear h1 h4 dd
 obtain ⟨W0, hW0⟩ : ∃ W0, w.alloc (.cells #[.int .i64 k, .string ⟨c.toArray⟩, .int .i64 seq, .int .i64 id, .string ⟨t.toArray⟩, .string ⟨b.toArray⟩, .int .i64 q, .bool r, .int .i64 s] 25) = W0 := ⟨_, rfl⟩
 have k0 : Keeps w W0 [] := by rw [← hW0]; exact Keeps.alloc _ _
 have r0 : Row W0 w.heap.size 25 #[.int .i64 k, .string ⟨c.toArray⟩, .int .i64 seq, .int .i64 id, .string ⟨t.toArray⟩, .string ⟨b.toArray⟩, .int .i64 q, .bool r, .int .i64 s] := by rw [← hW0]; exact Row.new _ _ _
 have HR := Lib.hid (And.intro k0 r0)
 have x0 := r0.cell 0
 have x1 := r0.cell 1
 have x2 := r0.cell 2
 have x3 := r0.cell 3
 have x4 := r0.cell 4
 have x5 := r0.cell 5
 have x6 := r0.cell 6
 have x7 := r0.cell 7
 have x8 := r0.cell 8
 simp only [List.getElem?_toArray, List.getElem?_cons_zero, List.getElem?_cons_succ] at x0 x1 x2 x3 x4 x5 x6 x7 x8
 clear k0 r0
 go_enter Tryz.func68, Tryz.ntmps68
 go_upto_region 1 with fail
 go_cut [3] (fun v wx => v = .bool st ∧ wx = W0)
 case first =>
  cases a1 with
  | true =>
   cases a2 with
   | true =>
    go_wp2_with fail
    go_meet
    case rel => exact ⟨by rw [HST.out]; rfl, rfl⟩
   | false =>
    go_wp2_with fail
    refine (rcWithin_any _ _ _ _).mono ?_
    rintro e w9 ⟨rfl, rfl⟩
    rw [h3]
    cases a3 with
    | false =>
     go_wp2_with fail
     go_meet
     case rel => exact ⟨by rw [HST.out]; rfl, rfl⟩
    | true =>
     cases a4 with
     | true =>
      go_wp2_with fail
      go_meet
      case rel => exact ⟨by rw [HST.out]; rfl, rfl⟩
     | false =>
      cases a5 with
      | false =>
       go_wp2_with fail
       go_meet
       case rel => exact ⟨by rw [HST.out]; rfl, rfl⟩
      | true =>
       cases a6 with
       | false =>
        go_wp2_with fail
        go_meet
        case rel => exact ⟨by rw [HST.out]; rfl, rfl⟩
       | true =>
        go_wp2_with fail
        go_meet
        case rel => exact ⟨by rw [HST.out]; rfl, rfl⟩
  | false =>
   go_wp2_with fail
   refine (rcWithin_any _ _ _ _).mono ?_
   rintro e w9 ⟨rfl, rfl⟩
   rw [h3]
   cases a3 with
   | false =>
    go_wp2_with fail
    go_meet
    case rel => exact ⟨by rw [HST.out]; rfl, rfl⟩
   | true =>
    cases a4 with
    | true =>
     go_wp2_with fail
     go_meet
     case rel => exact ⟨by rw [HST.out]; rfl, rfl⟩
    | false =>
     cases a5 with
     | false =>
      go_wp2_with fail
      go_meet
      case rel => exact ⟨by rw [HST.out]; rfl, rfl⟩
     | true =>
      cases a6 with
      | false =>
       go_wp2_with fail
       go_meet
       case rel => exact ⟨by rw [HST.out]; rfl, rfl⟩
      | true =>
       go_wp2_with fail
       go_meet
       case rel => exact ⟨by rw [HST.out]; rfl, rfl⟩
 case rest =>
  obtain ⟨rfl, rfl⟩ := hcut
  clear HST e1 e2 h3 e4 e5 e6
  go_wp2_with fail
  refine (C1.out _).mono ?_
  rintro e w1 ⟨rfl, hk⟩
  have r1 := HR.out.2.keeps hk
  have HK := Lib.hid (HR.out.1.then_ hk)
  clear x0 x1 x2 x3 x4 x5 x6 x7 x8 hW0
  have y0 := r1.cell 0
  have y1 := r1.cell 1
  have y2 := r1.cell 2
  have y3 := r1.cell 3
  have y4 := r1.cell 4
  have y5 := r1.cell 5
  have y6 := r1.cell 6
  have y7 := r1.cell 7
  have y8 := r1.cell 8
  simp only [List.getElem?_toArray, List.getElem?_cons_zero, List.getElem?_cons_succ] at y0 y1 y2 y3 y4 y5 y6 y7 y8
  replace HR := Lib.hid (And.intro HK.out r1)
  clear hk r1
  cases b1 with
  | false =>
   go_wp2_with fail
   go_ret
   exact ⟨by rw [HT.out]; rfl, HK.out⟩
  | true =>
   go_wp2_with fail
   refine (rcWithin_any _ _ _ _).mono ?_
   rintro e w9 ⟨rfl, rfl⟩
   rw [h2]
   cases b2 with
   | false =>
    go_wp2_with fail
    go_ret
    exact ⟨by rw [HT.out]; rfl, HK.out⟩
   | true =>
    go_wp2_with fail
    refine (C2.out _).mono ?_
    rintro e w2 ⟨rfl, hk⟩
    have r2 := HR.out.2.keeps hk
    replace HK := Lib.hid (HK.out.then_ hk)
    clear y0 y1 y2 y3 y4 y5 y6 y7 y8 hk
    have z0 := r2.cell 0
    have z1 := r2.cell 1
    have z2 := r2.cell 2
    have z3 := r2.cell 3
    have z4 := r2.cell 4
    have z5 := r2.cell 5
    have z6 := r2.cell 6
    have z7 := r2.cell 7
    have z8 := r2.cell 8
    simp only [List.getElem?_toArray, List.getElem?_cons_zero, List.getElem?_cons_succ] at z0 z1 z2 z3 z4 z5 z6 z7 z8
    clear r2
    cases b3 with
    | false =>
     go_wp2_with fail
     go_ret
     exact ⟨by rw [HT.out]; rfl, HK.out⟩
    | true =>
     cases b5 with
     | false =>
      go_wp2_with fail
      go_ret
      exact ⟨by rw [HT.out]; rfl, HK.out⟩
     | true =>
      go_wp2_with fail
      refine (rcWithin_any _ _ _ _).mono ?_
      rintro e w9 ⟨rfl, rfl⟩
      rw [h6]
      cases b6 with
      | false =>
       go_wp2_with fail
       go_ret
       exact ⟨by rw [HT.out]; rfl, HK.out⟩
      | true =>
       go_wp2_with fail
       go_ret
       exact ⟨by rw [HT.out]; rfl, HK.out⟩
end Go.Proofs.YtfglgeoookbppaaGreatDoor
