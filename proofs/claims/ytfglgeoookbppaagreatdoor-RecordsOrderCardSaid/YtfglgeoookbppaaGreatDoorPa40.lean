/- Package records: which rows may be, by kind. Package records: which messages may be. Package records: what rows have, by kind. -/
import Derived.Test.YtfglgeoookbppaaGreatDoorPa39
import Derived.Test.YtfglgeoookbppaaGreatDoorPa38
import Derived.Deep.DeepCutAuto

namespace Go.Proofs.YtfglgeoookbppaaGreatDoor
open Go.RowKit Go.Shelf

abbrev rwCells (x : Rw) : List Value := [.int .i64 x.k, .string ⟨x.c.toArray⟩, .int .i64 x.seq, .int .i64 x.id, .string ⟨x.t.toArray⟩, .string ⟨x.b.toArray⟩, .int .i64 x.q, .bool x.r, .int .i64 x.s]
abbrev rwV (x : Rw) : Value := .agg #[.int .i64 x.k, .string ⟨x.c.toArray⟩, .int .i64 x.seq, .int .i64 x.id, .string ⟨x.t.toArray⟩, .string ⟨x.b.toArray⟩, .int .i64 x.q, .bool x.r, .int .i64 x.s]
/-- No text of a row is too long. -/
structure Rw.Small (x : Rw) : Prop where
  c : x.c.length ≤ 50000
  t : x.t.length ≤ 50000
  b : x.b.length ≤ 50000
theorem tFilterC_any (w : World) (s : List UInt8) (hs : s.length ≤ 50000) (hm : MaxL w) : Calls Tryz.prog 64 #[.string ⟨s.toArray⟩] w (TruePost w (tFilter s)) :=
  callsIn_wide.1 (tFilter_in 4 (by omega) w s hs hm)
set_option maxRecDepth 100000 in
set_option maxHeartbeats 1000000 in
theorem rcMay1_any (x : Rw) (w : World) (hx : x.Small) : Calls Tryz.prog 58 #[rwV x] w (TruePost w (rcMay 1 x)) := by
  have hc := hx.c
  have HT := Lib.hid (show rcMay 1 x = (rcClient x.c && (inN x.seq 0 4611686018427387904 && inN x.id 0 4611686018427387904)) from rfl)
  clear hx
  obtain ⟨k, c, seq, id, t, b, q, r, s⟩ := x
  simp only at hc HT ⊢
  obtain ⟨b1, h1⟩ : ∃ b1, rcClient c = b1 := ⟨_, rfl⟩
  obtain ⟨b2, h2⟩ : ∃ b2, inN seq 0 4611686018427387904 = b2 := ⟨_, rfl⟩
  obtain ⟨b3, h3⟩ : ∃ b3, inN id 0 4611686018427387904 = b3 := ⟨_, rfl⟩
  rw [h1, h2, h3] at HT
  have C1 := Lib.hid (fun w => rcClient_any w c (by omega))
  rw [h1] at C1
  clear h1
  obtain ⟨W0, hW0⟩ : ∃ W0, w.alloc (.cells #[.int .i64 k, .string ⟨c.toArray⟩, .int .i64 seq, .int .i64 id, .string ⟨t.toArray⟩, .string ⟨b.toArray⟩, .int .i64 q, .bool r, .int .i64 s] 25) = W0 := ⟨_, rfl⟩
  have k0 : Keeps w W0 [] := by rw [← hW0]; exact Keeps.alloc _ _
  have r0 : Row W0 w.heap.size 25 #[.int .i64 k, .string ⟨c.toArray⟩, .int .i64 seq, .int .i64 id, .string ⟨t.toArray⟩, .string ⟨b.toArray⟩, .int .i64 q, .bool r, .int .i64 s] := by rw [← hW0]; exact Row.new _ _ _
  have HR := Lib.hid (And.intro k0 r0)
  have x0 := r0.cell 0
  have x1 := r0.cell 1
  have x2 := r0.cell 2
  have x3 := r0.cell 3
  have x4 := r0.cell 4
  have x5 := r0.cell 5
  have x6 := r0.cell 6
  have x7 := r0.cell 7
  have x8 := r0.cell 8
  simp only [List.getElem?_toArray, List.getElem?_cons_zero, List.getElem?_cons_succ] at x0 x1 x2 x3 x4 x5 x6 x7 x8
  clear k0 r0
  go_enter Tryz.func58, Tryz.ntmps58
  go_wp2_with fail
  refine (C1.out _).mono ?_
  rintro e w1 ⟨rfl, hk⟩
  have r1 := HR.out.2.keeps hk
  have HK := Lib.hid (HR.out.1.then_ hk)
  clear x0 x1 x2 x3 x4 x5 x6 x7 x8 hW0
  have y0 := r1.cell 0
  have y1 := r1.cell 1
  have y2 := r1.cell 2
  have y3 := r1.cell 3
  have y4 := r1.cell 4
  have y5 := r1.cell 5
  have y6 := r1.cell 6
  have y7 := r1.cell 7
  have y8 := r1.cell 8
  simp only [List.getElem?_toArray, List.getElem?_cons_zero, List.getElem?_cons_succ] at y0 y1 y2 y3 y4 y5 y6 y7 y8
  replace HR := Lib.hid (And.intro HK.out r1)
  clear hk r1
  cases b1 with
  | false =>
    go_wp2_with fail
    go_ret
    exact ⟨by rw [HT.out]; rfl, HK.out⟩
  | true =>
    go_wp2_with fail
    refine (rcWithin_any _ _ _ _).mono ?_
    rintro e w9 ⟨rfl, rfl⟩
    rw [h2]
    cases b2 with
    | false =>
      go_wp2_with fail
      go_ret
      exact ⟨by rw [HT.out]; rfl, HK.out⟩
    | true =>
      go_wp2_with fail
      refine (rcWithin_any _ _ _ _).mono ?_
      rintro e w9 ⟨rfl, rfl⟩
      rw [h3]
      go_wp2_with fail
      go_ret
      exact ⟨by rw [HT.out]; rfl, HK.out⟩
set_option maxRecDepth 100000 in
set_option maxHeartbeats 1000000 in
theorem rcMay4_any (x : Rw) (w : World) (hx : x.Small) : Calls Tryz.prog 72 #[rwV x] w (TruePost w (rcMay 4 x)) := by
  have hc := hx.c
  have HT := Lib.hid (show rcMay 4 x = (rcClient x.c && inN x.id 1 65535) from rfl)
  clear hx
  obtain ⟨k, c, seq, id, t, b, q, r, s⟩ := x
  simp only at hc HT ⊢
  obtain ⟨b1, h1⟩ : ∃ b1, rcClient c = b1 := ⟨_, rfl⟩
  obtain ⟨b3, h3⟩ : ∃ b3, inN id 1 65535 = b3 := ⟨_, rfl⟩
  rw [h1, h3] at HT
  have C1 := Lib.hid (fun w => rcClient_any w c (by omega))
  rw [h1] at C1
  clear h1
  obtain ⟨W0, hW0⟩ : ∃ W0, w.alloc (.cells #[.int .i64 k, .string ⟨c.toArray⟩, .int .i64 seq, .int .i64 id, .string ⟨t.toArray⟩, .string ⟨b.toArray⟩, .int .i64 q, .bool r, .int .i64 s] 25) = W0 := ⟨_, rfl⟩
  have k0 : Keeps w W0 [] := by rw [← hW0]; exact Keeps.alloc _ _
  have r0 : Row W0 w.heap.size 25 #[.int .i64 k, .string ⟨c.toArray⟩, .int .i64 seq, .int .i64 id, .string ⟨t.toArray⟩, .string ⟨b.toArray⟩, .int .i64 q, .bool r, .int .i64 s] := by rw [← hW0]; exact Row.new _ _ _
  have HR := Lib.hid (And.intro k0 r0)
  have x0 := r0.cell 0
  have x1 := r0.cell 1
  have x2 := r0.cell 2
  have x3 := r0.cell 3
  have x4 := r0.cell 4
  have x5 := r0.cell 5
  have x6 := r0.cell 6
  have x7 := r0.cell 7
  have x8 := r0.cell 8
  simp only [List.getElem?_toArray, List.getElem?_cons_zero, List.getElem?_cons_succ] at x0 x1 x2 x3 x4 x5 x6 x7 x8
  clear k0 r0
  go_enter Tryz.func72, Tryz.ntmps72
  go_wp2_with fail
  refine (C1.out _).mono ?_
  rintro e w1 ⟨rfl, hk⟩
  have r1 := HR.out.2.keeps hk
  have HK := Lib.hid (HR.out.1.then_ hk)
  clear x0 x1 x2 x3 x4 x5 x6 x7 x8 hW0
  have y0 := r1.cell 0
  have y1 := r1.cell 1
  have y2 := r1.cell 2
  have y3 := r1.cell 3
  have y4 := r1.cell 4
  have y5 := r1.cell 5
  have y6 := r1.cell 6
  have y7 := r1.cell 7
  have y8 := r1.cell 8
  simp only [List.getElem?_toArray, List.getElem?_cons_zero, List.getElem?_cons_succ] at y0 y1 y2 y3 y4 y5 y6 y7 y8
  replace HR := Lib.hid (And.intro HK.out r1)
  clear hk r1
  cases b1 with
  | false =>
    go_wp2_with fail
    go_ret
    exact ⟨by rw [HT.out]; rfl, HK.out⟩
  | true =>
    go_wp2_with fail
    refine (rcWithin_any _ _ _ _).mono ?_
    rintro e w9 ⟨rfl, rfl⟩
    rw [h3]
    go_wp2_with fail
    go_ret
    exact ⟨by rw [HT.out]; rfl, HK.out⟩
set_option maxRecDepth 100000 in
set_option maxHeartbeats 1000000 in
theorem rcMay2_any (x : Rw) (w : World) (hx : x.Small) (hM : MaxL w) : Calls Tryz.prog 63 #[rwV x] w (TruePost w (rcMay 2 x)) := by
  have hc := hx.c
  have ht := hx.t
  have HT := Lib.hid (show rcMay 2 x = (rcClient x.c && (tFilter x.t && inN x.q 0 2)) from rfl)
  clear hx
  obtain ⟨k, c, seq, id, t, b, q, r, s⟩ := x
  simp only at hc ht HT ⊢
  obtain ⟨b1, h1⟩ : ∃ b1, rcClient c = b1 := ⟨_, rfl⟩
  obtain ⟨b2, h2⟩ : ∃ b2, tFilter t = b2 := ⟨_, rfl⟩
  obtain ⟨b3, h3⟩ : ∃ b3, inN q 0 2 = b3 := ⟨_, rfl⟩
  rw [h1, h2, h3] at HT
  have C1 := Lib.hid (fun w => rcClient_any w c (by omega))
  have C2 := Lib.hid (fun w h => tFilterC_any w t (by omega) h)
  rw [h1] at C1
  rw [h2] at C2
  have HM := Lib.hid hM
  clear h1 h2 hM
  obtain ⟨W0, hW0⟩ : ∃ W0, w.alloc (.cells #[.int .i64 k, .string ⟨c.toArray⟩, .int .i64 seq, .int .i64 id, .string ⟨t.toArray⟩, .string ⟨b.toArray⟩, .int .i64 q, .bool r, .int .i64 s] 25) = W0 := ⟨_, rfl⟩
  have k0 : Keeps w W0 [] := by rw [← hW0]; exact Keeps.alloc _ _
  have r0 : Row W0 w.heap.size 25 #[.int .i64 k, .string ⟨c.toArray⟩, .int .i64 seq, .int .i64 id, .string ⟨t.toArray⟩, .string ⟨b.toArray⟩, .int .i64 q, .bool r, .int .i64 s] := by rw [← hW0]; exact Row.new _ _ _
  have HR := Lib.hid (And.intro k0 r0)
  have x0 := r0.cell 0
  have x1 := r0.cell 1
  have x2 := r0.cell 2
  have x3 := r0.cell 3
  have x4 := r0.cell 4
  have x5 := r0.cell 5
  have x6 := r0.cell 6
  have x7 := r0.cell 7
  have x8 := r0.cell 8
  simp only [List.getElem?_toArray, List.getElem?_cons_zero, List.getElem?_cons_succ] at x0 x1 x2 x3 x4 x5 x6 x7 x8
  clear k0 r0
  go_enter Tryz.func63, Tryz.ntmps63
  go_wp2_with fail
  refine (C1.out _).mono ?_
  rintro e w1 ⟨rfl, hk⟩
  have r1 := HR.out.2.keeps hk
  have HK := Lib.hid (HR.out.1.then_ hk)
  clear x0 x1 x2 x3 x4 x5 x6 x7 x8 hW0
  have y0 := r1.cell 0
  have y1 := r1.cell 1
  have y2 := r1.cell 2
  have y3 := r1.cell 3
  have y4 := r1.cell 4
  have y5 := r1.cell 5
  have y6 := r1.cell 6
  have y7 := r1.cell 7
  have y8 := r1.cell 8
  simp only [List.getElem?_toArray, List.getElem?_cons_zero, List.getElem?_cons_succ] at y0 y1 y2 y3 y4 y5 y6 y7 y8
  replace HR := Lib.hid (And.intro HK.out r1)
  clear hk r1
  cases b1 with
  | false =>
    go_wp2_with fail
    go_ret
    exact ⟨by rw [HT.out]; rfl, HK.out⟩
  | true =>
    go_wp2_with fail
    refine (C2.out _ (HM.out.keeps HK.out)).mono ?_
    rintro e w2 ⟨rfl, hk⟩
    have r2 := HR.out.2.keeps hk
    replace HK := Lib.hid (HK.out.then_ hk)
    clear y0 y1 y2 y3 y4 y5 y6 y7 y8 hk
    have z0 := r2.cell 0
    have z1 := r2.cell 1
    have z2 := r2.cell 2
    have z3 := r2.cell 3
    have z4 := r2.cell 4
    have z5 := r2.cell 5
    have z6 := r2.cell 6
    have z7 := r2.cell 7
    have z8 := r2.cell 8
    simp only [List.getElem?_toArray, List.getElem?_cons_zero, List.getElem?_cons_succ] at z0 z1 z2 z3 z4 z5 z6 z7 z8
    clear r2
    cases b2 with
    | false =>
      go_wp2_with fail
      go_ret
      exact ⟨by rw [HT.out]; rfl, HK.out⟩
    | true =>
      go_wp2_with fail
      refine (rcWithin_any _ _ _ _).mono ?_
      rintro e w9 ⟨rfl, rfl⟩
      rw [h3]
      go_wp2_with fail
      go_ret
      exact ⟨by rw [HT.out]; rfl, HK.out⟩
set_option maxRecDepth 100000 in
set_option maxHeartbeats 1000000 in
theorem rcMay5_any (x : Rw) (w : World) (hx : x.Small) : Calls Tryz.prog 75 #[rwV x] w (TruePost w (rcMay 5 x)) := by
  have hb := hx.b
  have ht := hx.t
  have HT := Lib.hid (show rcMay 5 x = (tName x.t && (inN (x.b.length : Nat) 1 2000 && inN x.q 0 2)) from rfl)
  clear hx
  obtain ⟨k, c, seq, id, t, b, q, r, s⟩ := x
  simp only at hb ht HT ⊢
  obtain ⟨b1, h1⟩ : ∃ b1, tName t = b1 := ⟨_, rfl⟩
  obtain ⟨b2, h2⟩ : ∃ b2, inN (b.length : Nat) 1 2000 = b2 := ⟨_, rfl⟩
  obtain ⟨b3, h3⟩ : ∃ b3, inN q 0 2 = b3 := ⟨_, rfl⟩
  rw [h1, h2, h3] at HT
  have C1 := Lib.hid (fun w => tName_any w t (by omega))
  rw [h1] at C1
  clear h1
  obtain ⟨W0, hW0⟩ : ∃ W0, w.alloc (.cells #[.int .i64 k, .string ⟨c.toArray⟩, .int .i64 seq, .int .i64 id, .string ⟨t.toArray⟩, .string ⟨b.toArray⟩, .int .i64 q, .bool r, .int .i64 s] 25) = W0 := ⟨_, rfl⟩
  have k0 : Keeps w W0 [] := by rw [← hW0]; exact Keeps.alloc _ _
  have r0 : Row W0 w.heap.size 25 #[.int .i64 k, .string ⟨c.toArray⟩, .int .i64 seq, .int .i64 id, .string ⟨t.toArray⟩, .string ⟨b.toArray⟩, .int .i64 q, .bool r, .int .i64 s] := by rw [← hW0]; exact Row.new _ _ _
  have HR := Lib.hid (And.intro k0 r0)
  have x0 := r0.cell 0
  have x1 := r0.cell 1
  have x2 := r0.cell 2
  have x3 := r0.cell 3
  have x4 := r0.cell 4
  have x5 := r0.cell 5
  have x6 := r0.cell 6
  have x7 := r0.cell 7
  have x8 := r0.cell 8
  simp only [List.getElem?_toArray, List.getElem?_cons_zero, List.getElem?_cons_succ] at x0 x1 x2 x3 x4 x5 x6 x7 x8
  clear k0 r0
  go_enter Tryz.func75, Tryz.ntmps75
  go_wp2_with fail
  refine (C1.out _).mono ?_
  rintro e w1 ⟨rfl, hk⟩
  have r1 := HR.out.2.keeps hk
  have HK := Lib.hid (HR.out.1.then_ hk)
  clear x0 x1 x2 x3 x4 x5 x6 x7 x8 hW0
  have y0 := r1.cell 0
  have y1 := r1.cell 1
  have y2 := r1.cell 2
  have y3 := r1.cell 3
  have y4 := r1.cell 4
  have y5 := r1.cell 5
  have y6 := r1.cell 6
  have y7 := r1.cell 7
  have y8 := r1.cell 8
  simp only [List.getElem?_toArray, List.getElem?_cons_zero, List.getElem?_cons_succ] at y0 y1 y2 y3 y4 y5 y6 y7 y8
  replace HR := Lib.hid (And.intro HK.out r1)
  clear hk r1
  cases b1 with
  | false =>
    go_wp2_with fail
    go_ret
    exact ⟨by rw [HT.out]; rfl, HK.out⟩
  | true =>
    go_wp2_with fail
    refine (rcWithin_any _ _ _ _).mono ?_
    rintro e w9 ⟨rfl, rfl⟩
    rw [h2]
    cases b2 with
    | false =>
      go_wp2_with fail
      go_ret
      exact ⟨by rw [HT.out]; rfl, HK.out⟩
    | true =>
      go_wp2_with fail
      refine (rcWithin_any _ _ _ _).mono ?_
      rintro e w9 ⟨rfl, rfl⟩
      rw [h3]
      go_wp2_with fail
      go_ret
      exact ⟨by rw [HT.out]; rfl, HK.out⟩
end Go.Proofs.YtfglgeoookbppaaGreatDoor

namespace Go.Proofs.YtfglgeoookbppaaGreatDoor
open Go.RowKit Go.Shelf

set_option maxRecDepth 100000 in
set_option maxHeartbeats 2000000 in
theorem rcMay3_any (x : Rw) (w : World) (hx : x.Small) : Calls Tryz.prog 68 #[rwV x] w (TruePost w (rcMay 3 x)) := by
  have hc := hx.c
  have ht := hx.t
  have hb := hx.b
  have HT := Lib.hid (show rcMay 3 x = (rcClient x.c && (inN x.seq 0 4611686018427387904 && (tName x.t && (decide (x.b.length ≤ 2000) && (inN x.q 1 2 && rcStage x))))) from rfl)
  have HS := Lib.hid (show rcStage x = ((decide (x.s = 1) && decide (x.id = 0)) || (inN x.id 1 65535 && (decide (x.s = 2) || (decide (x.s = 3) && decide (x.q = 2))))) from rfl)
  obtain ⟨st, hst⟩ : ∃ st, rcStage x = st := ⟨_, rfl⟩
  rw [hst] at HT HS
  clear hx hst
  obtain ⟨k, c, seq, id, t, b, q, r, s⟩ := x
  simp only at hc ht hb HT HS ⊢
  have dd : ∀ a b : Int, decide (a = b) = (a == b) := fun a b => by rw [Bool.eq_iff_iff]; simp
  rw [dd, dd, dd, dd, dd] at HS
  obtain ⟨a1, e1⟩ : ∃ a1, (s == 1) = a1 := ⟨_, rfl⟩
  obtain ⟨a2, e2⟩ : ∃ a2, (id == 0) = a2 := ⟨_, rfl⟩
  obtain ⟨a3, h3⟩ : ∃ a3, inN id 1 65535 = a3 := ⟨_, rfl⟩
  obtain ⟨a4, e4⟩ : ∃ a4, (s == 2) = a4 := ⟨_, rfl⟩
  obtain ⟨a5, e5⟩ : ∃ a5, (s == 3) = a5 := ⟨_, rfl⟩
  obtain ⟨a6, e6⟩ : ∃ a6, (q == 2) = a6 := ⟨_, rfl⟩
  rw [e1, e2, h3, e4, e5, e6] at HS
  have HST := HS
  clear HS
  obtain ⟨b1, h1⟩ : ∃ b1, rcClient c = b1 := ⟨_, rfl⟩
  obtain ⟨b2, h2⟩ : ∃ b2, inN seq 0 4611686018427387904 = b2 := ⟨_, rfl⟩
  obtain ⟨b3, h4⟩ : ∃ b3, tName t = b3 := ⟨_, rfl⟩
  obtain ⟨b5, h5⟩ : ∃ b5, decide (b.length ≤ 2000) = b5 := ⟨_, rfl⟩
  obtain ⟨b6, h6⟩ : ∃ b6, inN q 1 2 = b6 := ⟨_, rfl⟩
  rw [h1, h2, h4, h5, h6] at HT
  have C1 := Lib.hid (fun w => rcClient_any w c (by omega))
  have C2 := Lib.hid (fun w => tName_any w t (by omega))
  have h5' : decide ((b.length : Int) ≤ 2000) = b5 := by rw [← h5, Bool.eq_iff_iff]; simp; omega
  rw [h1] at C1
  rw [h4] at C2
  clear h1 h4 dd
  obtain ⟨W0, hW0⟩ : ∃ W0, w.alloc (.cells #[.int .i64 k, .string ⟨c.toArray⟩, .int .i64 seq, .int .i64 id, .string ⟨t.toArray⟩, .string ⟨b.toArray⟩, .int .i64 q, .bool r, .int .i64 s] 25) = W0 := ⟨_, rfl⟩
  have k0 : Keeps w W0 [] := by rw [← hW0]; exact Keeps.alloc _ _
  have r0 : Row W0 w.heap.size 25 #[.int .i64 k, .string ⟨c.toArray⟩, .int .i64 seq, .int .i64 id, .string ⟨t.toArray⟩, .string ⟨b.toArray⟩, .int .i64 q, .bool r, .int .i64 s] := by rw [← hW0]; exact Row.new _ _ _
  have HR := Lib.hid (And.intro k0 r0)
  have x0 := r0.cell 0
  have x1 := r0.cell 1
  have x2 := r0.cell 2
  have x3 := r0.cell 3
  have x4 := r0.cell 4
  have x5 := r0.cell 5
  have x6 := r0.cell 6
  have x7 := r0.cell 7
  have x8 := r0.cell 8
  simp only [List.getElem?_toArray, List.getElem?_cons_zero, List.getElem?_cons_succ] at x0 x1 x2 x3 x4 x5 x6 x7 x8
  clear k0 r0
  go_enter Tryz.func68, Tryz.ntmps68
  go_upto_region 1 with fail
  go_cut [3] (fun v wx => v = .bool st ∧ wx = W0)
  case first =>
    cases a1 with
    | true =>
      cases a2 with
      | true =>
        go_wp2_with fail
        go_meet
        case rel => exact ⟨by rw [HST.out]; rfl, rfl⟩
      | false =>
        go_wp2_with fail
        refine (rcWithin_any _ _ _ _).mono ?_
        rintro e w9 ⟨rfl, rfl⟩
        rw [h3]
        cases a3 with
        | false =>
          go_wp2_with fail
          go_meet
          case rel => exact ⟨by rw [HST.out]; rfl, rfl⟩
        | true =>
          cases a4 with
          | true =>
            go_wp2_with fail
            go_meet
            case rel => exact ⟨by rw [HST.out]; rfl, rfl⟩
          | false =>
            cases a5 with
            | false =>
              go_wp2_with fail
              go_meet
              case rel => exact ⟨by rw [HST.out]; rfl, rfl⟩
            | true =>
              cases a6 with
              | false =>
                go_wp2_with fail
                go_meet
                case rel => exact ⟨by rw [HST.out]; rfl, rfl⟩
              | true =>
                go_wp2_with fail
                go_meet
                case rel => exact ⟨by rw [HST.out]; rfl, rfl⟩
    | false =>
      go_wp2_with fail
      refine (rcWithin_any _ _ _ _).mono ?_
      rintro e w9 ⟨rfl, rfl⟩
      rw [h3]
      cases a3 with
      | false =>
        go_wp2_with fail
        go_meet
        case rel => exact ⟨by rw [HST.out]; rfl, rfl⟩
      | true =>
        cases a4 with
        | true =>
          go_wp2_with fail
          go_meet
          case rel => exact ⟨by rw [HST.out]; rfl, rfl⟩
        | false =>
          cases a5 with
          | false =>
            go_wp2_with fail
            go_meet
            case rel => exact ⟨by rw [HST.out]; rfl, rfl⟩
          | true =>
            cases a6 with
            | false =>
              go_wp2_with fail
              go_meet
              case rel => exact ⟨by rw [HST.out]; rfl, rfl⟩
            | true =>
              go_wp2_with fail
              go_meet
              case rel => exact ⟨by rw [HST.out]; rfl, rfl⟩
  case rest =>
    obtain ⟨rfl, rfl⟩ := hcut
    clear HST e1 e2 h3 e4 e5 e6
    go_wp2_with fail
    refine (C1.out _).mono ?_
    rintro e w1 ⟨rfl, hk⟩
    have r1 := HR.out.2.keeps hk
    have HK := Lib.hid (HR.out.1.then_ hk)
    clear x0 x1 x2 x3 x4 x5 x6 x7 x8 hW0
    have y0 := r1.cell 0
    have y1 := r1.cell 1
    have y2 := r1.cell 2
    have y3 := r1.cell 3
    have y4 := r1.cell 4
    have y5 := r1.cell 5
    have y6 := r1.cell 6
    have y7 := r1.cell 7
    have y8 := r1.cell 8
    simp only [List.getElem?_toArray, List.getElem?_cons_zero, List.getElem?_cons_succ] at y0 y1 y2 y3 y4 y5 y6 y7 y8
    replace HR := Lib.hid (And.intro HK.out r1)
    clear hk r1
    cases b1 with
    | false =>
      go_wp2_with fail
      go_ret
      exact ⟨by rw [HT.out]; rfl, HK.out⟩
    | true =>
      go_wp2_with fail
      refine (rcWithin_any _ _ _ _).mono ?_
      rintro e w9 ⟨rfl, rfl⟩
      rw [h2]
      cases b2 with
      | false =>
        go_wp2_with fail
        go_ret
        exact ⟨by rw [HT.out]; rfl, HK.out⟩
      | true =>
        go_wp2_with fail
        refine (C2.out _).mono ?_
        rintro e w2 ⟨rfl, hk⟩
        have r2 := HR.out.2.keeps hk
        replace HK := Lib.hid (HK.out.then_ hk)
        clear y0 y1 y2 y3 y4 y5 y6 y7 y8 hk
        have z0 := r2.cell 0
        have z1 := r2.cell 1
        have z2 := r2.cell 2
        have z3 := r2.cell 3
        have z4 := r2.cell 4
        have z5 := r2.cell 5
        have z6 := r2.cell 6
        have z7 := r2.cell 7
        have z8 := r2.cell 8
        simp only [List.getElem?_toArray, List.getElem?_cons_zero, List.getElem?_cons_succ] at z0 z1 z2 z3 z4 z5 z6 z7 z8
        clear r2
        cases b3 with
        | false =>
          go_wp2_with fail
          go_ret
          exact ⟨by rw [HT.out]; rfl, HK.out⟩
        | true =>
          cases b5 with
          | false =>
            go_wp2_with fail
            go_ret
            exact ⟨by rw [HT.out]; rfl, HK.out⟩
          | true =>
            go_wp2_with fail
            refine (rcWithin_any _ _ _ _).mono ?_
            rintro e w9 ⟨rfl, rfl⟩
            rw [h6]
            cases b6 with
            | false =>
              go_wp2_with fail
              go_ret
              exact ⟨by rw [HT.out]; rfl, HK.out⟩
            | true =>
              go_wp2_with fail
              go_ret
              exact ⟨by rw [HT.out]; rfl, HK.out⟩
end Go.Proofs.YtfglgeoookbppaaGreatDoor

namespace Go.Proofs.YtfglgeoookbppaaGreatDoor
open Go.RowKit Go.Shelf

def HasPost (w : World) (x : Rw) (e : Ending) (w' : World) : Prop := e = .returned (rwV x) ∧ Keeps w w' []
theorem rw_fill {W : World} {z : Nat} {v0 v1 v2 v3 v4 v5 v6 v7 v8 u0 u1 u2 u3 u4 u5 u6 u7 u8 : Value} (h : Row W z 25 #[u0, u1, u2, u3, u4, u5, u6, u7, u8]) :
    Row (((((((((W.setCell ⟨z, 0, none⟩ v0).setCell ⟨z, 1, none⟩ v1).setCell ⟨z, 2, none⟩ v2).setCell ⟨z, 3, none⟩ v3).setCell ⟨z, 4, none⟩ v4).setCell ⟨z, 5, none⟩ v5).setCell ⟨z, 6, none⟩ v6).setCell ⟨z, 7, none⟩ v7).setCell ⟨z, 8, none⟩ v8) z 25 #[v0, v1, v2, v3, v4, v5, v6, v7, v8] ∧ Keeps W (((((((((W.setCell ⟨z, 0, none⟩ v0).setCell ⟨z, 1, none⟩ v1).setCell ⟨z, 2, none⟩ v2).setCell ⟨z, 3, none⟩ v3).setCell ⟨z, 4, none⟩ v4).setCell ⟨z, 5, none⟩ v5).setCell ⟨z, 6, none⟩ v6).setCell ⟨z, 7, none⟩ v7).setCell ⟨z, 8, none⟩ v8) [z] := by
  obtain ⟨W0, hW0⟩ : ∃ W', W.setCell ⟨z, 0, none⟩ v0 = W' := ⟨_, rfl⟩
  rw [hW0]
  have h0 : Row W0 z 25 #[v0, u1, u2, u3, u4, u5, u6, u7, u8] := by
    have e := h.store 0 v0
    rw [hW0] at e
    simpa using e
  have k0 : Keeps W W0 [z] := by rw [← hW0]; exact Keeps.setCell _ _ _
  obtain ⟨W1, hW1⟩ : ∃ W', W0.setCell ⟨z, 1, none⟩ v1 = W' := ⟨_, rfl⟩
  rw [hW1]
  have h1 : Row W1 z 25 #[v0, v1, u2, u3, u4, u5, u6, u7, u8] := by
    have e := h0.store 1 v1
    rw [hW1] at e
    simpa using e
  have k1 : Keeps W W1 [z] := k0.trans (by rw [← hW1]; exact Keeps.setCell _ _ _) (by simp)
  obtain ⟨W2, hW2⟩ : ∃ W', W1.setCell ⟨z, 2, none⟩ v2 = W' := ⟨_, rfl⟩
  rw [hW2]
  have h2 : Row W2 z 25 #[v0, v1, v2, u3, u4, u5, u6, u7, u8] := by
    have e := h1.store 2 v2
    rw [hW2] at e
    simpa using e
  have k2 : Keeps W W2 [z] := k1.trans (by rw [← hW2]; exact Keeps.setCell _ _ _) (by simp)
  obtain ⟨W3, hW3⟩ : ∃ W', W2.setCell ⟨z, 3, none⟩ v3 = W' := ⟨_, rfl⟩
  rw [hW3]
  have h3 : Row W3 z 25 #[v0, v1, v2, v3, u4, u5, u6, u7, u8] := by
    have e := h2.store 3 v3
    rw [hW3] at e
    simpa using e
  have k3 : Keeps W W3 [z] := k2.trans (by rw [← hW3]; exact Keeps.setCell _ _ _) (by simp)
  obtain ⟨W4, hW4⟩ : ∃ W', W3.setCell ⟨z, 4, none⟩ v4 = W' := ⟨_, rfl⟩
  rw [hW4]
  have h4 : Row W4 z 25 #[v0, v1, v2, v3, v4, u5, u6, u7, u8] := by
    have e := h3.store 4 v4
    rw [hW4] at e
    simpa using e
  have k4 : Keeps W W4 [z] := k3.trans (by rw [← hW4]; exact Keeps.setCell _ _ _) (by simp)
  obtain ⟨W5, hW5⟩ : ∃ W', W4.setCell ⟨z, 5, none⟩ v5 = W' := ⟨_, rfl⟩
  rw [hW5]
  have h5 : Row W5 z 25 #[v0, v1, v2, v3, v4, v5, u6, u7, u8] := by
    have e := h4.store 5 v5
    rw [hW5] at e
    simpa using e
  have k5 : Keeps W W5 [z] := k4.trans (by rw [← hW5]; exact Keeps.setCell _ _ _) (by simp)
  obtain ⟨W6, hW6⟩ : ∃ W', W5.setCell ⟨z, 6, none⟩ v6 = W' := ⟨_, rfl⟩
  rw [hW6]
  have h6 : Row W6 z 25 #[v0, v1, v2, v3, v4, v5, v6, u7, u8] := by
    have e := h5.store 6 v6
    rw [hW6] at e
    simpa using e
  have k6 : Keeps W W6 [z] := k5.trans (by rw [← hW6]; exact Keeps.setCell _ _ _) (by simp)
  obtain ⟨W7, hW7⟩ : ∃ W', W6.setCell ⟨z, 7, none⟩ v7 = W' := ⟨_, rfl⟩
  rw [hW7]
  have h7 : Row W7 z 25 #[v0, v1, v2, v3, v4, v5, v6, v7, u8] := by
    have e := h6.store 7 v7
    rw [hW7] at e
    simpa using e
  have k7 : Keeps W W7 [z] := k6.trans (by rw [← hW7]; exact Keeps.setCell _ _ _) (by simp)
  obtain ⟨W8, hW8⟩ : ∃ W', W7.setCell ⟨z, 8, none⟩ v8 = W' := ⟨_, rfl⟩
  rw [hW8]
  have h8 : Row W8 z 25 #[v0, v1, v2, v3, v4, v5, v6, v7, v8] := by
    have e := h7.store 8 v8
    rw [hW8] at e
    simpa using e
  have k8 : Keeps W W8 [z] := k7.trans (by rw [← hW8]; exact Keeps.setCell _ _ _) (by simp)
  exact ⟨h8, k8⟩
theorem has_end {w W : World} {z : Nat} {v0 v1 v2 v3 v4 v5 v6 v7 v8 u0 u1 u2 u3 u4 u5 u6 u7 u8 : Value} {F : World → Prop} (h : Row W z 25 #[u0, u1, u2, u3, u4, u5, u6, u7, u8]) (hk : Keeps w W []) (hz : w.heap.size ≤ z)
    (hF : ∀ W9, Row W9 z 25 #[v0, v1, v2, v3, v4, v5, v6, v7, v8] → Keeps w W9 [] → F W9) : F (((((((((W.setCell ⟨z, 0, none⟩ v0).setCell ⟨z, 1, none⟩ v1).setCell ⟨z, 2, none⟩ v2).setCell ⟨z, 3, none⟩ v3).setCell ⟨z, 4, none⟩ v4).setCell ⟨z, 5, none⟩ v5).setCell ⟨z, 6, none⟩ v6).setCell ⟨z, 7, none⟩ v7).setCell ⟨z, 8, none⟩ v8) :=
  hF _ (rw_fill h).1 (hk.trans (rw_fill h).2 fun x hx hlt => by
    rw [List.mem_singleton] at hx
    omega)
set_option maxRecDepth 100000 in
set_option maxHeartbeats 2000000 in
theorem rcHas1_any (x : Rw) (w : World) : Calls Tryz.prog 60 #[rwV x] w (HasPost w (rcHas 1 x)) := by
  obtain ⟨k, c, seq, id, t, b, q, r, s⟩ := x
  have hv := Lib.hid (show rwV (rcHas 1 ⟨k, c, seq, id, t, b, q, r, s⟩) = .agg #[.int .i64 0, .string ⟨c.toArray⟩, .int .i64 seq, .int .i64 id, .string ⟨#[]⟩, .string ⟨#[]⟩, .int .i64 0, .bool false, .int .i64 0] from rfl)
  obtain ⟨W0, hW0⟩ : ∃ W0, w.alloc (.cells #[.int .i64 k, .string ⟨c.toArray⟩, .int .i64 seq, .int .i64 id, .string ⟨t.toArray⟩, .string ⟨b.toArray⟩, .int .i64 q, .bool r, .int .i64 s] 25) = W0 := ⟨_, rfl⟩
  have k0 : Keeps w W0 [] := by rw [← hW0]; exact Keeps.alloc _ _
  have r0 : Row W0 w.heap.size 25 #[.int .i64 k, .string ⟨c.toArray⟩, .int .i64 seq, .int .i64 id, .string ⟨t.toArray⟩, .string ⟨b.toArray⟩, .int .i64 q, .bool r, .int .i64 s] := by rw [← hW0]; exact Row.new _ _ _
  have HR := Lib.hid (And.intro k0 r0)
  have x0 := r0.cell 0
  have x1 := r0.cell 1
  have x2 := r0.cell 2
  have x3 := r0.cell 3
  have x4 := r0.cell 4
  have x5 := r0.cell 5
  have x6 := r0.cell 6
  have x7 := r0.cell 7
  have x8 := r0.cell 8
  simp only [List.getElem?_toArray, List.getElem?_cons_zero, List.getElem?_cons_succ] at x0 x1 x2 x3 x4 x5 x6 x7 x8
  clear k0 r0
  obtain ⟨W1, hW1⟩ : ∃ W1, W0.alloc (.cells #[.int .i64 0, .string ⟨#[]⟩, .int .i64 0, .int .i64 0, .string ⟨#[]⟩, .string ⟨#[]⟩, .int .i64 0, .bool false, .int .i64 0] 25) = W1 := ⟨_, rfl⟩
  have k1 : Keeps W0 W1 [] := by rw [← hW1]; exact Keeps.alloc _ _
  have r1 := HR.out.2.keeps k1
  have rz : Row W1 W0.heap.size 25 #[.int .i64 0, .string ⟨#[]⟩, .int .i64 0, .int .i64 0, .string ⟨#[]⟩, .string ⟨#[]⟩, .int .i64 0, .bool false, .int .i64 0] := by rw [← hW1]; exact Row.new _ _ _
  obtain ⟨z, hz⟩ : ∃ z, W0.heap.size = z := ⟨_, rfl⟩
  have hz2 : w.heap.size ≤ z := by rw [← hz]; exact HR.out.1.size
  rw [hz] at rz
  clear x0 x1 x2 x3 x4 x5 x6 x7 x8
  have x0 := r1.cell 0
  have x1 := r1.cell 1
  have x2 := r1.cell 2
  have x3 := r1.cell 3
  have x4 := r1.cell 4
  have x5 := r1.cell 5
  have x6 := r1.cell 6
  have x7 := r1.cell 7
  have x8 := r1.cell 8
  simp only [List.getElem?_toArray, List.getElem?_cons_zero, List.getElem?_cons_succ] at x0 x1 x2 x3 x4 x5 x6 x7 x8
  have y0 := rz.cell 0
  have y1 := rz.cell 1
  have y2 := rz.cell 2
  have y3 := rz.cell 3
  have y4 := rz.cell 4
  have y5 := rz.cell 5
  have y6 := rz.cell 6
  have y7 := rz.cell 7
  have y8 := rz.cell 8
  simp only [List.getElem?_toArray, List.getElem?_cons_zero, List.getElem?_cons_succ] at y0 y1 y2 y3 y4 y5 y6 y7 y8
  have g0 := rz.frozen 0
  have g1 := rz.frozen 1
  have g2 := rz.frozen 2
  have g3 := rz.frozen 3
  have g4 := rz.frozen 4
  have g5 := rz.frozen 5
  have g6 := rz.frozen 6
  have g7 := rz.frozen 7
  have g8 := rz.frozen 8
  have HZ := Lib.hid (And.intro rz (And.intro (HR.out.1.then_ k1) hz2))
  clear rz r1 k1 hz2
  go_enter Tryz.func60, Tryz.ntmps60
  go_wp2_with fail
  exact has_end HZ.out.1 HZ.out.2.1 HZ.out.2.2 (fun W9 q9 hk => by
    have e0 := q9.cell 0
    have e1 := q9.cell 1
    have e2 := q9.cell 2
    have e3 := q9.cell 3
    have e4 := q9.cell 4
    have e5 := q9.cell 5
    have e6 := q9.cell 6
    have e7 := q9.cell 7
    have e8 := q9.cell 8
    simp only [List.getElem?_toArray, List.getElem?_cons_zero, List.getElem?_cons_succ] at e0 e1 e2 e3 e4 e5 e6 e7 e8
    exact bodyPost_ret (v := .agg #[.int .i64 0, .string ⟨c.toArray⟩, .int .i64 seq, .int .i64 id, .string ⟨#[]⟩, .string ⟨#[]⟩, .int .i64 0, .bool false, .int .i64 0]) (by simp [results, Tryz.results60, go_sem, e0, e1, e2, e3, e4, e5, e6, e7, e8]) rfl ⟨by rw [hv.out], hk⟩)
set_option maxRecDepth 100000 in
set_option maxHeartbeats 2000000 in
theorem rcHas2_any (x : Rw) (w : World) : Calls Tryz.prog 65 #[rwV x] w (HasPost w (rcHas 2 x)) := by
  obtain ⟨k, c, seq, id, t, b, q, r, s⟩ := x
  have hv := Lib.hid (show rwV (rcHas 2 ⟨k, c, seq, id, t, b, q, r, s⟩) = .agg #[.int .i64 0, .string ⟨c.toArray⟩, .int .i64 0, .int .i64 0, .string ⟨t.toArray⟩, .string ⟨#[]⟩, .int .i64 q, .bool false, .int .i64 0] from rfl)
  obtain ⟨W0, hW0⟩ : ∃ W0, w.alloc (.cells #[.int .i64 k, .string ⟨c.toArray⟩, .int .i64 seq, .int .i64 id, .string ⟨t.toArray⟩, .string ⟨b.toArray⟩, .int .i64 q, .bool r, .int .i64 s] 25) = W0 := ⟨_, rfl⟩
  have k0 : Keeps w W0 [] := by rw [← hW0]; exact Keeps.alloc _ _
  have r0 : Row W0 w.heap.size 25 #[.int .i64 k, .string ⟨c.toArray⟩, .int .i64 seq, .int .i64 id, .string ⟨t.toArray⟩, .string ⟨b.toArray⟩, .int .i64 q, .bool r, .int .i64 s] := by rw [← hW0]; exact Row.new _ _ _
  have HR := Lib.hid (And.intro k0 r0)
  have x0 := r0.cell 0
  have x1 := r0.cell 1
  have x2 := r0.cell 2
  have x3 := r0.cell 3
  have x4 := r0.cell 4
  have x5 := r0.cell 5
  have x6 := r0.cell 6
  have x7 := r0.cell 7
  have x8 := r0.cell 8
  simp only [List.getElem?_toArray, List.getElem?_cons_zero, List.getElem?_cons_succ] at x0 x1 x2 x3 x4 x5 x6 x7 x8
  clear k0 r0
  obtain ⟨W1, hW1⟩ : ∃ W1, W0.alloc (.cells #[.int .i64 0, .string ⟨#[]⟩, .int .i64 0, .int .i64 0, .string ⟨#[]⟩, .string ⟨#[]⟩, .int .i64 0, .bool false, .int .i64 0] 25) = W1 := ⟨_, rfl⟩
  have k1 : Keeps W0 W1 [] := by rw [← hW1]; exact Keeps.alloc _ _
  have r1 := HR.out.2.keeps k1
  have rz : Row W1 W0.heap.size 25 #[.int .i64 0, .string ⟨#[]⟩, .int .i64 0, .int .i64 0, .string ⟨#[]⟩, .string ⟨#[]⟩, .int .i64 0, .bool false, .int .i64 0] := by rw [← hW1]; exact Row.new _ _ _
  obtain ⟨z, hz⟩ : ∃ z, W0.heap.size = z := ⟨_, rfl⟩
  have hz2 : w.heap.size ≤ z := by rw [← hz]; exact HR.out.1.size
  rw [hz] at rz
  clear x0 x1 x2 x3 x4 x5 x6 x7 x8
  have x0 := r1.cell 0
  have x1 := r1.cell 1
  have x2 := r1.cell 2
  have x3 := r1.cell 3
  have x4 := r1.cell 4
  have x5 := r1.cell 5
  have x6 := r1.cell 6
  have x7 := r1.cell 7
  have x8 := r1.cell 8
  simp only [List.getElem?_toArray, List.getElem?_cons_zero, List.getElem?_cons_succ] at x0 x1 x2 x3 x4 x5 x6 x7 x8
  have y0 := rz.cell 0
  have y1 := rz.cell 1
  have y2 := rz.cell 2
  have y3 := rz.cell 3
  have y4 := rz.cell 4
  have y5 := rz.cell 5
  have y6 := rz.cell 6
  have y7 := rz.cell 7
  have y8 := rz.cell 8
  simp only [List.getElem?_toArray, List.getElem?_cons_zero, List.getElem?_cons_succ] at y0 y1 y2 y3 y4 y5 y6 y7 y8
  have g0 := rz.frozen 0
  have g1 := rz.frozen 1
  have g2 := rz.frozen 2
  have g3 := rz.frozen 3
  have g4 := rz.frozen 4
  have g5 := rz.frozen 5
  have g6 := rz.frozen 6
  have g7 := rz.frozen 7
  have g8 := rz.frozen 8
  have HZ := Lib.hid (And.intro rz (And.intro (HR.out.1.then_ k1) hz2))
  clear rz r1 k1 hz2
  go_enter Tryz.func65, Tryz.ntmps65
  go_wp2_with fail
  exact has_end HZ.out.1 HZ.out.2.1 HZ.out.2.2 (fun W9 q9 hk => by
    have e0 := q9.cell 0
    have e1 := q9.cell 1
    have e2 := q9.cell 2
    have e3 := q9.cell 3
    have e4 := q9.cell 4
    have e5 := q9.cell 5
    have e6 := q9.cell 6
    have e7 := q9.cell 7
    have e8 := q9.cell 8
    simp only [List.getElem?_toArray, List.getElem?_cons_zero, List.getElem?_cons_succ] at e0 e1 e2 e3 e4 e5 e6 e7 e8
    exact bodyPost_ret (v := .agg #[.int .i64 0, .string ⟨c.toArray⟩, .int .i64 0, .int .i64 0, .string ⟨t.toArray⟩, .string ⟨#[]⟩, .int .i64 q, .bool false, .int .i64 0]) (by simp [results, Tryz.results65, go_sem, e0, e1, e2, e3, e4, e5, e6, e7, e8]) rfl ⟨by rw [hv.out], hk⟩)
set_option maxRecDepth 100000 in
set_option maxHeartbeats 2000000 in
theorem rcHas3_any (x : Rw) (w : World) : Calls Tryz.prog 70 #[rwV x] w (HasPost w (rcHas 3 x)) := by
  obtain ⟨k, c, seq, id, t, b, q, r, s⟩ := x
  have hv := Lib.hid (show rwV (rcHas 3 ⟨k, c, seq, id, t, b, q, r, s⟩) = .agg #[.int .i64 k, .string ⟨c.toArray⟩, .int .i64 seq, .int .i64 id, .string ⟨t.toArray⟩, .string ⟨b.toArray⟩, .int .i64 q, .bool r, .int .i64 s] from rfl)
  obtain ⟨W0, hW0⟩ : ∃ W0, w.alloc (.cells #[.int .i64 k, .string ⟨c.toArray⟩, .int .i64 seq, .int .i64 id, .string ⟨t.toArray⟩, .string ⟨b.toArray⟩, .int .i64 q, .bool r, .int .i64 s] 25) = W0 := ⟨_, rfl⟩
  have k0 : Keeps w W0 [] := by rw [← hW0]; exact Keeps.alloc _ _
  have r0 : Row W0 w.heap.size 25 #[.int .i64 k, .string ⟨c.toArray⟩, .int .i64 seq, .int .i64 id, .string ⟨t.toArray⟩, .string ⟨b.toArray⟩, .int .i64 q, .bool r, .int .i64 s] := by rw [← hW0]; exact Row.new _ _ _
  have HR := Lib.hid (And.intro k0 r0)
  have x0 := r0.cell 0
  have x1 := r0.cell 1
  have x2 := r0.cell 2
  have x3 := r0.cell 3
  have x4 := r0.cell 4
  have x5 := r0.cell 5
  have x6 := r0.cell 6
  have x7 := r0.cell 7
  have x8 := r0.cell 8
  simp only [List.getElem?_toArray, List.getElem?_cons_zero, List.getElem?_cons_succ] at x0 x1 x2 x3 x4 x5 x6 x7 x8
  clear k0 r0
  obtain ⟨W1, hW1⟩ : ∃ W1, W0.alloc (.cells #[.int .i64 0, .string ⟨#[]⟩, .int .i64 0, .int .i64 0, .string ⟨#[]⟩, .string ⟨#[]⟩, .int .i64 0, .bool false, .int .i64 0] 25) = W1 := ⟨_, rfl⟩
  have k1 : Keeps W0 W1 [] := by rw [← hW1]; exact Keeps.alloc _ _
  have r1 := HR.out.2.keeps k1
  have rz : Row W1 W0.heap.size 25 #[.int .i64 0, .string ⟨#[]⟩, .int .i64 0, .int .i64 0, .string ⟨#[]⟩, .string ⟨#[]⟩, .int .i64 0, .bool false, .int .i64 0] := by rw [← hW1]; exact Row.new _ _ _
  obtain ⟨z, hz⟩ : ∃ z, W0.heap.size = z := ⟨_, rfl⟩
  have hz2 : w.heap.size ≤ z := by rw [← hz]; exact HR.out.1.size
  rw [hz] at rz
  clear x0 x1 x2 x3 x4 x5 x6 x7 x8
  have x0 := r1.cell 0
  have x1 := r1.cell 1
  have x2 := r1.cell 2
  have x3 := r1.cell 3
  have x4 := r1.cell 4
  have x5 := r1.cell 5
  have x6 := r1.cell 6
  have x7 := r1.cell 7
  have x8 := r1.cell 8
  simp only [List.getElem?_toArray, List.getElem?_cons_zero, List.getElem?_cons_succ] at x0 x1 x2 x3 x4 x5 x6 x7 x8
  have y0 := rz.cell 0
  have y1 := rz.cell 1
  have y2 := rz.cell 2
  have y3 := rz.cell 3
  have y4 := rz.cell 4
  have y5 := rz.cell 5
  have y6 := rz.cell 6
  have y7 := rz.cell 7
  have y8 := rz.cell 8
  simp only [List.getElem?_toArray, List.getElem?_cons_zero, List.getElem?_cons_succ] at y0 y1 y2 y3 y4 y5 y6 y7 y8
  have g0 := rz.frozen 0
  have g1 := rz.frozen 1
  have g2 := rz.frozen 2
  have g3 := rz.frozen 3
  have g4 := rz.frozen 4
  have g5 := rz.frozen 5
  have g6 := rz.frozen 6
  have g7 := rz.frozen 7
  have g8 := rz.frozen 8
  have HZ := Lib.hid (And.intro rz (And.intro (HR.out.1.then_ k1) hz2))
  clear rz r1 k1 hz2
  go_enter Tryz.func70, Tryz.ntmps70
  go_wp2_with fail
  exact has_end HZ.out.1 HZ.out.2.1 HZ.out.2.2 (fun W9 q9 hk => by
    have e0 := q9.cell 0
    have e1 := q9.cell 1
    have e2 := q9.cell 2
    have e3 := q9.cell 3
    have e4 := q9.cell 4
    have e5 := q9.cell 5
    have e6 := q9.cell 6
    have e7 := q9.cell 7
    have e8 := q9.cell 8
    simp only [List.getElem?_toArray, List.getElem?_cons_zero, List.getElem?_cons_succ] at e0 e1 e2 e3 e4 e5 e6 e7 e8
    exact bodyPost_ret (v := .agg #[.int .i64 k, .string ⟨c.toArray⟩, .int .i64 seq, .int .i64 id, .string ⟨t.toArray⟩, .string ⟨b.toArray⟩, .int .i64 q, .bool r, .int .i64 s]) (by simp [results, Tryz.results70, go_sem, e0, e1, e2, e3, e4, e5, e6, e7, e8]) rfl ⟨by rw [hv.out], hk⟩)
set_option maxRecDepth 100000 in
set_option maxHeartbeats 2000000 in
theorem rcHas4_any (x : Rw) (w : World) : Calls Tryz.prog 73 #[rwV x] w (HasPost w (rcHas 4 x)) := by
  obtain ⟨k, c, seq, id, t, b, q, r, s⟩ := x
  have hv := Lib.hid (show rwV (rcHas 4 ⟨k, c, seq, id, t, b, q, r, s⟩) = .agg #[.int .i64 0, .string ⟨c.toArray⟩, .int .i64 0, .int .i64 id, .string ⟨#[]⟩, .string ⟨#[]⟩, .int .i64 0, .bool false, .int .i64 0] from rfl)
  obtain ⟨W0, hW0⟩ : ∃ W0, w.alloc (.cells #[.int .i64 k, .string ⟨c.toArray⟩, .int .i64 seq, .int .i64 id, .string ⟨t.toArray⟩, .string ⟨b.toArray⟩, .int .i64 q, .bool r, .int .i64 s] 25) = W0 := ⟨_, rfl⟩
  have k0 : Keeps w W0 [] := by rw [← hW0]; exact Keeps.alloc _ _
  have r0 : Row W0 w.heap.size 25 #[.int .i64 k, .string ⟨c.toArray⟩, .int .i64 seq, .int .i64 id, .string ⟨t.toArray⟩, .string ⟨b.toArray⟩, .int .i64 q, .bool r, .int .i64 s] := by rw [← hW0]; exact Row.new _ _ _
  have HR := Lib.hid (And.intro k0 r0)
  have x0 := r0.cell 0
  have x1 := r0.cell 1
  have x2 := r0.cell 2
  have x3 := r0.cell 3
  have x4 := r0.cell 4
  have x5 := r0.cell 5
  have x6 := r0.cell 6
  have x7 := r0.cell 7
  have x8 := r0.cell 8
  simp only [List.getElem?_toArray, List.getElem?_cons_zero, List.getElem?_cons_succ] at x0 x1 x2 x3 x4 x5 x6 x7 x8
  clear k0 r0
  obtain ⟨W1, hW1⟩ : ∃ W1, W0.alloc (.cells #[.int .i64 0, .string ⟨#[]⟩, .int .i64 0, .int .i64 0, .string ⟨#[]⟩, .string ⟨#[]⟩, .int .i64 0, .bool false, .int .i64 0] 25) = W1 := ⟨_, rfl⟩
  have k1 : Keeps W0 W1 [] := by rw [← hW1]; exact Keeps.alloc _ _
  have r1 := HR.out.2.keeps k1
  have rz : Row W1 W0.heap.size 25 #[.int .i64 0, .string ⟨#[]⟩, .int .i64 0, .int .i64 0, .string ⟨#[]⟩, .string ⟨#[]⟩, .int .i64 0, .bool false, .int .i64 0] := by rw [← hW1]; exact Row.new _ _ _
  obtain ⟨z, hz⟩ : ∃ z, W0.heap.size = z := ⟨_, rfl⟩
  have hz2 : w.heap.size ≤ z := by rw [← hz]; exact HR.out.1.size
  rw [hz] at rz
  clear x0 x1 x2 x3 x4 x5 x6 x7 x8
  have x0 := r1.cell 0
  have x1 := r1.cell 1
  have x2 := r1.cell 2
  have x3 := r1.cell 3
  have x4 := r1.cell 4
  have x5 := r1.cell 5
  have x6 := r1.cell 6
  have x7 := r1.cell 7
  have x8 := r1.cell 8
  simp only [List.getElem?_toArray, List.getElem?_cons_zero, List.getElem?_cons_succ] at x0 x1 x2 x3 x4 x5 x6 x7 x8
  have y0 := rz.cell 0
  have y1 := rz.cell 1
  have y2 := rz.cell 2
  have y3 := rz.cell 3
  have y4 := rz.cell 4
  have y5 := rz.cell 5
  have y6 := rz.cell 6
  have y7 := rz.cell 7
  have y8 := rz.cell 8
  simp only [List.getElem?_toArray, List.getElem?_cons_zero, List.getElem?_cons_succ] at y0 y1 y2 y3 y4 y5 y6 y7 y8
  have g0 := rz.frozen 0
  have g1 := rz.frozen 1
  have g2 := rz.frozen 2
  have g3 := rz.frozen 3
  have g4 := rz.frozen 4
  have g5 := rz.frozen 5
  have g6 := rz.frozen 6
  have g7 := rz.frozen 7
  have g8 := rz.frozen 8
  have HZ := Lib.hid (And.intro rz (And.intro (HR.out.1.then_ k1) hz2))
  clear rz r1 k1 hz2
  go_enter Tryz.func73, Tryz.ntmps73
  go_wp2_with fail
  exact has_end HZ.out.1 HZ.out.2.1 HZ.out.2.2 (fun W9 q9 hk => by
    have e0 := q9.cell 0
    have e1 := q9.cell 1
    have e2 := q9.cell 2
    have e3 := q9.cell 3
    have e4 := q9.cell 4
    have e5 := q9.cell 5
    have e6 := q9.cell 6
    have e7 := q9.cell 7
    have e8 := q9.cell 8
    simp only [List.getElem?_toArray, List.getElem?_cons_zero, List.getElem?_cons_succ] at e0 e1 e2 e3 e4 e5 e6 e7 e8
    exact bodyPost_ret (v := .agg #[.int .i64 0, .string ⟨c.toArray⟩, .int .i64 0, .int .i64 id, .string ⟨#[]⟩, .string ⟨#[]⟩, .int .i64 0, .bool false, .int .i64 0]) (by simp [results, Tryz.results73, go_sem, e0, e1, e2, e3, e4, e5, e6, e7, e8]) rfl ⟨by rw [hv.out], hk⟩)
set_option maxRecDepth 100000 in
set_option maxHeartbeats 2000000 in
theorem rcHas5_any (x : Rw) (w : World) : Calls Tryz.prog 76 #[rwV x] w (HasPost w (rcHas 5 x)) := by
  obtain ⟨k, c, seq, id, t, b, q, r, s⟩ := x
  have hv := Lib.hid (show rwV (rcHas 5 ⟨k, c, seq, id, t, b, q, r, s⟩) = .agg #[.int .i64 0, .string ⟨#[]⟩, .int .i64 0, .int .i64 0, .string ⟨t.toArray⟩, .string ⟨b.toArray⟩, .int .i64 q, .bool false, .int .i64 0] from rfl)
  obtain ⟨W0, hW0⟩ : ∃ W0, w.alloc (.cells #[.int .i64 k, .string ⟨c.toArray⟩, .int .i64 seq, .int .i64 id, .string ⟨t.toArray⟩, .string ⟨b.toArray⟩, .int .i64 q, .bool r, .int .i64 s] 25) = W0 := ⟨_, rfl⟩
  have k0 : Keeps w W0 [] := by rw [← hW0]; exact Keeps.alloc _ _
  have r0 : Row W0 w.heap.size 25 #[.int .i64 k, .string ⟨c.toArray⟩, .int .i64 seq, .int .i64 id, .string ⟨t.toArray⟩, .string ⟨b.toArray⟩, .int .i64 q, .bool r, .int .i64 s] := by rw [← hW0]; exact Row.new _ _ _
  have HR := Lib.hid (And.intro k0 r0)
  have x0 := r0.cell 0
  have x1 := r0.cell 1
  have x2 := r0.cell 2
  have x3 := r0.cell 3
  have x4 := r0.cell 4
  have x5 := r0.cell 5
  have x6 := r0.cell 6
  have x7 := r0.cell 7
  have x8 := r0.cell 8
  simp only [List.getElem?_toArray, List.getElem?_cons_zero, List.getElem?_cons_succ] at x0 x1 x2 x3 x4 x5 x6 x7 x8
  clear k0 r0
  obtain ⟨W1, hW1⟩ : ∃ W1, W0.alloc (.cells #[.int .i64 0, .string ⟨#[]⟩, .int .i64 0, .int .i64 0, .string ⟨#[]⟩, .string ⟨#[]⟩, .int .i64 0, .bool false, .int .i64 0] 25) = W1 := ⟨_, rfl⟩
  have k1 : Keeps W0 W1 [] := by rw [← hW1]; exact Keeps.alloc _ _
  have r1 := HR.out.2.keeps k1
  have rz : Row W1 W0.heap.size 25 #[.int .i64 0, .string ⟨#[]⟩, .int .i64 0, .int .i64 0, .string ⟨#[]⟩, .string ⟨#[]⟩, .int .i64 0, .bool false, .int .i64 0] := by rw [← hW1]; exact Row.new _ _ _
  obtain ⟨z, hz⟩ : ∃ z, W0.heap.size = z := ⟨_, rfl⟩
  have hz2 : w.heap.size ≤ z := by rw [← hz]; exact HR.out.1.size
  rw [hz] at rz
  clear x0 x1 x2 x3 x4 x5 x6 x7 x8
  have x0 := r1.cell 0
  have x1 := r1.cell 1
  have x2 := r1.cell 2
  have x3 := r1.cell 3
  have x4 := r1.cell 4
  have x5 := r1.cell 5
  have x6 := r1.cell 6
  have x7 := r1.cell 7
  have x8 := r1.cell 8
  simp only [List.getElem?_toArray, List.getElem?_cons_zero, List.getElem?_cons_succ] at x0 x1 x2 x3 x4 x5 x6 x7 x8
  have y0 := rz.cell 0
  have y1 := rz.cell 1
  have y2 := rz.cell 2
  have y3 := rz.cell 3
  have y4 := rz.cell 4
  have y5 := rz.cell 5
  have y6 := rz.cell 6
  have y7 := rz.cell 7
  have y8 := rz.cell 8
  simp only [List.getElem?_toArray, List.getElem?_cons_zero, List.getElem?_cons_succ] at y0 y1 y2 y3 y4 y5 y6 y7 y8
  have g0 := rz.frozen 0
  have g1 := rz.frozen 1
  have g2 := rz.frozen 2
  have g3 := rz.frozen 3
  have g4 := rz.frozen 4
  have g5 := rz.frozen 5
  have g6 := rz.frozen 6
  have g7 := rz.frozen 7
  have g8 := rz.frozen 8
  have HZ := Lib.hid (And.intro rz (And.intro (HR.out.1.then_ k1) hz2))
  clear rz r1 k1 hz2
  go_enter Tryz.func76, Tryz.ntmps76
  go_wp2_with fail
  exact has_end HZ.out.1 HZ.out.2.1 HZ.out.2.2 (fun W9 q9 hk => by
    have e0 := q9.cell 0
    have e1 := q9.cell 1
    have e2 := q9.cell 2
    have e3 := q9.cell 3
    have e4 := q9.cell 4
    have e5 := q9.cell 5
    have e6 := q9.cell 6
    have e7 := q9.cell 7
    have e8 := q9.cell 8
    simp only [List.getElem?_toArray, List.getElem?_cons_zero, List.getElem?_cons_succ] at e0 e1 e2 e3 e4 e5 e6 e7 e8
    exact bodyPost_ret (v := .agg #[.int .i64 0, .string ⟨#[]⟩, .int .i64 0, .int .i64 0, .string ⟨t.toArray⟩, .string ⟨b.toArray⟩, .int .i64 q, .bool false, .int .i64 0]) (by simp [results, Tryz.results76, go_sem, e0, e1, e2, e3, e4, e5, e6, e7, e8]) rfl ⟨by rw [hv.out], hk⟩)
end Go.Proofs.YtfglgeoookbppaaGreatDoor
