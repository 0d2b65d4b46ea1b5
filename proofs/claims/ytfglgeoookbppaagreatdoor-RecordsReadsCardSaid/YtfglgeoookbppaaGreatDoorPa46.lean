/- The law RecordsReads. -/
import Derived.Test.YtfglgeoookbppaaGreatDoorPa28
import Derived.Test.YtfglgeoookbppaaGreatDoorPa32
import Derived.Test.YtfglgeoookbppaaGreatDoorPa43
import Derived.Test.YtfglgeoookbppaaGreatDoorPa23
import Derived.Test.YtfglgeoookbppaaGreatDoorPa45

namespace Go.Proofs.YtfglgeoookbppaaGreatDoor
open Go.RowKit Go.Shelf

theorem few_tb2 {x : Rw} (h : rcFew x = true) : x.t.length ≤ 3000 ∧ x.b.length ≤ 3000 := by
 unfold rcFew at h
 simp only [Bool.and_eq_true, decide_eq_true_eq] at h
 exact h.2
/-- What is read is small. -/
theorem rv_small {T K V : List UInt8} {y : Rw} {q : Int} (h : RvIs T K V y q) (hV : V.length ≤ 40000) : y.Small := by
 have h1 := rcVal_length y
 rw [h.val] at h1
 obtain ⟨g1, g2, _⟩ := rc_keyIs h.fits
 have hk := rc_key h.fits
 refine ⟨?_, by omega, by omega⟩
 rw [← g2]
 unfold rcCl
 split
 ·rename_i p hp
  have := hk.s p (List.mem_of_find?_eq_some hp)
  omega
 ·exact Nat.zero_le _
set_option maxRecDepth 100000 in
set_option maxHeartbeats 8000000 in
theorem recordsReads_any (x : Rw) (b0 b1 b2 : Int) (T : List UInt8) (w : World) (hm : MaxL w) (hb1 : -9223372036854775808 ≤ b1 ∧ b1 ≤ 9223372036854775807) : Calls Tryz.prog 5 #[rwV x, .agg #[.int .i64 b0, .int .i64 b1, .int .i64 b2], .string ⟨T.toArray⟩] w (TruePost w true) := by
 have HM := Lib.hid hm
 have C1 := Lib.hid (fun w => rcFew_any x w)
 clear hm
 have HB := Lib.hid hb1
 clear hb1
 cases hf : rcFew x with
 | false =>
  rw [hf] at C1
  clear hf
  obtain ⟨k, c, seq, id, t, b, q, r, s⟩ := x
  obtain ⟨W1, hW1⟩ : ∃ W1, (w.alloc (.cells #[.int .i64 k, .string ⟨c.toArray⟩, .int .i64 seq, .int .i64 id, .string ⟨t.toArray⟩, .string ⟨b.toArray⟩, .int .i64 q, .bool r, .int .i64 s] 25)).alloc (.cells #[.int .i64 b0, .int .i64 b1, .int .i64 b2] 36) = W1 := ⟨_, rfl⟩
  have k1 : Keeps w W1 [] := by rw [← hW1]; exact (Keeps.alloc _ _).then_alloc _
  have r1 : Row W1 w.heap.size 25 #[.int .i64 k, .string ⟨c.toArray⟩, .int .i64 seq, .int .i64 id, .string ⟨t.toArray⟩, .string ⟨b.toArray⟩, .int .i64 q, .bool r, .int .i64 s] := by rw [← hW1]; exact (Row.new _ _ _).alloc _
  have r2 : Row W1 (w.heap.size + 1) 36 #[.int .i64 b0, .int .i64 b1, .int .i64 b2] := by
   rw [← hW1]
   have := Row.new (w.alloc (.cells #[.int .i64 k, .string ⟨c.toArray⟩, .int .i64 seq, .int .i64 id, .string ⟨t.toArray⟩, .string ⟨b.toArray⟩, .int .i64 q, .bool r, .int .i64 s] 25)) 36 #[.int .i64 b0, .int .i64 b1, .int .i64 b2]
   rwa [World.size_alloc] at this
  have HR := Lib.hid (And.intro k1 (And.intro r1 r2))
  clear k1 r1 r2
  have rx := HR.out.2.1
  have rz := HR.out.2.2
  have x0 := rx.cell 0
  have x1 := rx.cell 1
  have x2 := rx.cell 2
  have x3 := rx.cell 3
  have x4 := rx.cell 4
  have x5 := rx.cell 5
  have x6 := rx.cell 6
  have x7 := rx.cell 7
  have x8 := rx.cell 8
  simp only [List.getElem?_toArray, List.getElem?_cons_zero, List.getElem?_cons_succ] at x0 x1 x2 x3 x4 x5 x6 x7 x8
  have z0 := rz.cell 0
  have z1 := rz.cell 1
  have z2 := rz.cell 2
  simp only [List.getElem?_toArray, List.getElem?_cons_zero, List.getElem?_cons_succ] at z0 z1 z2
  clear rx rz
  go_enter Tryz.func5, Tryz.ntmps5
  go_wp2_with fail
  clear hW1
  refine (C1.out _).mono ?_
  rintro e w9 ⟨rfl, hk⟩
  replace HR := Lib.hid (And.intro (HR.out.1.then_ hk) (And.intro (HR.out.2.1.keeps hk) (HR.out.2.2.keeps hk)))
  clear hk
  clear x0 x1 x2 x3 x4 x5 x6 x7 x8 z0 z1 z2
  have rx := HR.out.2.1
  have rz := HR.out.2.2
  have x0 := rx.cell 0
  have x1 := rx.cell 1
  have x2 := rx.cell 2
  have x3 := rx.cell 3
  have x4 := rx.cell 4
  have x5 := rx.cell 5
  have x6 := rx.cell 6
  have x7 := rx.cell 7
  have x8 := rx.cell 8
  simp only [List.getElem?_toArray, List.getElem?_cons_zero, List.getElem?_cons_succ] at x0 x1 x2 x3 x4 x5 x6 x7 x8
  have z0 := rz.cell 0
  have z1 := rz.cell 1
  have z2 := rz.cell 2
  simp only [List.getElem?_toArray, List.getElem?_cons_zero, List.getElem?_cons_succ] at z0 z1 z2
  clear rx rz
  go_wp2_with fail
  clear x0 x1 x2 x3 x4 x5 x6 x7 x8 z0 z1 z2
  refine (known19_any _ (HM.out.keeps HR.out.1)).mono ?_
  rintro e w9 ⟨rfl, hk⟩
  have HK := Lib.hid (HR.out.1.then_ hk)
  clear hk
  go_wp2_with fail
  go_ret
  exact ⟨rfl, HK.out⟩
 | true =>
  rw [hf] at C1
  have hsm := small_few hf
  have hfl := few_tb2 hf
  have C5 := Lib.hid (show ∀ (p : Int) w, Calls Tryz.prog 14 #[rwV x, .int .i64 p] w (fun e w' => e = .returned (.tuple #[.string ⟨(rcKeyS x p).toArray⟩, .bool (rcFits x p)]) ∧ Keeps w w' []) from fun p w => rrKey_any x p w hsm)
  by_cases hT : (T.length : Int) > 100
  ·clear hf hsm hfl C5
   obtain ⟨k, c, seq, id, t, b, q, r, s⟩ := x
   have dT : decide ((T.length : Int) > 100) = true := decide_eq_true hT
   obtain ⟨W1, hW1⟩ : ∃ W1, (w.alloc (.cells #[.int .i64 k, .string ⟨c.toArray⟩, .int .i64 seq, .int .i64 id, .string ⟨t.toArray⟩, .string ⟨b.toArray⟩, .int .i64 q, .bool r, .int .i64 s] 25)).alloc (.cells #[.int .i64 b0, .int .i64 b1, .int .i64 b2] 36) = W1 := ⟨_, rfl⟩
   have k1 : Keeps w W1 [] := by rw [← hW1]; exact (Keeps.alloc _ _).then_alloc _
   have r1 : Row W1 w.heap.size 25 #[.int .i64 k, .string ⟨c.toArray⟩, .int .i64 seq, .int .i64 id, .string ⟨t.toArray⟩, .string ⟨b.toArray⟩, .int .i64 q, .bool r, .int .i64 s] := by rw [← hW1]; exact (Row.new _ _ _).alloc _
   have r2 : Row W1 (w.heap.size + 1) 36 #[.int .i64 b0, .int .i64 b1, .int .i64 b2] := by
    rw [← hW1]
    have := Row.new (w.alloc (.cells #[.int .i64 k, .string ⟨c.toArray⟩, .int .i64 seq, .int .i64 id, .string ⟨t.toArray⟩, .string ⟨b.toArray⟩, .int .i64 q, .bool r, .int .i64 s] 25)) 36 #[.int .i64 b0, .int .i64 b1, .int .i64 b2]
    rwa [World.size_alloc] at this
   have HR := Lib.hid (And.intro k1 (And.intro r1 r2))
   clear k1 r1 r2
   have rx := HR.out.2.1
   have rz := HR.out.2.2
   have x0 := rx.cell 0
   have x1 := rx.cell 1
   have x2 := rx.cell 2
   have x3 := rx.cell 3
   have x4 := rx.cell 4
   have x5 := rx.cell 5
   have x6 := rx.cell 6
   have x7 := rx.cell 7
   have x8 := rx.cell 8
   simp only [List.getElem?_toArray, List.getElem?_cons_zero, List.getElem?_cons_succ] at x0 x1 x2 x3 x4 x5 x6 x7 x8
   have z0 := rz.cell 0
   have z1 := rz.cell 1
   have z2 := rz.cell 2
   simp only [List.getElem?_toArray, List.getElem?_cons_zero, List.getElem?_cons_succ] at z0 z1 z2
   clear rx rz
   go_enter Tryz.func5, Tryz.ntmps5
   go_wp2_with fail
   clear hW1
   refine (C1.out _).mono ?_
   rintro e w9 ⟨rfl, hk⟩
   replace HR := Lib.hid (And.intro (HR.out.1.then_ hk) (And.intro (HR.out.2.1.keeps hk) (HR.out.2.2.keeps hk)))
   clear hk
   clear x0 x1 x2 x3 x4 x5 x6 x7 x8 z0 z1 z2
   have rx := HR.out.2.1
   have rz := HR.out.2.2
   have x0 := rx.cell 0
   have x1 := rx.cell 1
   have x2 := rx.cell 2
   have x3 := rx.cell 3
   have x4 := rx.cell 4
   have x5 := rx.cell 5
   have x6 := rx.cell 6
   have x7 := rx.cell 7
   have x8 := rx.cell 8
   simp only [List.getElem?_toArray, List.getElem?_cons_zero, List.getElem?_cons_succ] at x0 x1 x2 x3 x4 x5 x6 x7 x8
   have z0 := rz.cell 0
   have z1 := rz.cell 1
   have z2 := rz.cell 2
   simp only [List.getElem?_toArray, List.getElem?_cons_zero, List.getElem?_cons_succ] at z0 z1 z2
   clear rx rz
   go_wp2_with fail
   clear x0 x1 x2 x3 x4 x5 x6 x7 x8 z0 z1 z2
   refine (known19_any _ (HM.out.keeps HR.out.1)).mono ?_
   rintro e w9 ⟨rfl, hk⟩
   have HK := Lib.hid (HR.out.1.then_ hk)
   clear hk
   go_wp2_with fail
   go_ret
   exact ⟨rfl, HK.out⟩
  ·have dT : decide ((T.length : Int) > 100) = false := decide_eq_false hT
   clear hf hsm
   cases hft : rcFits x (max 0 (min b0 9)) with
   | false =>
    have C6 := Lib.hid (C5.out (max 0 (min b0 9)))
    rw [show rcKeyS x (max 0 (min b0 9)) = [] by unfold rcKeyS; rw [hft]; rfl, hft] at C6
    clear C5 hft hfl
    obtain ⟨k, c, seq, id, t, b, q, r, s⟩ := x
    obtain ⟨W1, hW1⟩ : ∃ W1, (w.alloc (.cells #[.int .i64 k, .string ⟨c.toArray⟩, .int .i64 seq, .int .i64 id, .string ⟨t.toArray⟩, .string ⟨b.toArray⟩, .int .i64 q, .bool r, .int .i64 s] 25)).alloc (.cells #[.int .i64 b0, .int .i64 b1, .int .i64 b2] 36) = W1 := ⟨_, rfl⟩
    have k1 : Keeps w W1 [] := by rw [← hW1]; exact (Keeps.alloc _ _).then_alloc _
    have r1 : Row W1 w.heap.size 25 #[.int .i64 k, .string ⟨c.toArray⟩, .int .i64 seq, .int .i64 id, .string ⟨t.toArray⟩, .string ⟨b.toArray⟩, .int .i64 q, .bool r, .int .i64 s] := by rw [← hW1]; exact (Row.new _ _ _).alloc _
    have r2 : Row W1 (w.heap.size + 1) 36 #[.int .i64 b0, .int .i64 b1, .int .i64 b2] := by
     rw [← hW1]
     have := Row.new (w.alloc (.cells #[.int .i64 k, .string ⟨c.toArray⟩, .int .i64 seq, .int .i64 id, .string ⟨t.toArray⟩, .string ⟨b.toArray⟩, .int .i64 q, .bool r, .int .i64 s] 25)) 36 #[.int .i64 b0, .int .i64 b1, .int .i64 b2]
     rwa [World.size_alloc] at this
    have HR := Lib.hid (And.intro k1 (And.intro r1 r2))
    clear k1 r1 r2
    have rx := HR.out.2.1
    have rz := HR.out.2.2
    have x0 := rx.cell 0
    have x1 := rx.cell 1
    have x2 := rx.cell 2
    have x3 := rx.cell 3
    have x4 := rx.cell 4
    have x5 := rx.cell 5
    have x6 := rx.cell 6
    have x7 := rx.cell 7
    have x8 := rx.cell 8
    simp only [List.getElem?_toArray, List.getElem?_cons_zero, List.getElem?_cons_succ] at x0 x1 x2 x3 x4 x5 x6 x7 x8
    have z0 := rz.cell 0
    have z1 := rz.cell 1
    have z2 := rz.cell 2
    simp only [List.getElem?_toArray, List.getElem?_cons_zero, List.getElem?_cons_succ] at z0 z1 z2
    clear rx rz
    go_enter Tryz.func5, Tryz.ntmps5
    go_wp2_with fail
    clear hW1
    refine (C1.out _).mono ?_
    rintro e w9 ⟨rfl, hk⟩
    replace HR := Lib.hid (And.intro (HR.out.1.then_ hk) (And.intro (HR.out.2.1.keeps hk) (HR.out.2.2.keeps hk)))
    clear hk
    clear x0 x1 x2 x3 x4 x5 x6 x7 x8 z0 z1 z2
    have rx := HR.out.2.1
    have rz := HR.out.2.2
    have x0 := rx.cell 0
    have x1 := rx.cell 1
    have x2 := rx.cell 2
    have x3 := rx.cell 3
    have x4 := rx.cell 4
    have x5 := rx.cell 5
    have x6 := rx.cell 6
    have x7 := rx.cell 7
    have x8 := rx.cell 8
    simp only [List.getElem?_toArray, List.getElem?_cons_zero, List.getElem?_cons_succ] at x0 x1 x2 x3 x4 x5 x6 x7 x8
    have z0 := rz.cell 0
    have z1 := rz.cell 1
    have z2 := rz.cell 2
    simp only [List.getElem?_toArray, List.getElem?_cons_zero, List.getElem?_cons_succ] at z0 z1 z2
    clear rx rz
    go_wp2_with fail
    refine (C6.out _).mono ?_
    rintro e w9 ⟨rfl, hk⟩
    replace HR := Lib.hid (And.intro (HR.out.1.then_ hk) (And.intro (HR.out.2.1.keeps hk) (HR.out.2.2.keeps hk)))
    clear hk
    clear x0 x1 x2 x3 x4 x5 x6 x7 x8 z0 z1 z2
    have rx := HR.out.2.1
    have rz := HR.out.2.2
    have x0 := rx.cell 0
    have x1 := rx.cell 1
    have x2 := rx.cell 2
    have x3 := rx.cell 3
    have x4 := rx.cell 4
    have x5 := rx.cell 5
    have x6 := rx.cell 6
    have x7 := rx.cell 7
    have x8 := rx.cell 8
    simp only [List.getElem?_toArray, List.getElem?_cons_zero, List.getElem?_cons_succ] at x0 x1 x2 x3 x4 x5 x6 x7 x8
    have z0 := rz.cell 0
    have z1 := rz.cell 1
    have z2 := rz.cell 2
    simp only [List.getElem?_toArray, List.getElem?_cons_zero, List.getElem?_cons_succ] at z0 z1 z2
    clear rx rz
    go_wp2_with fail
    clear x0 x1 x2 x3 x4 x5 x6 x7 x8 z0 z1 z2
    refine (known19_any _ (HM.out.keeps HR.out.1)).mono ?_
    rintro e w9 ⟨rfl, hk⟩
    have HK := Lib.hid (HR.out.1.then_ hk)
    clear hk
    go_wp2_with fail
    go_ret
    exact ⟨rfl, HK.out⟩
   | true =>
    have C6 := Lib.hid (C5.out (max 0 (min b0 9)))
    rw [show rcKeyS x (max 0 (min b0 9)) = kRaw (rcKeyL x (max 0 (min b0 9))) by unfold rcKeyS; rw [if_pos hft], hft] at C6
    have C8 := Lib.hid (show ∀ w, Calls Tryz.prog 15 #[rwV x] w (fun e w' => e = .returned (.string ⟨(rcVal x).toArray⟩) ∧ Keeps w w' []) from fun w => rrValue_any x w (rcFits_ok hft) (by omega))
    have HXL := Lib.hid (show (rcVal x).length ≤ 7000 from by rw [rcVal_length]; omega)
    have HXK := Lib.hid (show (kRaw (rcKeyL x (max 0 (min b0 9)))).length ≤ 48 from (rc_key hft).len)
    obtain ⟨K, hKe⟩ : ∃ K, kRaw (rcKeyL x (max 0 (min b0 9))) = K := ⟨_, rfl⟩
    obtain ⟨V, hVe⟩ : ∃ V, rcVal x = V := ⟨_, rfl⟩
    rw [hKe] at C6 HXK
    rw [hVe] at C8 HXL
    clear C5 hft hfl hKe hVe
    obtain ⟨k, c, seq, id, t, b, q, r, s⟩ := x
    obtain ⟨W1, hW1⟩ : ∃ W1, (w.alloc (.cells #[.int .i64 k, .string ⟨c.toArray⟩, .int .i64 seq, .int .i64 id, .string ⟨t.toArray⟩, .string ⟨b.toArray⟩, .int .i64 q, .bool r, .int .i64 s] 25)).alloc (.cells #[.int .i64 b0, .int .i64 b1, .int .i64 b2] 36) = W1 := ⟨_, rfl⟩
    have k1 : Keeps w W1 [] := by rw [← hW1]; exact (Keeps.alloc _ _).then_alloc _
    have r1 : Row W1 w.heap.size 25 #[.int .i64 k, .string ⟨c.toArray⟩, .int .i64 seq, .int .i64 id, .string ⟨t.toArray⟩, .string ⟨b.toArray⟩, .int .i64 q, .bool r, .int .i64 s] := by rw [← hW1]; exact (Row.new _ _ _).alloc _
    have r2 : Row W1 (w.heap.size + 1) 36 #[.int .i64 b0, .int .i64 b1, .int .i64 b2] := by
     rw [← hW1]
     have := Row.new (w.alloc (.cells #[.int .i64 k, .string ⟨c.toArray⟩, .int .i64 seq, .int .i64 id, .string ⟨t.toArray⟩, .string ⟨b.toArray⟩, .int .i64 q, .bool r, .int .i64 s] 25)) 36 #[.int .i64 b0, .int .i64 b1, .int .i64 b2]
     rwa [World.size_alloc] at this
    have HR := Lib.hid (And.intro k1 (And.intro r1 r2))
    clear k1 r1 r2
    have rx := HR.out.2.1
    have rz := HR.out.2.2
    have x0 := rx.cell 0
    have x1 := rx.cell 1
    have x2 := rx.cell 2
    have x3 := rx.cell 3
    have x4 := rx.cell 4
    have x5 := rx.cell 5
    have x6 := rx.cell 6
    have x7 := rx.cell 7
    have x8 := rx.cell 8
    simp only [List.getElem?_toArray, List.getElem?_cons_zero, List.getElem?_cons_succ] at x0 x1 x2 x3 x4 x5 x6 x7 x8
    have z0 := rz.cell 0
    have z1 := rz.cell 1
    have z2 := rz.cell 2
    simp only [List.getElem?_toArray, List.getElem?_cons_zero, List.getElem?_cons_succ] at z0 z1 z2
    clear rx rz
    go_enter Tryz.func5, Tryz.ntmps5
    go_wp2_with fail
    clear hW1
    refine (C1.out _).mono ?_
    rintro e w9 ⟨rfl, hk⟩
    replace HR := Lib.hid (And.intro (HR.out.1.then_ hk) (And.intro (HR.out.2.1.keeps hk) (HR.out.2.2.keeps hk)))
    clear hk
    clear x0 x1 x2 x3 x4 x5 x6 x7 x8 z0 z1 z2
    have rx := HR.out.2.1
    have rz := HR.out.2.2
    have x0 := rx.cell 0
    have x1 := rx.cell 1
    have x2 := rx.cell 2
    have x3 := rx.cell 3
    have x4 := rx.cell 4
    have x5 := rx.cell 5
    have x6 := rx.cell 6
    have x7 := rx.cell 7
    have x8 := rx.cell 8
    simp only [List.getElem?_toArray, List.getElem?_cons_zero, List.getElem?_cons_succ] at x0 x1 x2 x3 x4 x5 x6 x7 x8
    have z0 := rz.cell 0
    have z1 := rz.cell 1
    have z2 := rz.cell 2
    simp only [List.getElem?_toArray, List.getElem?_cons_zero, List.getElem?_cons_succ] at z0 z1 z2
    clear rx rz
    go_wp2_with fail
    refine (C6.out _).mono ?_
    rintro e w2 ⟨rfl, hk⟩
    replace HR := Lib.hid (And.intro (HR.out.1.then_ hk) (And.intro (HR.out.2.1.keeps hk) (HR.out.2.2.keeps hk)))
    clear hk hT dT
    clear x0 x1 x2 x3 x4 x5 x6 x7 x8 z0 z1 z2
    obtain ⟨ck, Wk, hcv, hck, kk, rk⟩ := conv_by4 w2 K
    obtain ⟨bk, hbk⟩ : ∃ bk, w2.heap.size = bk := ⟨_, rfl⟩
    have hb2 : w.heap.size + 1 < bk := by have := HR.out.2.2.lt; omega
    rw [hbk] at hcv rk
    replace HR := Lib.hid (And.intro (HR.out.1.then_ kk) (And.intro (HR.out.2.1.keeps kk) (HR.out.2.2.keeps kk)))
    have rx := HR.out.2.1
    have rz := HR.out.2.2
    have x0 := rx.cell 0
    have x1 := rx.cell 1
    have x2 := rx.cell 2
    have x3 := rx.cell 3
    have x4 := rx.cell 4
    have x5 := rx.cell 5
    have x6 := rx.cell 6
    have x7 := rx.cell 7
    have x8 := rx.cell 8
    simp only [List.getElem?_toArray, List.getElem?_cons_zero, List.getElem?_cons_succ] at x0 x1 x2 x3 x4 x5 x6 x7 x8
    have z0 := rz.cell 0
    have z1 := rz.cell 1
    have z2 := rz.cell 2
    simp only [List.getElem?_toArray, List.getElem?_cons_zero, List.getElem?_cons_succ] at z0 z1 z2
    clear rx rz
    have RK := Lib.hid rk
    clear kk rk hbk
    go_wp2_with fail
    refine (C8.out _).mono ?_
    rintro e w3 ⟨rfl, hk⟩
    replace HR := Lib.hid (And.intro (HR.out.1.then_ hk) (And.intro (HR.out.2.1.keeps hk) (HR.out.2.2.keeps hk)))
    replace RK := Lib.hid (RK.out.keep hk (by simp))
    clear hk hcv
    clear x0 x1 x2 x3 x4 x5 x6 x7 x8 z0 z1 z2
    obtain ⟨cv, Wv, hcv, hcvl, kv, rv⟩ := conv_by4 w3 V
    obtain ⟨bv, hbv⟩ : ∃ bv, w3.heap.size = bv := ⟨_, rfl⟩
    have hne : bk < bv := by have := RK.out.lt; omega
    rw [hbv] at hcv rv
    replace HR := Lib.hid (And.intro (HR.out.1.then_ kv) (And.intro (HR.out.2.1.keeps kv) (HR.out.2.2.keeps kv)))
    replace RK := Lib.hid (RK.out.keep kv (by simp))
    have RV := Lib.hid rv
    have rx := HR.out.2.1
    have rz := HR.out.2.2
    have x0 := rx.cell 0
    have x1 := rx.cell 1
    have x2 := rx.cell 2
    have x3 := rx.cell 3
    have x4 := rx.cell 4
    have x5 := rx.cell 5
    have x6 := rx.cell 6
    have x7 := rx.cell 7
    have x8 := rx.cell 8
    simp only [List.getElem?_toArray, List.getElem?_cons_zero, List.getElem?_cons_succ] at x0 x1 x2 x3 x4 x5 x6 x7 x8
    have z0 := rz.cell 0
    have z1 := rz.cell 1
    have z2 := rz.cell 2
    simp only [List.getElem?_toArray, List.getElem?_cons_zero, List.getElem?_cons_succ] at z0 z1 z2
    clear rx rz
    clear kv rv hbv
    go_upto_region 7 with fail
    clear hcv
    obtain ⟨B1, hB1⟩ : ∃ B1, decide (0 ≤ b1 ∧ b1 < K.length) = B1 := ⟨_, rfl⟩
    go_cut [51] from 42 (fun v wx => v = .bool B1 ∧ wx = Wv)
    case first =>
     by_cases h1 : 0 ≤ b1
     ·have d1 : decide (b1 ≥ 0) = true := decide_eq_true h1
      obtain ⟨B2, hB2⟩ : ∃ B2, decide (b1 < (K.length : Int)) = B2 := ⟨_, rfl⟩
      have e : B1 = B2 := by rw [← hB1, ← hB2]; simp [h1]
      clear hB1
      subst e
      go_wp2_with fail
      go_meet
      case rel => exact ⟨rfl, rfl⟩
     ·have d1 : decide (b1 ≥ 0) = false := decide_eq_false h1
      have e : B1 = false := by rw [← hB1]; simp [h1]
      clear hB1
      subst e
      go_wp2_with fail
      go_meet
      case rel => exact ⟨rfl, rfl⟩
    case rest =>
     obtain ⟨rfl, hw⟩ := hcut
     obtain ⟨Wx, hx⟩ : ∃ x, x = Wv := ⟨_, rfl⟩
     rw [← hx] at HR RK RV hw
     rw [hw]
     clear hw hx
     clear x0 x1 x2 x3 x4 x5 x6 x7 x8 z0 z1 z2
     go_upto_if 51 with fail
     go_cut [] from 52 (fun wx => Hid ((∃ K' V' : List UInt8, K'.length = K.length ∧ V'.length = V.length ∧ CvRow wx bk K' ∧ CvRow wx bv V') ∧ Keeps w wx [] ∧ Row wx w.heap.size 25 #[.int .i64 k, .string ⟨c.toArray⟩, .int .i64 seq, .int .i64 id, .string ⟨t.toArray⟩, .string ⟨b.toArray⟩, .int .i64 q, .bool r, .int .i64 s] ∧ Row wx (w.heap.size + 1) 36 #[.int .i64 b0, .int .i64 b1, .int .i64 b2]))
     case first =>
      cases B1 with
      | true =>
       have h12 : 0 ≤ b1 ∧ b1 < K.length := of_decide_eq_true hB1
       clear hB1
       obtain ⟨i, hi⟩ : ∃ i : Nat, b1 = i := ⟨b1.toNat, by omega⟩
       subst hi
       have hi : i < K.length := by omega
       clear h12
       go_upto_region 8 with fail
       obtain ⟨c0, hc0, hcw, hcw2⟩ := u8_byte b2
       obtain ⟨y, hy⟩ := xor_some K[i] c0 hc0
       have MB1 := fun (W' : World) (hW : Keeps Wx W' []) => (HR.out.2.2.keeps hW).cell 1
       have MB2 := fun (W' : World) (hW : Keeps Wx W' []) => (HR.out.2.2.keeps hW).cell 2
       have MK := fun (W' : World) (hW : Keeps Wx W' []) => (RK.out.keep hW (by simp)).cell hi
       have HRK := RK
       simp only [List.getElem?_toArray, List.getElem?_cons_zero, List.getElem?_cons_succ] at MB1 MB2
       unfold byteV at MK
       generalize K[i] = y0 at MK hy
       clear hc0
       refine wp_region_tail KeepsAll _ 10 (by kernel_rfl) rfl (by kernel_rfl) (fun _ => Keeps.refl _ _) (fun _ _ _ h k => h.trans k (by simp)) (Keeps.drew _) ?_
       simp only [List.take_succ_cons, List.take_zero, List.drop_succ_cons, List.drop_zero]
       apply loose_is
       ·intro W vals hW hkn
        clear hkn
        refine ⟨?_⟩
        simp only [fill]
        go_simp
        first | exact ⟨Keeps.refl _ _, rfl⟩ | exact ⟨Keeps.alloc _ _, rfl⟩
       simp only [addEnt]
       apply loose_is
       ·intro W vals hW hkn
        clear hkn
        refine ⟨?_⟩
        simp only [fill]
        go_simp
        first | exact ⟨Keeps.refl _ _, rfl⟩ | exact ⟨Keeps.alloc _ _, rfl⟩
       simp only [addEnt]
       apply loose_is
       ·intro W vals hW hkn
        simp only [knows] at hkn
        try simp only [and_true] at hkn
        clear hkn; have m := MB1 W hW
        refine ⟨?_⟩
        simp only [fill]
        go_simp
        first | exact ⟨Keeps.refl _ _, rfl⟩ | exact ⟨Keeps.alloc _ _, rfl⟩
       simp only [addEnt]
       apply loose_is
       ·intro W vals hW hkn
        clear hkn
        refine ⟨?_⟩
        simp only [fill]
        go_simp
        first | exact ⟨Keeps.refl _ _, rfl⟩ | exact ⟨Keeps.alloc _ _, rfl⟩
       simp only [addEnt]
       apply loose_is
       ·intro W vals hW hkn
        simp only [knows] at hkn
        try simp only [and_true] at hkn
        clear hkn; have m := MK W hW
        refine ⟨?_⟩
        simp only [fill]
        go_simp
        first | exact ⟨Keeps.refl _ _, rfl⟩ | exact ⟨Keeps.alloc _ _, rfl⟩
       simp only [addEnt]
       apply loose_is
       ·intro W vals hW hkn
        clear hkn
        refine ⟨?_⟩
        simp only [fill]
        go_simp
        first | exact ⟨Keeps.refl _ _, rfl⟩ | exact ⟨Keeps.alloc _ _, rfl⟩
       simp only [addEnt]
       apply loose_is
       ·intro W vals hW hkn
        simp only [knows] at hkn
        try simp only [and_true] at hkn
        clear hkn; have m := MB2 W hW
        refine ⟨?_⟩
        simp only [fill]
        go_simp
        first | exact ⟨Keeps.refl _ _, rfl⟩ | exact ⟨Keeps.alloc _ _, rfl⟩
       simp only [addEnt]
       apply loose_is
       ·intro W vals hW hkn
        clear hkn
        refine ⟨?_⟩
        simp only [fill]
        go_simp
        first | exact ⟨Keeps.refl _ _, rfl⟩ | exact ⟨Keeps.alloc _ _, rfl⟩
       simp only [addEnt]
       apply loose_is
       ·intro W vals hW hkn
        clear hkn
        refine ⟨?_⟩
        simp only [fill]
        go_simp
        first | exact ⟨Keeps.refl _ _, rfl⟩ | exact ⟨Keeps.alloc _ _, rfl⟩
       simp only [addEnt]
       apply loose_is
       ·intro W vals hW hkn
        clear hkn
        refine ⟨?_⟩
        simp only [fill]
        go_simp
        first | exact ⟨Keeps.refl _ _, rfl⟩ | exact ⟨Keeps.alloc _ _, rfl⟩
       simp only [addEnt]
       refine loose_nil (fun W vals hW hkn => ?_)
       simp only [knowsAll] at hkn
       try simp only [and_true] at hkn
       simp only [fill, Act.put, List.setIfInBounds_toArray, List.set_cons_succ, List.set_cons_zero]
       clear hkn
       have cy := MK W hW
       have fy := (RK.out.keep hW (by simp)).frozen hi
       have hks : Keeps W (W.setCell ⟨bk, i, none⟩ (byteV y)) [bk] := Keeps.setCell _ _ _
       have HG := Lib.hid (show (∃ K' V' : List UInt8, K'.length = K.length ∧ V'.length = V.length ∧ CvRow (W.setCell ⟨bk, i, none⟩ (byteV y)) bk K' ∧ CvRow (W.setCell ⟨bk, i, none⟩ (byteV y)) bv V') ∧ Keeps w (W.setCell ⟨bk, i, none⟩ (byteV y)) [] ∧ Row (W.setCell ⟨bk, i, none⟩ (byteV y)) w.heap.size 25 #[.int .i64 k, .string ⟨c.toArray⟩, .int .i64 seq, .int .i64 id, .string ⟨t.toArray⟩, .string ⟨b.toArray⟩, .int .i64 q, .bool r, .int .i64 s] ∧ Row (W.setCell ⟨bk, i, none⟩ (byteV y)) (w.heap.size + 1) 36 #[.int .i64 b0, .int .i64 (i : Nat), .int .i64 b2] from ⟨⟨K.set i y, V, by simp, rfl, (RK.out.keep hW (by simp)).set i y, (RV.out.keep hW (by simp)).keep hks (by simp; omega)⟩, (HR.out.1.then_ hW).trans hks (fun z hz hlt => by simp at hz; omega), (HR.out.2.1.keeps hW).keep hks (by simp; omega), (HR.out.2.2.keeps hW).keep hks (by simp; omega)⟩)
       clear MB1 MB2 MK HRK hW hks
       go_wp2_with fail
       go_meet
       case rel => exact HG
      | false =>
       have h12 : ¬ (0 ≤ b1 ∧ b1 < K.length) := of_decide_eq_false hB1
       clear hB1
       have HF := Lib.hid (show (∃ K' V' : List UInt8, K'.length = K.length ∧ V'.length = V.length ∧ CvRow Wx bk K' ∧ CvRow Wx bv V') ∧ _ ∧ _ ∧ _ from ⟨⟨K, V, rfl, rfl, RK.out, RV.out⟩, HR.out⟩)
       have rx := HR.out.2.1
       have rz := HR.out.2.2
       have x0 := rx.cell 0
       have x1 := rx.cell 1
       have x2 := rx.cell 2
       have x3 := rx.cell 3
       have x4 := rx.cell 4
       have x5 := rx.cell 5
       have x6 := rx.cell 6
       have x7 := rx.cell 7
       have x8 := rx.cell 8
       simp only [List.getElem?_toArray, List.getElem?_cons_zero, List.getElem?_cons_succ] at x0 x1 x2 x3 x4 x5 x6 x7 x8
       have z0 := rz.cell 0
       have z1 := rz.cell 1
       have z2 := rz.cell 2
       simp only [List.getElem?_toArray, List.getElem?_cons_zero, List.getElem?_cons_succ] at z0 z1 z2
       clear rx rz
       by_cases h2 : b1 ≥ (K.length : Int)
       ·have d2 : decide (b1 ≥ (K.length : Int)) = true := decide_eq_true h2
        obtain ⟨j, hj⟩ : ∃ j : Nat, b1 - (K.length : Int) = j := ⟨(b1 - K.length).toNat, by omega⟩
        by_cases h3 : j < V.length
        ·have d3 : decide ((j : Int) < (V.length : Int)) = true := by simp; omega
         have hw1 : wrap64 (j : Int) = j := IntWalk.wrap64_in _ (by have := HXL.out; omega)
         have hw2 : IntKind.i64.wrap (j : Int) = j := IntWalk.i64_in _ (by have := HXL.out; omega)
         go_upto_region 10 with fail
         clear x0 x1 x2 x3 x4 x5 x6 x7 x8 z0 z1 z2
         obtain ⟨c0, hc0, hcw, hcw2⟩ := u8_byte b2
         obtain ⟨y, hy⟩ := xor_some V[j] c0 hc0
         have MB1 := fun (W' : World) (hW : Keeps Wx W' []) => (HR.out.2.2.keeps hW).cell 1
         have MB2 := fun (W' : World) (hW : Keeps Wx W' []) => (HR.out.2.2.keeps hW).cell 2
         have MK := fun (W' : World) (hW : Keeps Wx W' []) => (RV.out.keep hW (by simp)).cell h3
         have HRK := RV
         simp only [List.getElem?_toArray, List.getElem?_cons_zero, List.getElem?_cons_succ] at MB1 MB2
         unfold byteV at MK
         generalize V[j] = y0 at MK hy
         clear hc0
         refine wp_region_tail KeepsAll _ 13 (by kernel_rfl) rfl (by kernel_rfl) (fun _ => Keeps.refl _ _) (fun _ _ _ h k => h.trans k (by simp)) (Keeps.drew _) ?_
         simp only [List.take_succ_cons, List.take_zero, List.drop_succ_cons, List.drop_zero]
         apply loose_is
         ·intro W vals hW hkn
          clear hkn
          refine ⟨?_⟩
          simp only [fill]
          go_simp
          first | exact ⟨Keeps.refl _ _, rfl⟩ | exact ⟨Keeps.alloc _ _, rfl⟩
         simp only [addEnt]
         apply loose_is
         ·intro W vals hW hkn
          clear hkn
          refine ⟨?_⟩
          simp only [fill]
          go_simp
          first | exact ⟨Keeps.refl _ _, rfl⟩ | exact ⟨Keeps.alloc _ _, rfl⟩
         simp only [addEnt]
         apply loose_is
         ·intro W vals hW hkn
          simp only [knows] at hkn
          try simp only [and_true] at hkn
          clear hkn; have m := MB1 W hW
          refine ⟨?_⟩
          simp only [fill]
          go_simp
          first | exact ⟨Keeps.refl _ _, rfl⟩ | exact ⟨Keeps.alloc _ _, rfl⟩
         simp only [addEnt]
         apply loose_is
         ·intro W vals hW hkn
          clear hkn
          refine ⟨?_⟩
          simp only [fill]
          go_simp
          first | exact ⟨Keeps.refl _ _, rfl⟩ | exact ⟨Keeps.alloc _ _, rfl⟩
         simp only [addEnt]
         apply loose_is
         ·intro W vals hW hkn
          clear hkn
          refine ⟨?_⟩
          simp only [fill]
          go_simp
          first | exact ⟨Keeps.refl _ _, rfl⟩ | exact ⟨Keeps.alloc _ _, rfl⟩
         simp only [addEnt]
         apply loose_is
         ·intro W vals hW hkn
          clear hkn
          refine ⟨?_⟩
          simp only [fill]
          go_simp
          first | exact ⟨Keeps.refl _ _, rfl⟩ | exact ⟨Keeps.alloc _ _, rfl⟩
         simp only [addEnt]
         apply loose_is
         ·intro W vals hW hkn
          clear hkn
          refine ⟨?_⟩
          simp only [fill]
          go_simp
          first | exact ⟨Keeps.refl _ _, rfl⟩ | exact ⟨Keeps.alloc _ _, rfl⟩
         simp only [addEnt]
         apply loose_is
         ·intro W vals hW hkn
          simp only [knows] at hkn
          try simp only [and_true] at hkn
          clear hkn; have m := MK W hW
          refine ⟨?_⟩
          simp only [fill]
          go_simp
          first | exact ⟨Keeps.refl _ _, rfl⟩ | exact ⟨Keeps.alloc _ _, rfl⟩
         simp only [addEnt]
         apply loose_is
         ·intro W vals hW hkn
          clear hkn
          refine ⟨?_⟩
          simp only [fill]
          go_simp
          first | exact ⟨Keeps.refl _ _, rfl⟩ | exact ⟨Keeps.alloc _ _, rfl⟩
         simp only [addEnt]
         apply loose_is
         ·intro W vals hW hkn
          simp only [knows] at hkn
          try simp only [and_true] at hkn
          clear hkn; have m := MB2 W hW
          refine ⟨?_⟩
          simp only [fill]
          go_simp
          first | exact ⟨Keeps.refl _ _, rfl⟩ | exact ⟨Keeps.alloc _ _, rfl⟩
         simp only [addEnt]
         apply loose_is
         ·intro W vals hW hkn
          clear hkn
          refine ⟨?_⟩
          simp only [fill]
          go_simp
          first | exact ⟨Keeps.refl _ _, rfl⟩ | exact ⟨Keeps.alloc _ _, rfl⟩
         simp only [addEnt]
         apply loose_is
         ·intro W vals hW hkn
          clear hkn
          refine ⟨?_⟩
          simp only [fill]
          go_simp
          first | exact ⟨Keeps.refl _ _, rfl⟩ | exact ⟨Keeps.alloc _ _, rfl⟩
         simp only [addEnt]
         apply loose_is
         ·intro W vals hW hkn
          clear hkn
          refine ⟨?_⟩
          simp only [fill]
          go_simp
          first | exact ⟨Keeps.refl _ _, rfl⟩ | exact ⟨Keeps.alloc _ _, rfl⟩
         simp only [addEnt]
         refine loose_nil (fun W vals hW hkn => ?_)
         simp only [knowsAll] at hkn
         try simp only [and_true] at hkn
         simp only [fill, Act.put, List.setIfInBounds_toArray, List.set_cons_succ, List.set_cons_zero]
         clear hkn
         have cy := MK W hW
         have fy := (RV.out.keep hW (by simp)).frozen h3
         have hks : Keeps W (W.setCell ⟨bv, j, none⟩ (byteV y)) [bv] := Keeps.setCell _ _ _
         have HG := Lib.hid (show (∃ K' V' : List UInt8, K'.length = K.length ∧ V'.length = V.length ∧ CvRow (W.setCell ⟨bv, j, none⟩ (byteV y)) bk K' ∧ CvRow (W.setCell ⟨bv, j, none⟩ (byteV y)) bv V') ∧ Keeps w (W.setCell ⟨bv, j, none⟩ (byteV y)) [] ∧ Row (W.setCell ⟨bv, j, none⟩ (byteV y)) w.heap.size 25 #[.int .i64 k, .string ⟨c.toArray⟩, .int .i64 seq, .int .i64 id, .string ⟨t.toArray⟩, .string ⟨b.toArray⟩, .int .i64 q, .bool r, .int .i64 s] ∧ Row (W.setCell ⟨bv, j, none⟩ (byteV y)) (w.heap.size + 1) 36 #[.int .i64 b0, .int .i64 b1, .int .i64 b2] from ⟨⟨K, V.set j y, rfl, by simp, (RK.out.keep hW (by simp)).keep hks (by simp; omega), (RV.out.keep hW (by simp)).set j y⟩, (HR.out.1.then_ hW).trans hks (fun z hz hlt => by simp at hz; omega), (HR.out.2.1.keeps hW).keep hks (by simp; omega), (HR.out.2.2.keeps hW).keep hks (by simp; omega)⟩)
         clear MB1 MB2 MK HRK hW hks
         go_wp2_with fail
         go_meet
         case rel => exact HG
        ·have d3 : decide ((j : Int) < (V.length : Int)) = false := by simp; omega
         have hw1 : wrap64 (j : Int) = j := by
          have := HB.out
          exact IntWalk.wrap64_in _ (by omega)
         go_wp2_with fail
         go_meet
         case rel => exact HF
       ·have d2 : decide (b1 ≥ (K.length : Int)) = false := decide_eq_false h2
        go_wp2_with fail
        go_meet
        case rel => exact HF
     case rest =>
      obtain ⟨Wy, hy⟩ : ∃ x, x = wc := ⟨_, rfl⟩
      rw [← hy] at hcut ⊢
      clear hy HR RK RV
      obtain ⟨⟨K', V', hK', hV', rk, rv⟩, hr⟩ := hcut.out
      have RK := Lib.hid rk
      have RV := Lib.hid rv
      have HR := Lib.hid hr
      clear hcut rk rv hr
      have hc1 := conv_str Wy _ (some ⟨bk, 0, none⟩) ck K' RK.out.lies
      have hc2 := conv_str Wy _ (some ⟨bv, 0, none⟩) cv V' RV.out.lies
      rw [hK'] at hc1
      rw [hV'] at hc2
      have hKl : K'.length ≤ 48 := by have := HXK.out; omega
      have hVl : V'.length ≤ 7000 := by have := HXL.out; omega
      have CR := Lib.hid (rvRead_any Wy T K' V' (HM.out.keeps HR.out.1) (by omega) (by omega))
      go_wp2_with fail
      refine CR.out.mono ?_
      rintro e w4 ⟨hk, h⟩
      replace HR := Lib.hid (And.intro (HR.out.1.then_ hk) (And.intro (HR.out.2.1.keeps hk) (HR.out.2.2.keeps hk)))
      replace RK := Lib.hid (RK.out.keep hk (by simp))
      replace RV := Lib.hid (RV.out.keep hk (by simp))
      clear hk hc1 hc2 CR
      rcases h with ⟨y, pl, hy, he⟩ | ⟨_, he⟩
      ·have hs := rv_small hy (by omega)
       have hyl := rcVal_length y
       rw [hy.val] at hyl
       have hok := rcFits_ok hy.fits
       have HKY := Lib.hid (show ∀ w, Calls Tryz.prog 14 #[rwV y, .int .i64 pl] w (fun e w' => e = .returned (.tuple #[.string ⟨K'.toArray⟩, .bool true]) ∧ Keeps w w' []) from fun w => by
        have := rrKey_any y pl w hs
        rw [show rcKeyS y pl = K' by unfold rcKeyS; rw [if_pos hy.fits]; exact hy.key, hy.fits] at this
        exact this)
       have HVY := Lib.hid (show ∀ w, Calls Tryz.prog 15 #[rwV y] w (fun e w' => e = .returned (.string ⟨V'.toArray⟩) ∧ Keeps w w' []) from fun w => by
        have := rrValue_any y w hok (by omega)
        rw [hy.val] at this
        exact this)
       have HTY := Lib.hid (show ∀ w, Calls Tryz.prog 17 #[.int .i64 y.k] w (fun e w' => e = .returned (.string ⟨T.toArray⟩) ∧ Keeps w w' []) from fun w => by
        have := rrTree_any y.k w (rcOk_is hok)
        rw [hy.tree] at this
        exact this)
       clear hs hyl hok hy
       obtain ⟨k', c', seq', id', t', b', q', r', s'⟩ := y
       simp only at HTY
       have he2 : e = .returned (.tuple #[.agg #[.int .i64 k', .string ⟨c'.toArray⟩, .int .i64 seq', .int .i64 id', .string ⟨t'.toArray⟩, .string ⟨b'.toArray⟩, .int .i64 q', .bool r', .int .i64 s'], .int .i64 pl, .int .i64 0]) := he
       clear he
       subst he2
       obtain ⟨Wo, hWo⟩ : ∃ Wo, w4.alloc (.cells #[.int .i64 k', .string ⟨c'.toArray⟩, .int .i64 seq', .int .i64 id', .string ⟨t'.toArray⟩, .string ⟨b'.toArray⟩, .int .i64 q', .bool r', .int .i64 s'] 25) = Wo := ⟨_, rfl⟩
       have ko : Keeps w4 Wo [] := by rw [← hWo]; exact Keeps.alloc _ _
       have ry : Row Wo w4.heap.size 25 #[.int .i64 k', .string ⟨c'.toArray⟩, .int .i64 seq', .int .i64 id', .string ⟨t'.toArray⟩, .string ⟨b'.toArray⟩, .int .i64 q', .bool r', .int .i64 s'] := by rw [← hWo]; exact Row.new _ _ _
       replace HR := Lib.hid (And.intro (HR.out.1.then_ ko) (And.intro (HR.out.2.1.keeps ko) (HR.out.2.2.keeps ko)))
       replace RK := Lib.hid (RK.out.keep ko (by simp))
       replace RV := Lib.hid (RV.out.keep ko (by simp))
       have RY := Lib.hid ry
       have y0 := ry.cell 0
       have y1 := ry.cell 1
       have y2 := ry.cell 2
       have y3 := ry.cell 3
       have y4 := ry.cell 4
       have y5 := ry.cell 5
       have y6 := ry.cell 6
       have y7 := ry.cell 7
       have y8 := ry.cell 8
       simp only [List.getElem?_toArray, List.getElem?_cons_zero, List.getElem?_cons_succ] at y0 y1 y2 y3 y4 y5 y6 y7 y8
       clear ko ry
       go_wp2_with fail
       refine (HKY.out _).mono ?_
       rintro e w5 ⟨rfl, hk⟩
       replace HR := Lib.hid (And.intro (HR.out.1.then_ hk) (And.intro (HR.out.2.1.keeps hk) (HR.out.2.2.keeps hk)))
       replace RK := Lib.hid (RK.out.keep hk (by simp))
       replace RV := Lib.hid (RV.out.keep hk (by simp))
       replace RY := Lib.hid (RY.out.keeps hk)
       clear hk y0 y1 y2 y3 y4 y5 y6 y7 y8 hWo HKY
       go_upto_region 15 with fail
       have MK := fun (W' : World) (hW : Keeps w5 W' []) => conv_str W' _ (some ⟨bk, 0, none⟩) ck K' (RK.out.keep hW (by simp)).lies
       have MV := fun (W' : World) (hW : Keeps w5 W' []) => conv_str W' _ (some ⟨bv, 0, none⟩) cv V' (RV.out.keep hW (by simp)).lies
       rw [hK'] at MK
       rw [hV'] at MV
       have M0 := fun (W' : World) (hW : Keeps w5 W' []) => (RY.out.keeps hW).cell 0
       have M1 := fun (W' : World) (hW : Keeps w5 W' []) => (RY.out.keeps hW).cell 1
       have M2 := fun (W' : World) (hW : Keeps w5 W' []) => (RY.out.keeps hW).cell 2
       have M3 := fun (W' : World) (hW : Keeps w5 W' []) => (RY.out.keeps hW).cell 3
       have M4 := fun (W' : World) (hW : Keeps w5 W' []) => (RY.out.keeps hW).cell 4
       have M5 := fun (W' : World) (hW : Keeps w5 W' []) => (RY.out.keeps hW).cell 5
       have M6 := fun (W' : World) (hW : Keeps w5 W' []) => (RY.out.keeps hW).cell 6
       have M7 := fun (W' : World) (hW : Keeps w5 W' []) => (RY.out.keeps hW).cell 7
       have M8 := fun (W' : World) (hW : Keeps w5 W' []) => (RY.out.keeps hW).cell 8
       simp only [List.getElem?_toArray, List.getElem?_cons_zero, List.getElem?_cons_succ] at M0 M1 M2 M3 M4 M5 M6 M7 M8
       refine wp_region_tail KeepsAll _ 24 (by kernel_rfl) rfl (by kernel_rfl) (fun _ => Keeps.refl _ _) (fun _ _ _ h k => h.trans k (by simp)) (Keeps.drew _) ?_
       simp only [List.take_succ_cons, List.take_zero, List.drop_succ_cons, List.drop_zero]
       apply loose_is
       ·intro W vals hW hkn
        clear hkn
        refine ⟨?_⟩
        simp only [fill]
        go_simp
        first | exact ⟨Keeps.refl _ _, rfl⟩ | exact ⟨Keeps.alloc _ _, rfl⟩
       simp only [addEnt]
       apply loose_is
       ·intro W vals hW hkn
        clear hkn
        refine ⟨?_⟩
        simp only [fill]
        go_simp
        first | exact ⟨Keeps.refl _ _, rfl⟩ | exact ⟨Keeps.alloc _ _, rfl⟩
       simp only [addEnt]
       apply loose_is
       ·intro W vals hW hkn
        clear hkn
        refine ⟨?_⟩
        simp only [fill]
        go_simp
        first | exact ⟨Keeps.refl _ _, rfl⟩ | exact ⟨Keeps.alloc _ _, rfl⟩
       simp only [addEnt]
       apply loose_is
       ·intro W vals hW hkn
        clear hkn
        refine ⟨?_⟩
        simp only [fill]
        go_simp
        first | exact ⟨Keeps.refl _ _, rfl⟩ | exact ⟨Keeps.alloc _ _, rfl⟩
       simp only [addEnt]
       apply loose_is
       ·intro W vals hW hkn
        simp only [knows] at hkn
        try simp only [and_true] at hkn
        clear hkn; have m := MK W hW
        refine ⟨?_⟩
        simp only [fill]
        go_simp
        first | exact ⟨Keeps.refl _ _, rfl⟩ | exact ⟨Keeps.alloc _ _, rfl⟩
       simp only [addEnt]
       apply loose_is
       ·intro W vals hW hkn
        clear hkn
        refine ⟨?_⟩
        simp only [fill]
        go_simp
        first | exact ⟨Keeps.refl _ _, rfl⟩ | exact ⟨Keeps.alloc _ _, rfl⟩
       simp only [addEnt]
       apply loose_is
       ·intro W vals hW hkn
        clear hkn
        refine ⟨?_⟩
        simp only [fill]
        go_simp
        first | exact ⟨Keeps.refl _ _, rfl⟩ | exact ⟨Keeps.alloc _ _, rfl⟩
       simp only [addEnt]
       apply loose_is
       ·intro W vals hW hkn
        clear hkn
        refine ⟨?_⟩
        simp only [fill]
        go_simp
        first | exact ⟨Keeps.refl _ _, rfl⟩ | exact ⟨Keeps.alloc _ _, rfl⟩
       simp only [addEnt]
       apply loose_is
       ·intro W vals hW hkn
        simp only [knows] at hkn
        try simp only [and_true] at hkn
        clear hkn; have m0 := M0 W hW; have m1 := M1 W hW; have m2 := M2 W hW; have m3 := M3 W hW; have m4 := M4 W hW; have m5 := M5 W hW; have m6 := M6 W hW; have m7 := M7 W hW; have m8 := M8 W hW
        refine ⟨?_⟩
        simp only [fill]
        go_simp
        first | exact ⟨Keeps.refl _ _, rfl⟩ | exact ⟨Keeps.alloc _ _, rfl⟩
       simp only [addEnt]
       apply loose_is
       ·intro W vals hW hkn
        clear hkn
        refine ⟨?_⟩
        simp only [fill]
        go_simp
        refine looseUpon_calls ?_
        exact (HVY.out W).mono (by rintro e w3 ⟨rfl, hk⟩; exact ⟨_, rfl, hk, rfl⟩)
       simp only [addEnt]
       apply loose_is
       ·intro W vals hW hkn
        clear hkn
        refine ⟨?_⟩
        simp only [fill]
        go_simp
        first | exact ⟨Keeps.refl _ _, rfl⟩ | exact ⟨Keeps.alloc _ _, rfl⟩
       simp only [addEnt]
       apply loose_is
       ·intro W vals hW hkn
        simp only [knows] at hkn
        try simp only [and_true] at hkn
        clear hkn; have m := MV W hW
        refine ⟨?_⟩
        simp only [fill]
        go_simp
        first | exact ⟨Keeps.refl _ _, rfl⟩ | exact ⟨Keeps.alloc _ _, rfl⟩
       simp only [addEnt]
       apply loose_is
       ·intro W vals hW hkn
        clear hkn
        refine ⟨?_⟩
        simp only [fill]
        go_simp
        first | exact ⟨Keeps.refl _ _, rfl⟩ | exact ⟨Keeps.alloc _ _, rfl⟩
       simp only [addEnt]
       apply loose_is
       ·intro W vals hW hkn
        clear hkn
        refine ⟨?_⟩
        simp only [fill]
        go_simp
        first | exact ⟨Keeps.refl _ _, rfl⟩ | exact ⟨Keeps.alloc _ _, rfl⟩
       simp only [addEnt]
       apply loose_is
       ·intro W vals hW hkn
        clear hkn
        refine ⟨?_⟩
        simp only [fill]
        go_simp
        first | exact ⟨Keeps.refl _ _, rfl⟩ | exact ⟨Keeps.alloc _ _, rfl⟩
       simp only [addEnt]
       apply loose_is
       ·intro W vals hW hkn
        clear hkn
        refine ⟨?_⟩
        simp only [fill]
        go_simp
        first | exact ⟨Keeps.refl _ _, rfl⟩ | exact ⟨Keeps.alloc _ _, rfl⟩
       simp only [addEnt]
       apply loose_is
       ·intro W vals hW hkn
        simp only [knows] at hkn
        try simp only [and_true] at hkn
        clear hkn; have m0 := M0 W hW
        refine ⟨?_⟩
        simp only [fill]
        go_simp
        first | exact ⟨Keeps.refl _ _, rfl⟩ | exact ⟨Keeps.alloc _ _, rfl⟩
       simp only [addEnt]
       apply loose_is
       ·intro W vals hW hkn
        clear hkn
        refine ⟨?_⟩
        simp only [fill]
        go_simp
        refine looseUpon_calls ?_
        exact (HTY.out W).mono (by rintro e w3 ⟨rfl, hk⟩; exact ⟨_, rfl, hk, rfl⟩)
       simp only [addEnt]
       apply loose_is
       ·intro W vals hW hkn
        clear hkn
        refine ⟨?_⟩
        simp only [fill]
        go_simp
        first | exact ⟨Keeps.refl _ _, rfl⟩ | exact ⟨Keeps.alloc _ _, rfl⟩
       simp only [addEnt]
       apply loose_is
       ·intro W vals hW hkn
        clear hkn
        refine ⟨?_⟩
        simp only [fill]
        go_simp
        first | exact ⟨Keeps.refl _ _, rfl⟩ | exact ⟨Keeps.alloc _ _, rfl⟩
       simp only [addEnt]
       apply loose_is
       ·intro W vals hW hkn
        clear hkn
        refine ⟨?_⟩
        simp only [fill]
        go_simp
        first | exact ⟨Keeps.refl _ _, rfl⟩ | exact ⟨Keeps.alloc _ _, rfl⟩
       simp only [addEnt]
       apply loose_is
       ·intro W vals hW hkn
        clear hkn
        refine ⟨?_⟩
        simp only [fill]
        go_simp
        first | exact ⟨Keeps.refl _ _, rfl⟩ | exact ⟨Keeps.alloc _ _, rfl⟩
       simp only [addEnt]
       apply loose_is
       ·intro W vals hW hkn
        clear hkn
        refine ⟨?_⟩
        simp only [fill]
        go_simp
        refine looseUpon_calls ?_
        exact (known19_any W (HM.out.keeps (HR.out.1.then_ hW))).mono (by rintro e w3 ⟨rfl, hk⟩; exact ⟨_, rfl, hk, rfl⟩)
       simp only [addEnt]
       apply loose_is
       ·intro W vals hW hkn
        clear hkn
        refine ⟨?_⟩
        simp only [fill]
        go_simp
        first | exact ⟨Keeps.refl _ _, rfl⟩ | exact ⟨Keeps.alloc _ _, rfl⟩
       simp only [addEnt]
       refine loose_nil (fun W vals hW hkn => ?_)
       simp only [knowsAll] at hkn
       try simp only [and_true] at hkn
       simp only [fill, Act.put, List.setIfInBounds_toArray, List.set_cons_succ, List.set_cons_zero]
       have HK := Lib.hid (HR.out.1.then_ hW)
       clear hkn hW MK MV M0 M1 M2 M3 M4 M5 M6 M7 M8
       go_wp2_with fail
       go_ret
       exact ⟨rfl, HK.out⟩
      ·have he2 : e = .returned (.tuple #[.agg #[.int .i64 0, .string ⟨#[]⟩, .int .i64 0, .int .i64 0, .string ⟨#[]⟩, .string ⟨#[]⟩, .int .i64 0, .bool false, .int .i64 0], .int .i64 0, .int .i64 290]) := he
       clear he
       subst he2
       have ko : Keeps w4 (w4.alloc (.cells #[.int .i64 0, .string ⟨#[]⟩, .int .i64 0, .int .i64 0, .string ⟨#[]⟩, .string ⟨#[]⟩, .int .i64 0, .bool false, .int .i64 0] 25)) [] := Keeps.alloc _ _
       replace HR := Lib.hid (And.intro (HR.out.1.then_ ko) (And.intro (HR.out.2.1.keeps ko) (HR.out.2.2.keeps ko)))
       clear ko
       go_wp2_with fail
       refine (known19_any _ (HM.out.keeps HR.out.1)).mono ?_
       rintro e w9 ⟨rfl, hk⟩
       have HK := Lib.hid (HR.out.1.then_ hk)
       clear hk
       go_wp2_with fail
       go_ret
       exact ⟨rfl, HK.out⟩
end Go.Proofs.YtfglgeoookbppaaGreatDoor
