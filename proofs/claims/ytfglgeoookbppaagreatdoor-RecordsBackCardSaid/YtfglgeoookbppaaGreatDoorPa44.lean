/- The law RecordsBack. -/
import Derived.Test.YtfglgeoookbppaaGreatDoorPa28
import Derived.Test.YtfglgeoookbppaaGreatDoorPa32
import Derived.Test.YtfglgeoookbppaaGreatDoorPa43
import Derived.Test.YtfglgeoookbppaaGreatDoorPa23
import Derived.Test.YtfglgeoookbppaaGreatDoorPa4

namespace Go.Proofs.YtfglgeoookbppaaGreatDoor
open Go.RowKit Go.Shelf

theorem few_tb {x : Rw} (h : rcFew x = true) : x.t.length ≤ 3000 ∧ x.b.length ≤ 3000 := by
 unfold rcFew at h
 simp only [Bool.and_eq_true, decide_eq_true_eq] at h
 exact h.2
set_option maxRecDepth 100000 in
set_option maxHeartbeats 8000000 in
theorem recordsBack_any (x : Rw) (p : Int) (w : World) (hm : MaxL w) (hx1 : -9223372036854775808 ≤ x.k) (hx2 : x.k ≤ 9223372036854775807) : Calls Tryz.prog 6 #[rwV x, .int .i64 p] w (TruePost w true) := by
 have HM := Lib.hid hm
 have C1 := Lib.hid (fun w => rcFew_any x w)
 clear hm
 cases hf : rcFew x with
 | false =>
  rw [hf] at C1
  clear hf hx1 hx2
  obtain ⟨k, c, seq, id, t, b, q, r, s⟩ := x
  obtain ⟨W0, hW0⟩ : ∃ W0, w.alloc (.cells #[.int .i64 k, .string ⟨c.toArray⟩, .int .i64 seq, .int .i64 id, .string ⟨t.toArray⟩, .string ⟨b.toArray⟩, .int .i64 q, .bool r, .int .i64 s] 25) = W0 := ⟨_, rfl⟩
  have k0 : Keeps w W0 [] := by rw [← hW0]; exact Keeps.alloc _ _
  have r0 : Row W0 w.heap.size 25 #[.int .i64 k, .string ⟨c.toArray⟩, .int .i64 seq, .int .i64 id, .string ⟨t.toArray⟩, .string ⟨b.toArray⟩, .int .i64 q, .bool r, .int .i64 s] := by rw [← hW0]; exact Row.new _ _ _
  have HR := Lib.hid (And.intro k0 r0)
  have x0 := r0.cell 0
  have x1 := r0.cell 1
  have x2 := r0.cell 2
  have x3 := r0.cell 3
  have x4 := r0.cell 4
  have x5 := r0.cell 5
  have x6 := r0.cell 6
  have x7 := r0.cell 7
  have x8 := r0.cell 8
  simp only [List.getElem?_toArray, List.getElem?_cons_zero, List.getElem?_cons_succ] at x0 x1 x2 x3 x4 x5 x6 x7 x8
  clear k0 r0
  go_enter Tryz.func6, Tryz.ntmps6
  go_wp2_with fail
  clear hW0
  refine (C1.out _).mono ?_
  rintro e w9 ⟨rfl, hk⟩
  replace HR := Lib.hid (And.intro (HR.out.1.then_ hk) (HR.out.2.keeps hk))
  clear hk x0 x1 x2 x3 x4 x5 x6 x7 x8
  have rx := HR.out.2
  have x0 := rx.cell 0
  have x1 := rx.cell 1
  have x2 := rx.cell 2
  have x3 := rx.cell 3
  have x4 := rx.cell 4
  have x5 := rx.cell 5
  have x6 := rx.cell 6
  have x7 := rx.cell 7
  have x8 := rx.cell 8
  simp only [List.getElem?_toArray, List.getElem?_cons_zero, List.getElem?_cons_succ] at x0 x1 x2 x3 x4 x5 x6 x7 x8
  clear rx
  go_wp2_with fail
  clear x0 x1 x2 x3 x4 x5 x6 x7 x8
  refine (known19_any _ (HM.out.keeps HR.out.1)).mono ?_
  rintro e w9 ⟨rfl, hk⟩
  have HK := Lib.hid (HR.out.1.then_ hk)
  clear hk
  go_wp2_with fail
  go_ret
  exact ⟨rfl, HK.out⟩
 | true =>
  rw [hf] at C1
  have hsm := small_few hf
  have C2 := Lib.hid (show ∀ w, MaxL w → Calls Tryz.prog 11 #[rwV x, .int .i64 p] w (fun e w' => e = .returned (.tuple #[.string ⟨(rcKeyS x p).toArray⟩, .int .i64 (rcKeyE x p)]) ∧ Keeps w w' []) from fun w h => rcKey_any x p w hsm h hx1 hx2)
  have C3 := Lib.hid (show ∀ w, MaxL w → Calls Tryz.prog 18 #[rwV x] w (fun e w' => e = .returned (.tuple #[.string ⟨(rcValS x).toArray⟩, .int .i64 (rcBegE x)]) ∧ Keeps w w' []) from fun w h => rcValue_any x w hsm (few_tb hf) h hx1 hx2)
  have C4 := Lib.hid (show ∀ w, MaxL w → Calls Tryz.prog 12 #[rwV x] w (fun e w' => e = .returned (.tuple #[.string ⟨(rcBegS x).toArray⟩, .int .i64 (rcBegE x)]) ∧ Keeps w w' []) from fun w h => rcBegin_any x w hsm h hx1 hx2)
  have C5 := Lib.hid (show ∀ w, Calls Tryz.prog 14 #[rwV x, .int .i64 p] w (fun e w' => e = .returned (.tuple #[.string ⟨(rcKeyS x p).toArray⟩, .bool (rcFits x p)]) ∧ Keeps w w' []) from fun w => rrKey_any x p w hsm)
  have C6 := Lib.hid (fun w => rrRight_any x w hsm)
  have C7 := Lib.hid (show ∀ w, MaxL w → Calls Tryz.prog 19 #[rwV x] w (fun e w' => e = .returned (.int .i64 (if rcOk x = true then 0 else 2)) ∧ Keeps w w' []) from fun w h => rcCheck_any x w hsm h hx1 hx2)
  cases hok : rcOk x with
  | false =>
   have hft : rcFits x p = false := by unfold rcFits; rw [hok]; rfl
   simp only [rcKeyS, rcKeyE, rcValS, rcBegS, rcBegE, hok, hft, Bool.false_eq_true, if_false] at C2 C3 C4 C5 C6 C7
   clear hok hft hf hx1 hx2 hsm
   obtain ⟨k, c, seq, id, t, b, q, r, s⟩ := x
   obtain ⟨W0, hW0⟩ : ∃ W0, w.alloc (.cells #[.int .i64 k, .string ⟨c.toArray⟩, .int .i64 seq, .int .i64 id, .string ⟨t.toArray⟩, .string ⟨b.toArray⟩, .int .i64 q, .bool r, .int .i64 s] 25) = W0 := ⟨_, rfl⟩
   have k0 : Keeps w W0 [] := by rw [← hW0]; exact Keeps.alloc _ _
   have r0 : Row W0 w.heap.size 25 #[.int .i64 k, .string ⟨c.toArray⟩, .int .i64 seq, .int .i64 id, .string ⟨t.toArray⟩, .string ⟨b.toArray⟩, .int .i64 q, .bool r, .int .i64 s] := by rw [← hW0]; exact Row.new _ _ _
   have HR := Lib.hid (And.intro k0 r0)
   have x0 := r0.cell 0
   have x1 := r0.cell 1
   have x2 := r0.cell 2
   have x3 := r0.cell 3
   have x4 := r0.cell 4
   have x5 := r0.cell 5
   have x6 := r0.cell 6
   have x7 := r0.cell 7
   have x8 := r0.cell 8
   simp only [List.getElem?_toArray, List.getElem?_cons_zero, List.getElem?_cons_succ] at x0 x1 x2 x3 x4 x5 x6 x7 x8
   clear k0 r0
   go_enter Tryz.func6, Tryz.ntmps6
   go_wp2_with fail
   clear hW0
   refine (C1.out _).mono ?_
   rintro e w9 ⟨rfl, hk⟩
   replace HR := Lib.hid (And.intro (HR.out.1.then_ hk) (HR.out.2.keeps hk))
   clear hk x0 x1 x2 x3 x4 x5 x6 x7 x8
   have rx := HR.out.2
   have x0 := rx.cell 0
   have x1 := rx.cell 1
   have x2 := rx.cell 2
   have x3 := rx.cell 3
   have x4 := rx.cell 4
   have x5 := rx.cell 5
   have x6 := rx.cell 6
   have x7 := rx.cell 7
   have x8 := rx.cell 8
   simp only [List.getElem?_toArray, List.getElem?_cons_zero, List.getElem?_cons_succ] at x0 x1 x2 x3 x4 x5 x6 x7 x8
   clear rx
   go_wp2_with fail
   refine (C2.out _ (HM.out.keeps HR.out.1)).mono ?_
   rintro e w9 ⟨rfl, hk⟩
   replace HR := Lib.hid (And.intro (HR.out.1.then_ hk) (HR.out.2.keeps hk))
   clear hk x0 x1 x2 x3 x4 x5 x6 x7 x8
   have rx := HR.out.2
   have x0 := rx.cell 0
   have x1 := rx.cell 1
   have x2 := rx.cell 2
   have x3 := rx.cell 3
   have x4 := rx.cell 4
   have x5 := rx.cell 5
   have x6 := rx.cell 6
   have x7 := rx.cell 7
   have x8 := rx.cell 8
   simp only [List.getElem?_toArray, List.getElem?_cons_zero, List.getElem?_cons_succ] at x0 x1 x2 x3 x4 x5 x6 x7 x8
   clear rx
   go_wp2_with fail
   refine (C3.out _ (HM.out.keeps HR.out.1)).mono ?_
   rintro e w9 ⟨rfl, hk⟩
   replace HR := Lib.hid (And.intro (HR.out.1.then_ hk) (HR.out.2.keeps hk))
   clear hk x0 x1 x2 x3 x4 x5 x6 x7 x8
   have rx := HR.out.2
   have x0 := rx.cell 0
   have x1 := rx.cell 1
   have x2 := rx.cell 2
   have x3 := rx.cell 3
   have x4 := rx.cell 4
   have x5 := rx.cell 5
   have x6 := rx.cell 6
   have x7 := rx.cell 7
   have x8 := rx.cell 8
   simp only [List.getElem?_toArray, List.getElem?_cons_zero, List.getElem?_cons_succ] at x0 x1 x2 x3 x4 x5 x6 x7 x8
   clear rx
   go_wp2_with fail
   refine (C4.out _ (HM.out.keeps HR.out.1)).mono ?_
   rintro e w9 ⟨rfl, hk⟩
   replace HR := Lib.hid (And.intro (HR.out.1.then_ hk) (HR.out.2.keeps hk))
   clear hk x0 x1 x2 x3 x4 x5 x6 x7 x8
   have rx := HR.out.2
   have x0 := rx.cell 0
   have x1 := rx.cell 1
   have x2 := rx.cell 2
   have x3 := rx.cell 3
   have x4 := rx.cell 4
   have x5 := rx.cell 5
   have x6 := rx.cell 6
   have x7 := rx.cell 7
   have x8 := rx.cell 8
   simp only [List.getElem?_toArray, List.getElem?_cons_zero, List.getElem?_cons_succ] at x0 x1 x2 x3 x4 x5 x6 x7 x8
   clear rx
   go_wp2_with fail
   refine (C5.out _).mono ?_
   rintro e w9 ⟨rfl, hk⟩
   replace HR := Lib.hid (And.intro (HR.out.1.then_ hk) (HR.out.2.keeps hk))
   clear hk x0 x1 x2 x3 x4 x5 x6 x7 x8
   have rx := HR.out.2
   have x0 := rx.cell 0
   have x1 := rx.cell 1
   have x2 := rx.cell 2
   have x3 := rx.cell 3
   have x4 := rx.cell 4
   have x5 := rx.cell 5
   have x6 := rx.cell 6
   have x7 := rx.cell 7
   have x8 := rx.cell 8
   simp only [List.getElem?_toArray, List.getElem?_cons_zero, List.getElem?_cons_succ] at x0 x1 x2 x3 x4 x5 x6 x7 x8
   clear rx
   go_wp2_with fail
   refine (C6.out _).mono ?_
   rintro e w9 ⟨rfl, hk⟩
   replace HR := Lib.hid (And.intro (HR.out.1.then_ hk) (HR.out.2.keeps hk))
   clear hk x0 x1 x2 x3 x4 x5 x6 x7 x8
   have rx := HR.out.2
   have x0 := rx.cell 0
   have x1 := rx.cell 1
   have x2 := rx.cell 2
   have x3 := rx.cell 3
   have x4 := rx.cell 4
   have x5 := rx.cell 5
   have x6 := rx.cell 6
   have x7 := rx.cell 7
   have x8 := rx.cell 8
   simp only [List.getElem?_toArray, List.getElem?_cons_zero, List.getElem?_cons_succ] at x0 x1 x2 x3 x4 x5 x6 x7 x8
   clear rx
   go_wp2_with fail
   refine (C7.out _ (HM.out.keeps HR.out.1)).mono ?_
   rintro e w9 ⟨rfl, hk⟩
   replace HR := Lib.hid (And.intro (HR.out.1.then_ hk) (HR.out.2.keeps hk))
   clear hk x0 x1 x2 x3 x4 x5 x6 x7 x8
   have rx := HR.out.2
   have x0 := rx.cell 0
   have x1 := rx.cell 1
   have x2 := rx.cell 2
   have x3 := rx.cell 3
   have x4 := rx.cell 4
   have x5 := rx.cell 5
   have x6 := rx.cell 6
   have x7 := rx.cell 7
   have x8 := rx.cell 8
   simp only [List.getElem?_toArray, List.getElem?_cons_zero, List.getElem?_cons_succ] at x0 x1 x2 x3 x4 x5 x6 x7 x8
   clear rx
   go_wp2_with fail
   clear x0 x1 x2 x3 x4 x5 x6 x7 x8
   refine (known19_any _ (HM.out.keeps HR.out.1)).mono ?_
   rintro e w9 ⟨rfl, hk⟩
   have HK := Lib.hid (HR.out.1.then_ hk)
   clear hk
   go_wp2_with fail
   go_ret
   exact ⟨rfl, HK.out⟩
  | true =>
   have C8 := Lib.hid (show ∀ w, Calls Tryz.prog 15 #[rwV x] w (fun e w' => e = .returned (.string ⟨(rcVal x).toArray⟩) ∧ Keeps w w' []) from fun w => rrValue_any x w hok (by have := few_tb hf; omega))
   cases hft : rcFits x p with
   | false =>
    simp only [rcKeyS, rcKeyE, rcValS, rcBegS, rcBegE, hok, hft, Bool.false_eq_true, if_false, if_true] at C2 C3 C4 C5 C6 C7
    clear hok hft hf hx1 hx2 hsm
    obtain ⟨V, hV⟩ : ∃ V, rcVal x = V := ⟨_, rfl⟩
    obtain ⟨S, hS⟩ : ∃ S, kRaw (rcParts x.k x) = S := ⟨_, rfl⟩
    rw [hV] at C3 C8
    rw [hS] at C4
    clear hV hS
    obtain ⟨k, c, seq, id, t, b, q, r, s⟩ := x
    have hz : (V != V) = false := by simp
    obtain ⟨W0, hW0⟩ : ∃ W0, w.alloc (.cells #[.int .i64 k, .string ⟨c.toArray⟩, .int .i64 seq, .int .i64 id, .string ⟨t.toArray⟩, .string ⟨b.toArray⟩, .int .i64 q, .bool r, .int .i64 s] 25) = W0 := ⟨_, rfl⟩
    have k0 : Keeps w W0 [] := by rw [← hW0]; exact Keeps.alloc _ _
    have r0 : Row W0 w.heap.size 25 #[.int .i64 k, .string ⟨c.toArray⟩, .int .i64 seq, .int .i64 id, .string ⟨t.toArray⟩, .string ⟨b.toArray⟩, .int .i64 q, .bool r, .int .i64 s] := by rw [← hW0]; exact Row.new _ _ _
    have HR := Lib.hid (And.intro k0 r0)
    have x0 := r0.cell 0
    have x1 := r0.cell 1
    have x2 := r0.cell 2
    have x3 := r0.cell 3
    have x4 := r0.cell 4
    have x5 := r0.cell 5
    have x6 := r0.cell 6
    have x7 := r0.cell 7
    have x8 := r0.cell 8
    simp only [List.getElem?_toArray, List.getElem?_cons_zero, List.getElem?_cons_succ] at x0 x1 x2 x3 x4 x5 x6 x7 x8
    clear k0 r0
    go_enter Tryz.func6, Tryz.ntmps6
    go_wp2_with fail
    clear hW0
    refine (C1.out _).mono ?_
    rintro e w9 ⟨rfl, hk⟩
    replace HR := Lib.hid (And.intro (HR.out.1.then_ hk) (HR.out.2.keeps hk))
    clear hk x0 x1 x2 x3 x4 x5 x6 x7 x8
    have rx := HR.out.2
    have x0 := rx.cell 0
    have x1 := rx.cell 1
    have x2 := rx.cell 2
    have x3 := rx.cell 3
    have x4 := rx.cell 4
    have x5 := rx.cell 5
    have x6 := rx.cell 6
    have x7 := rx.cell 7
    have x8 := rx.cell 8
    simp only [List.getElem?_toArray, List.getElem?_cons_zero, List.getElem?_cons_succ] at x0 x1 x2 x3 x4 x5 x6 x7 x8
    clear rx
    go_wp2_with fail
    refine (C2.out _ (HM.out.keeps HR.out.1)).mono ?_
    rintro e w9 ⟨rfl, hk⟩
    replace HR := Lib.hid (And.intro (HR.out.1.then_ hk) (HR.out.2.keeps hk))
    clear hk x0 x1 x2 x3 x4 x5 x6 x7 x8
    have rx := HR.out.2
    have x0 := rx.cell 0
    have x1 := rx.cell 1
    have x2 := rx.cell 2
    have x3 := rx.cell 3
    have x4 := rx.cell 4
    have x5 := rx.cell 5
    have x6 := rx.cell 6
    have x7 := rx.cell 7
    have x8 := rx.cell 8
    simp only [List.getElem?_toArray, List.getElem?_cons_zero, List.getElem?_cons_succ] at x0 x1 x2 x3 x4 x5 x6 x7 x8
    clear rx
    go_wp2_with fail
    refine (C3.out _ (HM.out.keeps HR.out.1)).mono ?_
    rintro e w9 ⟨rfl, hk⟩
    replace HR := Lib.hid (And.intro (HR.out.1.then_ hk) (HR.out.2.keeps hk))
    clear hk x0 x1 x2 x3 x4 x5 x6 x7 x8
    have rx := HR.out.2
    have x0 := rx.cell 0
    have x1 := rx.cell 1
    have x2 := rx.cell 2
    have x3 := rx.cell 3
    have x4 := rx.cell 4
    have x5 := rx.cell 5
    have x6 := rx.cell 6
    have x7 := rx.cell 7
    have x8 := rx.cell 8
    simp only [List.getElem?_toArray, List.getElem?_cons_zero, List.getElem?_cons_succ] at x0 x1 x2 x3 x4 x5 x6 x7 x8
    clear rx
    go_wp2_with fail
    refine (C4.out _ (HM.out.keeps HR.out.1)).mono ?_
    rintro e w9 ⟨rfl, hk⟩
    replace HR := Lib.hid (And.intro (HR.out.1.then_ hk) (HR.out.2.keeps hk))
    clear hk x0 x1 x2 x3 x4 x5 x6 x7 x8
    have rx := HR.out.2
    have x0 := rx.cell 0
    have x1 := rx.cell 1
    have x2 := rx.cell 2
    have x3 := rx.cell 3
    have x4 := rx.cell 4
    have x5 := rx.cell 5
    have x6 := rx.cell 6
    have x7 := rx.cell 7
    have x8 := rx.cell 8
    simp only [List.getElem?_toArray, List.getElem?_cons_zero, List.getElem?_cons_succ] at x0 x1 x2 x3 x4 x5 x6 x7 x8
    clear rx
    go_wp2_with fail
    refine (C5.out _).mono ?_
    rintro e w9 ⟨rfl, hk⟩
    replace HR := Lib.hid (And.intro (HR.out.1.then_ hk) (HR.out.2.keeps hk))
    clear hk x0 x1 x2 x3 x4 x5 x6 x7 x8
    have rx := HR.out.2
    have x0 := rx.cell 0
    have x1 := rx.cell 1
    have x2 := rx.cell 2
    have x3 := rx.cell 3
    have x4 := rx.cell 4
    have x5 := rx.cell 5
    have x6 := rx.cell 6
    have x7 := rx.cell 7
    have x8 := rx.cell 8
    simp only [List.getElem?_toArray, List.getElem?_cons_zero, List.getElem?_cons_succ] at x0 x1 x2 x3 x4 x5 x6 x7 x8
    clear rx
    go_wp2_with fail
    refine (C6.out _).mono ?_
    rintro e w9 ⟨rfl, hk⟩
    replace HR := Lib.hid (And.intro (HR.out.1.then_ hk) (HR.out.2.keeps hk))
    clear hk x0 x1 x2 x3 x4 x5 x6 x7 x8
    have rx := HR.out.2
    have x0 := rx.cell 0
    have x1 := rx.cell 1
    have x2 := rx.cell 2
    have x3 := rx.cell 3
    have x4 := rx.cell 4
    have x5 := rx.cell 5
    have x6 := rx.cell 6
    have x7 := rx.cell 7
    have x8 := rx.cell 8
    simp only [List.getElem?_toArray, List.getElem?_cons_zero, List.getElem?_cons_succ] at x0 x1 x2 x3 x4 x5 x6 x7 x8
    clear rx
    go_wp2_with fail
    refine (C7.out _ (HM.out.keeps HR.out.1)).mono ?_
    rintro e w9 ⟨rfl, hk⟩
    replace HR := Lib.hid (And.intro (HR.out.1.then_ hk) (HR.out.2.keeps hk))
    clear hk x0 x1 x2 x3 x4 x5 x6 x7 x8
    have rx := HR.out.2
    have x0 := rx.cell 0
    have x1 := rx.cell 1
    have x2 := rx.cell 2
    have x3 := rx.cell 3
    have x4 := rx.cell 4
    have x5 := rx.cell 5
    have x6 := rx.cell 6
    have x7 := rx.cell 7
    have x8 := rx.cell 8
    simp only [List.getElem?_toArray, List.getElem?_cons_zero, List.getElem?_cons_succ] at x0 x1 x2 x3 x4 x5 x6 x7 x8
    clear rx
    go_wp2_with fail
    refine (C8.out _).mono ?_
    rintro e w9 ⟨rfl, hk⟩
    replace HR := Lib.hid (And.intro (HR.out.1.then_ hk) (HR.out.2.keeps hk))
    clear hk x0 x1 x2 x3 x4 x5 x6 x7 x8
    have rx := HR.out.2
    have x0 := rx.cell 0
    have x1 := rx.cell 1
    have x2 := rx.cell 2
    have x3 := rx.cell 3
    have x4 := rx.cell 4
    have x5 := rx.cell 5
    have x6 := rx.cell 6
    have x7 := rx.cell 7
    have x8 := rx.cell 8
    simp only [List.getElem?_toArray, List.getElem?_cons_zero, List.getElem?_cons_succ] at x0 x1 x2 x3 x4 x5 x6 x7 x8
    clear rx
    go_wp2_with fail
    all_goals
     clear x0 x1 x2 x3 x4 x5 x6 x7 x8
     refine (known19_any _ (HM.out.keeps HR.out.1)).mono ?_
     rintro e w9 ⟨rfl, hk⟩
     have HK := Lib.hid (HR.out.1.then_ hk)
     clear hk
     go_wp2_with fail
     go_ret
     exact ⟨rfl, HK.out⟩
   | true =>
    have C9 := Lib.hid (show ∀ w, Calls Tryz.prog 17 #[.int .i64 x.k] w (fun e w' => e = .returned (.string ⟨(rcTree x.k).toArray⟩) ∧ Keeps w w' []) from fun w => rrTree_any x.k w (rcOk_is hok))
    have hfl := few_tb hf
    have HIS := Lib.hid (show RvIs (rcTree x.k) (kRaw (rcKeyL x p)) (rcVal x) x p from ⟨hft, rfl, rfl, rfl, by omega, by omega⟩)
    have hK := (rc_key hft).len
    have hVl := rcVal_length x
    have CR := Lib.hid (fun w h => rvRead_any w (rcTree x.k) (kRaw (rcKeyL x p)) (rcVal x) h (by omega) (by omega))
    simp only [rcKeyS, rcKeyE, rcValS, rcBegS, rcBegE, hok, hft, if_true] at C2 C3 C4 C5 C6 C7
    clear hok hft hf hsm hfl
    obtain ⟨r', hr⟩ := beg_key (x := x) (p := p)
    obtain ⟨V, hV⟩ : ∃ V, rcVal x = V := ⟨_, rfl⟩
    obtain ⟨S, hS⟩ : ∃ S, kRaw (rcParts x.k x) = S := ⟨_, rfl⟩
    obtain ⟨K, hKe⟩ : ∃ K, kRaw (rcKeyL x p) = K := ⟨_, rfl⟩
    obtain ⟨T, hT⟩ : ∃ T, rcTree x.k = T := ⟨_, rfl⟩
    rw [hKe] at C2 C5 CR HIS hr
    rw [hV] at C3 C8 CR HIS
    rw [hS] at C4 hr
    rw [hT] at C9 CR HIS
    clear hV hS hKe hT hx1 hx2 hK hVl
    have hz : (V != V) = false := by simp
    have hlen : decide (S.length > K.length) = false := by
     rw [hr]
     simp
    have hle : S.length ≤ K.length := by
     rw [hr]
     simp
    have hex : (⟨K.toArray⟩ : ByteArray).extract 0 S.length = ⟨S.toArray⟩ := by
     rw [str_cut, List.drop_zero, Nat.sub_zero, hr]
     simp
    clear hr
    obtain ⟨k, c, seq, id, t, b, q, r, s⟩ := x
    simp only at C9
    obtain ⟨W0, hW0⟩ : ∃ W0, w.alloc (.cells #[.int .i64 k, .string ⟨c.toArray⟩, .int .i64 seq, .int .i64 id, .string ⟨t.toArray⟩, .string ⟨b.toArray⟩, .int .i64 q, .bool r, .int .i64 s] 25) = W0 := ⟨_, rfl⟩
    have k0 : Keeps w W0 [] := by rw [← hW0]; exact Keeps.alloc _ _
    have r0 : Row W0 w.heap.size 25 #[.int .i64 k, .string ⟨c.toArray⟩, .int .i64 seq, .int .i64 id, .string ⟨t.toArray⟩, .string ⟨b.toArray⟩, .int .i64 q, .bool r, .int .i64 s] := by rw [← hW0]; exact Row.new _ _ _
    have HR := Lib.hid (And.intro k0 r0)
    have x0 := r0.cell 0
    have x1 := r0.cell 1
    have x2 := r0.cell 2
    have x3 := r0.cell 3
    have x4 := r0.cell 4
    have x5 := r0.cell 5
    have x6 := r0.cell 6
    have x7 := r0.cell 7
    have x8 := r0.cell 8
    simp only [List.getElem?_toArray, List.getElem?_cons_zero, List.getElem?_cons_succ] at x0 x1 x2 x3 x4 x5 x6 x7 x8
    clear k0 r0
    go_enter Tryz.func6, Tryz.ntmps6
    go_wp2_with fail
    clear hW0
    refine (C1.out _).mono ?_
    rintro e w9 ⟨rfl, hk⟩
    replace HR := Lib.hid (And.intro (HR.out.1.then_ hk) (HR.out.2.keeps hk))
    clear hk x0 x1 x2 x3 x4 x5 x6 x7 x8
    have rx := HR.out.2
    have x0 := rx.cell 0
    have x1 := rx.cell 1
    have x2 := rx.cell 2
    have x3 := rx.cell 3
    have x4 := rx.cell 4
    have x5 := rx.cell 5
    have x6 := rx.cell 6
    have x7 := rx.cell 7
    have x8 := rx.cell 8
    simp only [List.getElem?_toArray, List.getElem?_cons_zero, List.getElem?_cons_succ] at x0 x1 x2 x3 x4 x5 x6 x7 x8
    clear rx
    go_wp2_with fail
    refine (C2.out _ (HM.out.keeps HR.out.1)).mono ?_
    rintro e w9 ⟨rfl, hk⟩
    replace HR := Lib.hid (And.intro (HR.out.1.then_ hk) (HR.out.2.keeps hk))
    clear hk x0 x1 x2 x3 x4 x5 x6 x7 x8
    have rx := HR.out.2
    have x0 := rx.cell 0
    have x1 := rx.cell 1
    have x2 := rx.cell 2
    have x3 := rx.cell 3
    have x4 := rx.cell 4
    have x5 := rx.cell 5
    have x6 := rx.cell 6
    have x7 := rx.cell 7
    have x8 := rx.cell 8
    simp only [List.getElem?_toArray, List.getElem?_cons_zero, List.getElem?_cons_succ] at x0 x1 x2 x3 x4 x5 x6 x7 x8
    clear rx
    go_wp2_with fail
    refine (C3.out _ (HM.out.keeps HR.out.1)).mono ?_
    rintro e w9 ⟨rfl, hk⟩
    replace HR := Lib.hid (And.intro (HR.out.1.then_ hk) (HR.out.2.keeps hk))
    clear hk x0 x1 x2 x3 x4 x5 x6 x7 x8
    have rx := HR.out.2
    have x0 := rx.cell 0
    have x1 := rx.cell 1
    have x2 := rx.cell 2
    have x3 := rx.cell 3
    have x4 := rx.cell 4
    have x5 := rx.cell 5
    have x6 := rx.cell 6
    have x7 := rx.cell 7
    have x8 := rx.cell 8
    simp only [List.getElem?_toArray, List.getElem?_cons_zero, List.getElem?_cons_succ] at x0 x1 x2 x3 x4 x5 x6 x7 x8
    clear rx
    go_wp2_with fail
    refine (C4.out _ (HM.out.keeps HR.out.1)).mono ?_
    rintro e w9 ⟨rfl, hk⟩
    replace HR := Lib.hid (And.intro (HR.out.1.then_ hk) (HR.out.2.keeps hk))
    clear hk x0 x1 x2 x3 x4 x5 x6 x7 x8
    have rx := HR.out.2
    have x0 := rx.cell 0
    have x1 := rx.cell 1
    have x2 := rx.cell 2
    have x3 := rx.cell 3
    have x4 := rx.cell 4
    have x5 := rx.cell 5
    have x6 := rx.cell 6
    have x7 := rx.cell 7
    have x8 := rx.cell 8
    simp only [List.getElem?_toArray, List.getElem?_cons_zero, List.getElem?_cons_succ] at x0 x1 x2 x3 x4 x5 x6 x7 x8
    clear rx
    go_wp2_with fail
    refine (C5.out _).mono ?_
    rintro e w9 ⟨rfl, hk⟩
    replace HR := Lib.hid (And.intro (HR.out.1.then_ hk) (HR.out.2.keeps hk))
    clear hk x0 x1 x2 x3 x4 x5 x6 x7 x8
    have rx := HR.out.2
    have x0 := rx.cell 0
    have x1 := rx.cell 1
    have x2 := rx.cell 2
    have x3 := rx.cell 3
    have x4 := rx.cell 4
    have x5 := rx.cell 5
    have x6 := rx.cell 6
    have x7 := rx.cell 7
    have x8 := rx.cell 8
    simp only [List.getElem?_toArray, List.getElem?_cons_zero, List.getElem?_cons_succ] at x0 x1 x2 x3 x4 x5 x6 x7 x8
    clear rx
    go_wp2_with fail
    refine (C6.out _).mono ?_
    rintro e w9 ⟨rfl, hk⟩
    replace HR := Lib.hid (And.intro (HR.out.1.then_ hk) (HR.out.2.keeps hk))
    clear hk x0 x1 x2 x3 x4 x5 x6 x7 x8
    have rx := HR.out.2
    have x0 := rx.cell 0
    have x1 := rx.cell 1
    have x2 := rx.cell 2
    have x3 := rx.cell 3
    have x4 := rx.cell 4
    have x5 := rx.cell 5
    have x6 := rx.cell 6
    have x7 := rx.cell 7
    have x8 := rx.cell 8
    simp only [List.getElem?_toArray, List.getElem?_cons_zero, List.getElem?_cons_succ] at x0 x1 x2 x3 x4 x5 x6 x7 x8
    clear rx
    go_wp2_with fail
    refine (C7.out _ (HM.out.keeps HR.out.1)).mono ?_
    rintro e w9 ⟨rfl, hk⟩
    replace HR := Lib.hid (And.intro (HR.out.1.then_ hk) (HR.out.2.keeps hk))
    clear hk x0 x1 x2 x3 x4 x5 x6 x7 x8
    have rx := HR.out.2
    have x0 := rx.cell 0
    have x1 := rx.cell 1
    have x2 := rx.cell 2
    have x3 := rx.cell 3
    have x4 := rx.cell 4
    have x5 := rx.cell 5
    have x6 := rx.cell 6
    have x7 := rx.cell 7
    have x8 := rx.cell 8
    simp only [List.getElem?_toArray, List.getElem?_cons_zero, List.getElem?_cons_succ] at x0 x1 x2 x3 x4 x5 x6 x7 x8
    clear rx
    go_wp2_with fail
    refine (C8.out _).mono ?_
    rintro e w9 ⟨rfl, hk⟩
    replace HR := Lib.hid (And.intro (HR.out.1.then_ hk) (HR.out.2.keeps hk))
    clear hk x0 x1 x2 x3 x4 x5 x6 x7 x8
    have rx := HR.out.2
    have x0 := rx.cell 0
    have x1 := rx.cell 1
    have x2 := rx.cell 2
    have x3 := rx.cell 3
    have x4 := rx.cell 4
    have x5 := rx.cell 5
    have x6 := rx.cell 6
    have x7 := rx.cell 7
    have x8 := rx.cell 8
    simp only [List.getElem?_toArray, List.getElem?_cons_zero, List.getElem?_cons_succ] at x0 x1 x2 x3 x4 x5 x6 x7 x8
    clear rx
    go_wp2_with fail
    refine (C9.out _).mono ?_
    rintro e w9 ⟨rfl, hk⟩
    replace HR := Lib.hid (And.intro (HR.out.1.then_ hk) (HR.out.2.keeps hk))
    clear hk x0 x1 x2 x3 x4 x5 x6 x7 x8
    have rx := HR.out.2
    have x0 := rx.cell 0
    have x1 := rx.cell 1
    have x2 := rx.cell 2
    have x3 := rx.cell 3
    have x4 := rx.cell 4
    have x5 := rx.cell 5
    have x6 := rx.cell 6
    have x7 := rx.cell 7
    have x8 := rx.cell 8
    simp only [List.getElem?_toArray, List.getElem?_cons_zero, List.getElem?_cons_succ] at x0 x1 x2 x3 x4 x5 x6 x7 x8
    clear rx
    go_wp2_with fail
    refine (CR.out _ (HM.out.keeps HR.out.1)).mono ?_
    rintro e w9 ⟨hk, h⟩
    have HE := Lib.hid (show e = .returned (.tuple #[.agg #[.int .i64 k, .string ⟨c.toArray⟩, .int .i64 seq, .int .i64 id, .string ⟨t.toArray⟩, .string ⟨b.toArray⟩, .int .i64 q, .bool r, .int .i64 s], .int .i64 p, .int .i64 0]) from by
     rcases h with ⟨y, q, hy, e⟩ | ⟨hno, _⟩
     ·obtain ⟨rfl, rfl⟩ := rv_unique HIS.out hy
      exact e
     ·exact absurd HIS.out (hno _ _))
    clear h
    have he := HE.out
    subst he
    obtain ⟨Wo, hWo⟩ : ∃ Wo, w9.alloc (.cells #[.int .i64 k, .string ⟨c.toArray⟩, .int .i64 seq, .int .i64 id, .string ⟨t.toArray⟩, .string ⟨b.toArray⟩, .int .i64 q, .bool r, .int .i64 s] 25) = Wo := ⟨_, rfl⟩
    have ko : Keeps w9 Wo [] := by rw [← hWo]; exact Keeps.alloc _ _
    have ry : Row Wo w9.heap.size 25 #[.int .i64 k, .string ⟨c.toArray⟩, .int .i64 seq, .int .i64 id, .string ⟨t.toArray⟩, .string ⟨b.toArray⟩, .int .i64 q, .bool r, .int .i64 s] := by rw [← hWo]; exact Row.new _ _ _
    replace HR := Lib.hid (And.intro ((HR.out.1.then_ hk).then_ ko) ((HR.out.2.keeps hk).keeps ko))
    clear hk ko x0 x1 x2 x3 x4 x5 x6 x7 x8
    have rx := HR.out.2
    have x0 := rx.cell 0
    have x1 := rx.cell 1
    have x2 := rx.cell 2
    have x3 := rx.cell 3
    have x4 := rx.cell 4
    have x5 := rx.cell 5
    have x6 := rx.cell 6
    have x7 := rx.cell 7
    have x8 := rx.cell 8
    simp only [List.getElem?_toArray, List.getElem?_cons_zero, List.getElem?_cons_succ] at x0 x1 x2 x3 x4 x5 x6 x7 x8
    have y0 := ry.cell 0
    have y1 := ry.cell 1
    have y2 := ry.cell 2
    have y3 := ry.cell 3
    have y4 := ry.cell 4
    have y5 := ry.cell 5
    have y6 := ry.cell 6
    have y7 := ry.cell 7
    have y8 := ry.cell 8
    simp only [List.getElem?_toArray, List.getElem?_cons_zero, List.getElem?_cons_succ] at y0 y1 y2 y3 y4 y5 y6 y7 y8
    clear rx ry
    go_wp2_with fail
    clear y0 y1 y2 y3 y4 y5 y6 y7 y8
    clear x0 x1 x2 x3 x4 x5 x6 x7 x8
    refine (known19_any _ (HM.out.keeps HR.out.1)).mono ?_
    rintro e w9 ⟨rfl, hk⟩
    have HK := Lib.hid (HR.out.1.then_ hk)
    clear hk
    go_wp2_with fail
    go_ret
    exact ⟨rfl, HK.out⟩
end Go.Proofs.YtfglgeoookbppaaGreatDoor
