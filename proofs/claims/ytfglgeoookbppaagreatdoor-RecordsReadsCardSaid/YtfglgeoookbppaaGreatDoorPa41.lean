/- Reference 19: Right. Reference 19: the parts of a row's key. Package pigeonryref18: eight. Layer 18, plain: numbers' words, what the law of floats and the reference share. -/
import Derived.Test.YtfglgeoookbppaaGreatDoorPa35
import Derived.Test.YtfglgeoookbppaaGreatDoorPa36
import Derived.Test.YtfglgeoookbppaaGreatDoorPa37
import Derived.Test.YtfglgeoookbppaaGreatDoorPa38
import Derived.Test.YtfglgeoookbppaaGreatDoorPa39
import Derived.Test.YtfglgeoookbppaaGreatDoorPa40
import Derived.Test.YtfglgeoookbppaaGreatDoorPa34
import Derived.Test.YtfglgeoookbppaaGreatDoorPa13
import Derived.Test.YtfglgeoookbppaaGreatDoorPa20
import Derived.Test.YtfglgeoookbppaaGreatDoorPa6
import Derived.Test.YtfglgeoookbppaaGreatDoorPa2

namespace Go.Proofs.YtfglgeoookbppaaGreatDoor
open Go.RowKit Go.Shelf

theorem rrRight_any (x : Rw) (w : World) (hx : x.Small) : Calls Tryz.prog 8 #[rwV x] w (TruePost w (rcOk x)) := by
 obtain ⟨k, c, seq, id, t, b, q, r, s⟩ := x
 by_cases h3 : k = 3
 ·subst h3
  exact rrRight_3 c seq id t b q r s w hx
 ·by_cases hb : r = true ∨ s ≠ 0
  ·exact rrRight_bad k c seq id t b q r s w h3 hb
  ·obtain rfl : r = false := by
    cases r with
    | false => rfl
    | true => exact absurd (.inl rfl) hb
   obtain rfl : s = 0 := by
    by_cases h : s = 0
    ·exact h
    ·exact absurd (.inr h) hb
   cases hi : rcIs k with
   | false => exact rrRight_other k c seq id t b q w hi
   | true =>
    have e : k = 1 ∨ k = 2 ∨ k = 4 ∨ k = 5 := by
     unfold rcIs at hi
     rw [inN_iff] at hi
     omega
    rcases e with rfl | rfl | rfl | rfl
    ·exact rrRight_1 c seq id t b q w hx
    ·exact rrRight_2 c seq id t b q w hx
    ·exact rrRight_4 c seq id t b q w hx
    ·exact rrRight_5 c seq id t b q w hx
end Go.Proofs.YtfglgeoookbppaaGreatDoor

namespace Go.Proofs.YtfglgeoookbppaaGreatDoor
open Go.RowKit Go.Shelf

abbrev ptSet (W : World) (z : Nat) (v0 v1 v2 v3 : Value) : World := (((W.setCell ⟨z, 0, none⟩ v0).setCell ⟨z, 1, none⟩ v1).setCell ⟨z, 2, none⟩ v2).setCell ⟨z, 3, none⟩ v3
set_option maxRecDepth 100000 in
set_option maxHeartbeats 2000000 in
theorem rrPts1_any (x : Rw) (w : World) (hxk : x.k = 1) (ht : x.t.length ≤ 1000000) : Calls Tryz.prog 31 #[rwV x] w (PtPost w (rcParts x.k x)) := by
 have hsf := @run_store_float Tryz.prog
 have HS := Lib.hid (fun (w : World) A c hc hL => refSum_any w A c x.t hc (by omega) hL)
 have hlt := crcSum_lt x.t
 obtain ⟨k, c, seq, id, t, b, q, r, s⟩ := x
 simp only at ht hlt HS hxk
 have HXK := Lib.hid hxk
 clear hxk
 obtain ⟨W0, hW0⟩ : ∃ W0, w.alloc (.cells #[.int .i64 k, .string ⟨c.toArray⟩, .int .i64 seq, .int .i64 id, .string ⟨t.toArray⟩, .string ⟨b.toArray⟩, .int .i64 q, .bool r, .int .i64 s] 25) = W0 := ⟨_, rfl⟩
 have k0 : Keeps w W0 [] := by rw [← hW0]; exact Keeps.alloc _ _
 have r0 : Row W0 w.heap.size 25 #[.int .i64 k, .string ⟨c.toArray⟩, .int .i64 seq, .int .i64 id, .string ⟨t.toArray⟩, .string ⟨b.toArray⟩, .int .i64 q, .bool r, .int .i64 s] := by rw [← hW0]; exact Row.new _ _ _
 have HR := Lib.hid (And.intro k0 r0)
 have x0 := r0.cell 0
 have x1 := r0.cell 1
 have x2 := r0.cell 2
 have x3 := r0.cell 3
 have x4 := r0.cell 4
 have x5 := r0.cell 5
 have x6 := r0.cell 6
 have x7 := r0.cell 7
 have x8 := r0.cell 8
 simp only [List.getElem?_toArray, List.getElem?_cons_zero, List.getElem?_cons_succ] at x0 x1 x2 x3 x4 x5 x6 x7 x8
 clear k0 r0
 obtain ⟨cap, W1, hcv, hcap, k1, hL⟩ := conv_by2 W0 t
 have HC := Lib.hid (HS.out W1 (some ⟨W0.heap.size, 0, none⟩) cap hcap hL)
 have HW := Lib.hid (show ∀ w : World, Calls Tryz.prog 32 #[.int .i64 (crcSum t : Nat)] w fun e w' => e = .returned (.agg #[.int .i64 1, .int .i64 (crcSum t : Nat), .float .f64 0, .string ⟨#[]⟩]) ∧ Keeps w w' [] from fun w => rrWhole_any (crcSum t : Nat) w)
 have HR := Lib.hid (show Keeps w W1 [] ∧ Row W1 w.heap.size 25 #[.int .i64 k, .string ⟨c.toArray⟩, .int .i64 seq, .int .i64 id, .string ⟨t.toArray⟩, .string ⟨b.toArray⟩, .int .i64 q, .bool r, .int .i64 s] from ⟨HR.out.1.then_ k1, HR.out.2.keeps k1⟩)
 clear k1 hL
 obtain ⟨n, hn⟩ : ∃ n : Nat, crcSum t = n := ⟨_, rfl⟩
 have HN := Lib.hid (show rcSum t = kInt n by unfold rcSum; rw [hn])
 rw [hn] at HC HW hlt
 clear hn HS
 go_enter Tryz.func31, Tryz.ntmps31
 go_wp2_with fail
 refine HC.out.mono ?_
 rintro e w9 ⟨rfl, rfl⟩
 go_wp2_with fail
 refine (HW.out _).mono ?_
 rintro e w5 ⟨rfl, hk5⟩
 have r5 := HR.out.2.keeps hk5
 have k5 := HR.out.1.then_ hk5
 clear x0 x1 x2 x3 x4 x5 x6 x7 x8 hk5 hcv HC HW hW0
 obtain ⟨Wa, hWa⟩ : ∃ Wa, w5.alloc (.cells #[.int .i64 0, .int .i64 0, .float .f64 0, .string ⟨#[]⟩] 63) = Wa := ⟨_, rfl⟩
 have ra : Row Wa w5.heap.size 63 #[.int .i64 0, .int .i64 0, .float .f64 0, .string ⟨#[]⟩] := by rw [← hWa]; exact Row.new _ _ _
 have ka : Keeps w5 Wa [] := by rw [← hWa]; exact Keeps.alloc _ _
 obtain ⟨z, hz⟩ : ∃ z, w5.heap.size = z := ⟨_, rfl⟩
 rw [hz] at ra
 obtain ⟨W6, hW6⟩ : ∃ W6, ptSet Wa z (.int .i64 1) (.int .i64 n) (.float .f64 0) (.string ⟨#[]⟩) = W6 := ⟨_, rfl⟩
 obtain ⟨q6, k6⟩ := pt_fill (v0 := .int .i64 1) (v1 := .int .i64 n) (v2 := .float .f64 0) (v3 := .string ⟨#[]⟩) ra
 unfold ptSet at hW6
 rw [hW6] at q6 k6
 have k56 : Keeps w5 W6 [] := ka.trans k6 (fun x hx hlt => by simp at hx; omega)
 have r6 := r5.keeps k56
 have HR := Lib.hid (And.intro (k5.then_ k56) (And.intro r6 q6))
 have u0 := ra.cell 0
 have u1 := ra.cell 1
 have u2 := ra.cell 2
 have u3 := ra.cell 3
 simp only [List.getElem?_toArray, List.getElem?_cons_zero, List.getElem?_cons_succ] at u0 u1 u2 u3
 have g0 := ra.frozen 0
 have g1 := ra.frozen 1
 have g2 := ra.frozen 2
 have g3 := ra.frozen 3
 clear r5 k5 ra ka q6 k6 k56
 go_upto_region 2 with fail
 clear u0 u1 u2 u3 g0 g1 g2 g3
 try rw [hWa]
 try rw [hW6]
 try rw [hz]
 clear hW6 hWa hz
 have x0 := r6.cell 0
 have x1 := r6.cell 1
 have x2 := r6.cell 2
 have x3 := r6.cell 3
 have x4 := r6.cell 4
 have x5 := r6.cell 5
 have x6 := r6.cell 6
 have x7 := r6.cell 7
 have x8 := r6.cell 8
 simp only [List.getElem?_toArray, List.getElem?_cons_zero, List.getElem?_cons_succ] at x0 x1 x2 x3 x4 x5 x6 x7 x8
 have y0 := HR.out.2.2.cell 0
 have y1 := HR.out.2.2.cell 1
 have y2 := HR.out.2.2.cell 2
 have y3 := HR.out.2.2.cell 3
 simp only [List.getElem?_toArray, List.getElem?_cons_zero, List.getElem?_cons_succ] at y0 y1 y2 y3
 clear r6
 have hxk := HXK.out
 clear HXK
 subst hxk
 have HT := Lib.hid (show ∀ w : World, Calls Tryz.prog 81 #[.string ⟨c.toArray⟩] w fun e w' => e = .returned (.agg #[.int .i64 3, .int .i64 0, .float .f64 0, .string ⟨c.toArray⟩]) ∧ Keeps w w' [] from fun w => rrText_any c w)
 go_wp2_with fail
 refine (HT.out _).mono ?_
 rintro e w7 ⟨rfl, hk7⟩
 have HK := Lib.hid (HR.out.1.then_ hk7)
 clear hk7 x0 x1 x2 x3 x4 x5 x6 x7 x8 y0 y1 y2 y3
 go_wp2_with fail
 go_ret
 exact ⟨_, rfl, ownP_row (l := [kText c]) HK.out.size (by simp) (Row.new _ _ _), HK.out.then_alloc _⟩
set_option maxRecDepth 100000 in
set_option maxHeartbeats 2000000 in
theorem rrPts5_any (x : Rw) (w : World) (hxk : x.k = 5) (ht : x.t.length ≤ 1000000) : Calls Tryz.prog 31 #[rwV x] w (PtPost w (rcParts x.k x)) := by
 have hsf := @run_store_float Tryz.prog
 have HS := Lib.hid (fun (w : World) A c hc hL => refSum_any w A c x.t hc (by omega) hL)
 have hlt := crcSum_lt x.t
 obtain ⟨k, c, seq, id, t, b, q, r, s⟩ := x
 simp only at ht hlt HS hxk
 have HXK := Lib.hid hxk
 clear hxk
 obtain ⟨W0, hW0⟩ : ∃ W0, w.alloc (.cells #[.int .i64 k, .string ⟨c.toArray⟩, .int .i64 seq, .int .i64 id, .string ⟨t.toArray⟩, .string ⟨b.toArray⟩, .int .i64 q, .bool r, .int .i64 s] 25) = W0 := ⟨_, rfl⟩
 have k0 : Keeps w W0 [] := by rw [← hW0]; exact Keeps.alloc _ _
 have r0 : Row W0 w.heap.size 25 #[.int .i64 k, .string ⟨c.toArray⟩, .int .i64 seq, .int .i64 id, .string ⟨t.toArray⟩, .string ⟨b.toArray⟩, .int .i64 q, .bool r, .int .i64 s] := by rw [← hW0]; exact Row.new _ _ _
 have HR := Lib.hid (And.intro k0 r0)
 have x0 := r0.cell 0
 have x1 := r0.cell 1
 have x2 := r0.cell 2
 have x3 := r0.cell 3
 have x4 := r0.cell 4
 have x5 := r0.cell 5
 have x6 := r0.cell 6
 have x7 := r0.cell 7
 have x8 := r0.cell 8
 simp only [List.getElem?_toArray, List.getElem?_cons_zero, List.getElem?_cons_succ] at x0 x1 x2 x3 x4 x5 x6 x7 x8
 clear k0 r0
 obtain ⟨cap, W1, hcv, hcap, k1, hL⟩ := conv_by2 W0 t
 have HC := Lib.hid (HS.out W1 (some ⟨W0.heap.size, 0, none⟩) cap hcap hL)
 have HW := Lib.hid (show ∀ w : World, Calls Tryz.prog 32 #[.int .i64 (crcSum t : Nat)] w fun e w' => e = .returned (.agg #[.int .i64 1, .int .i64 (crcSum t : Nat), .float .f64 0, .string ⟨#[]⟩]) ∧ Keeps w w' [] from fun w => rrWhole_any (crcSum t : Nat) w)
 have HR := Lib.hid (show Keeps w W1 [] ∧ Row W1 w.heap.size 25 #[.int .i64 k, .string ⟨c.toArray⟩, .int .i64 seq, .int .i64 id, .string ⟨t.toArray⟩, .string ⟨b.toArray⟩, .int .i64 q, .bool r, .int .i64 s] from ⟨HR.out.1.then_ k1, HR.out.2.keeps k1⟩)
 clear k1 hL
 obtain ⟨n, hn⟩ : ∃ n : Nat, crcSum t = n := ⟨_, rfl⟩
 have HN := Lib.hid (show rcSum t = kInt n by unfold rcSum; rw [hn])
 rw [hn] at HC HW hlt
 clear hn HS
 go_enter Tryz.func31, Tryz.ntmps31
 go_wp2_with fail
 refine HC.out.mono ?_
 rintro e w9 ⟨rfl, rfl⟩
 go_wp2_with fail
 refine (HW.out _).mono ?_
 rintro e w5 ⟨rfl, hk5⟩
 have r5 := HR.out.2.keeps hk5
 have k5 := HR.out.1.then_ hk5
 clear x0 x1 x2 x3 x4 x5 x6 x7 x8 hk5 hcv HC HW hW0
 obtain ⟨Wa, hWa⟩ : ∃ Wa, w5.alloc (.cells #[.int .i64 0, .int .i64 0, .float .f64 0, .string ⟨#[]⟩] 63) = Wa := ⟨_, rfl⟩
 have ra : Row Wa w5.heap.size 63 #[.int .i64 0, .int .i64 0, .float .f64 0, .string ⟨#[]⟩] := by rw [← hWa]; exact Row.new _ _ _
 have ka : Keeps w5 Wa [] := by rw [← hWa]; exact Keeps.alloc _ _
 obtain ⟨z, hz⟩ : ∃ z, w5.heap.size = z := ⟨_, rfl⟩
 rw [hz] at ra
 obtain ⟨W6, hW6⟩ : ∃ W6, ptSet Wa z (.int .i64 1) (.int .i64 n) (.float .f64 0) (.string ⟨#[]⟩) = W6 := ⟨_, rfl⟩
 obtain ⟨q6, k6⟩ := pt_fill (v0 := .int .i64 1) (v1 := .int .i64 n) (v2 := .float .f64 0) (v3 := .string ⟨#[]⟩) ra
 unfold ptSet at hW6
 rw [hW6] at q6 k6
 have k56 : Keeps w5 W6 [] := ka.trans k6 (fun x hx hlt => by simp at hx; omega)
 have r6 := r5.keeps k56
 have HR := Lib.hid (And.intro (k5.then_ k56) (And.intro r6 q6))
 have u0 := ra.cell 0
 have u1 := ra.cell 1
 have u2 := ra.cell 2
 have u3 := ra.cell 3
 simp only [List.getElem?_toArray, List.getElem?_cons_zero, List.getElem?_cons_succ] at u0 u1 u2 u3
 have g0 := ra.frozen 0
 have g1 := ra.frozen 1
 have g2 := ra.frozen 2
 have g3 := ra.frozen 3
 clear r5 k5 ra ka q6 k6 k56
 go_upto_region 2 with fail
 clear u0 u1 u2 u3 g0 g1 g2 g3
 try rw [hWa]
 try rw [hW6]
 try rw [hz]
 clear hW6 hWa hz
 have x0 := r6.cell 0
 have x1 := r6.cell 1
 have x2 := r6.cell 2
 have x3 := r6.cell 3
 have x4 := r6.cell 4
 have x5 := r6.cell 5
 have x6 := r6.cell 6
 have x7 := r6.cell 7
 have x8 := r6.cell 8
 simp only [List.getElem?_toArray, List.getElem?_cons_zero, List.getElem?_cons_succ] at x0 x1 x2 x3 x4 x5 x6 x7 x8
 have y0 := HR.out.2.2.cell 0
 have y1 := HR.out.2.2.cell 1
 have y2 := HR.out.2.2.cell 2
 have y3 := HR.out.2.2.cell 3
 simp only [List.getElem?_toArray, List.getElem?_cons_zero, List.getElem?_cons_succ] at y0 y1 y2 y3
 clear r6
 have hxk := HXK.out
 clear HXK
 subst hxk
 have HT := Lib.hid (show ∀ w : World, Calls Tryz.prog 81 #[.string ⟨c.toArray⟩] w fun e w' => e = .returned (.agg #[.int .i64 3, .int .i64 0, .float .f64 0, .string ⟨c.toArray⟩]) ∧ Keeps w w' [] from fun w => rrText_any c w)
 go_wp2_with fail
 go_ret
 exact ⟨_, rfl, by
  have e : rcParts 5 ⟨5, c, seq, id, t, b, q, r, s⟩ = [kInt n] := congrArg (fun z => [z]) HN.out
  rw [e]
  exact ownP_row (l := [kInt n]) HR.out.1.size (by simp) (Row.new _ _ _), HR.out.1.then_alloc _⟩
set_option maxRecDepth 100000 in
set_option maxHeartbeats 2000000 in
theorem rrPts2_any (x : Rw) (w : World) (hxk : x.k = 2) (ht : x.t.length ≤ 1000000) : Calls Tryz.prog 31 #[rwV x] w (PtPost w (rcParts x.k x)) := by
 have hsf := @run_store_float Tryz.prog
 have HS := Lib.hid (fun (w : World) A c hc hL => refSum_any w A c x.t hc (by omega) hL)
 have hlt := crcSum_lt x.t
 obtain ⟨k, c, seq, id, t, b, q, r, s⟩ := x
 simp only at ht hlt HS hxk
 have HXK := Lib.hid hxk
 clear hxk
 obtain ⟨W0, hW0⟩ : ∃ W0, w.alloc (.cells #[.int .i64 k, .string ⟨c.toArray⟩, .int .i64 seq, .int .i64 id, .string ⟨t.toArray⟩, .string ⟨b.toArray⟩, .int .i64 q, .bool r, .int .i64 s] 25) = W0 := ⟨_, rfl⟩
 have k0 : Keeps w W0 [] := by rw [← hW0]; exact Keeps.alloc _ _
 have r0 : Row W0 w.heap.size 25 #[.int .i64 k, .string ⟨c.toArray⟩, .int .i64 seq, .int .i64 id, .string ⟨t.toArray⟩, .string ⟨b.toArray⟩, .int .i64 q, .bool r, .int .i64 s] := by rw [← hW0]; exact Row.new _ _ _
 have HR := Lib.hid (And.intro k0 r0)
 have x0 := r0.cell 0
 have x1 := r0.cell 1
 have x2 := r0.cell 2
 have x3 := r0.cell 3
 have x4 := r0.cell 4
 have x5 := r0.cell 5
 have x6 := r0.cell 6
 have x7 := r0.cell 7
 have x8 := r0.cell 8
 simp only [List.getElem?_toArray, List.getElem?_cons_zero, List.getElem?_cons_succ] at x0 x1 x2 x3 x4 x5 x6 x7 x8
 clear k0 r0
 obtain ⟨cap, W1, hcv, hcap, k1, hL⟩ := conv_by2 W0 t
 have HC := Lib.hid (HS.out W1 (some ⟨W0.heap.size, 0, none⟩) cap hcap hL)
 have HW := Lib.hid (show ∀ w : World, Calls Tryz.prog 32 #[.int .i64 (crcSum t : Nat)] w fun e w' => e = .returned (.agg #[.int .i64 1, .int .i64 (crcSum t : Nat), .float .f64 0, .string ⟨#[]⟩]) ∧ Keeps w w' [] from fun w => rrWhole_any (crcSum t : Nat) w)
 have HR := Lib.hid (show Keeps w W1 [] ∧ Row W1 w.heap.size 25 #[.int .i64 k, .string ⟨c.toArray⟩, .int .i64 seq, .int .i64 id, .string ⟨t.toArray⟩, .string ⟨b.toArray⟩, .int .i64 q, .bool r, .int .i64 s] from ⟨HR.out.1.then_ k1, HR.out.2.keeps k1⟩)
 clear k1 hL
 obtain ⟨n, hn⟩ : ∃ n : Nat, crcSum t = n := ⟨_, rfl⟩
 have HN := Lib.hid (show rcSum t = kInt n by unfold rcSum; rw [hn])
 rw [hn] at HC HW hlt
 clear hn HS
 go_enter Tryz.func31, Tryz.ntmps31
 go_wp2_with fail
 refine HC.out.mono ?_
 rintro e w9 ⟨rfl, rfl⟩
 go_wp2_with fail
 refine (HW.out _).mono ?_
 rintro e w5 ⟨rfl, hk5⟩
 have r5 := HR.out.2.keeps hk5
 have k5 := HR.out.1.then_ hk5
 clear x0 x1 x2 x3 x4 x5 x6 x7 x8 hk5 hcv HC HW hW0
 obtain ⟨Wa, hWa⟩ : ∃ Wa, w5.alloc (.cells #[.int .i64 0, .int .i64 0, .float .f64 0, .string ⟨#[]⟩] 63) = Wa := ⟨_, rfl⟩
 have ra : Row Wa w5.heap.size 63 #[.int .i64 0, .int .i64 0, .float .f64 0, .string ⟨#[]⟩] := by rw [← hWa]; exact Row.new _ _ _
 have ka : Keeps w5 Wa [] := by rw [← hWa]; exact Keeps.alloc _ _
 obtain ⟨z, hz⟩ : ∃ z, w5.heap.size = z := ⟨_, rfl⟩
 rw [hz] at ra
 obtain ⟨W6, hW6⟩ : ∃ W6, ptSet Wa z (.int .i64 1) (.int .i64 n) (.float .f64 0) (.string ⟨#[]⟩) = W6 := ⟨_, rfl⟩
 obtain ⟨q6, k6⟩ := pt_fill (v0 := .int .i64 1) (v1 := .int .i64 n) (v2 := .float .f64 0) (v3 := .string ⟨#[]⟩) ra
 unfold ptSet at hW6
 rw [hW6] at q6 k6
 have k56 : Keeps w5 W6 [] := ka.trans k6 (fun x hx hlt => by simp at hx; omega)
 have r6 := r5.keeps k56
 have HR := Lib.hid (And.intro (k5.then_ k56) (And.intro r6 q6))
 have u0 := ra.cell 0
 have u1 := ra.cell 1
 have u2 := ra.cell 2
 have u3 := ra.cell 3
 simp only [List.getElem?_toArray, List.getElem?_cons_zero, List.getElem?_cons_succ] at u0 u1 u2 u3
 have g0 := ra.frozen 0
 have g1 := ra.frozen 1
 have g2 := ra.frozen 2
 have g3 := ra.frozen 3
 clear r5 k5 ra ka q6 k6 k56
 go_upto_region 2 with fail
 clear u0 u1 u2 u3 g0 g1 g2 g3
 try rw [hWa]
 try rw [hW6]
 try rw [hz]
 clear hW6 hWa hz
 have x0 := r6.cell 0
 have x1 := r6.cell 1
 have x2 := r6.cell 2
 have x3 := r6.cell 3
 have x4 := r6.cell 4
 have x5 := r6.cell 5
 have x6 := r6.cell 6
 have x7 := r6.cell 7
 have x8 := r6.cell 8
 simp only [List.getElem?_toArray, List.getElem?_cons_zero, List.getElem?_cons_succ] at x0 x1 x2 x3 x4 x5 x6 x7 x8
 have y0 := HR.out.2.2.cell 0
 have y1 := HR.out.2.2.cell 1
 have y2 := HR.out.2.2.cell 2
 have y3 := HR.out.2.2.cell 3
 simp only [List.getElem?_toArray, List.getElem?_cons_zero, List.getElem?_cons_succ] at y0 y1 y2 y3
 clear r6
 have hxk := HXK.out
 clear HXK
 subst hxk
 have HT := Lib.hid (show ∀ w : World, Calls Tryz.prog 81 #[.string ⟨c.toArray⟩] w fun e w' => e = .returned (.agg #[.int .i64 3, .int .i64 0, .float .f64 0, .string ⟨c.toArray⟩]) ∧ Keeps w w' [] from fun w => rrText_any c w)
 go_upto_region 6 with fail
 clear x0 x1 x2 x3 x4 x5 x6 x7 x8 y0 y1 y2 y3
 have M1 := fun (W' : World) (hW : Keeps W6 W' []) => (HR.out.2.1.keeps hW).cell 1
 have N0 := fun (W' : World) (hW : Keeps W6 W' []) => (HR.out.2.2.keeps hW).cell 0
 have N1 := fun (W' : World) (hW : Keeps W6 W' []) => (HR.out.2.2.keeps hW).cell 1
 have N2 := fun (W' : World) (hW : Keeps W6 W' []) => (HR.out.2.2.keeps hW).cell 2
 have N3 := fun (W' : World) (hW : Keeps W6 W' []) => (HR.out.2.2.keeps hW).cell 3
 simp only [List.getElem?_toArray, List.getElem?_cons_zero, List.getElem?_cons_succ] at M1 N0 N1 N2 N3
 refine wp_region_tail KeepsAll _ 5 (by kernel_rfl) rfl (by kernel_rfl) (fun _ => Keeps.refl _ _) (fun _ _ _ h k => h.trans k (by simp)) (Keeps.drew _) ?_
 simp only [List.take_succ_cons, List.take_zero, List.drop_succ_cons, List.drop_zero]
 apply loose_is
 ·intro W vals hW hkn
  clear hkn
  refine ⟨?_⟩
  simp only [fill]
  go_simp
  first | exact ⟨Keeps.refl _ _, rfl⟩ | exact ⟨Keeps.alloc _ _, rfl⟩
 simp only [addEnt]
 apply loose_is
 ·intro W vals hW hkn
  simp only [knows] at hkn
  try simp only [and_true] at hkn
  clear hkn; have m1 := M1 W hW
  refine ⟨?_⟩
  simp only [fill]
  go_simp
  first | exact ⟨Keeps.refl _ _, rfl⟩ | exact ⟨Keeps.alloc _ _, rfl⟩
 simp only [addEnt]
 apply loose_is
 ·intro W vals hW hkn
  clear hkn
  refine ⟨?_⟩
  simp only [fill]
  go_simp
  refine looseUpon_calls ?_
  exact (HT.out W).mono (by rintro e w3 ⟨rfl, hk⟩; exact ⟨_, rfl, hk, rfl⟩)
 simp only [addEnt]
 apply loose_is
 ·intro W vals hW hkn
  simp only [knows] at hkn
  try simp only [and_true] at hkn
  clear hkn; have m0 := N0 W hW; have m1 := N1 W hW; have m2 := N2 W hW; have m3 := N3 W hW
  refine ⟨?_⟩
  simp only [fill]
  go_simp
  first | exact ⟨Keeps.refl _ _, rfl⟩ | exact ⟨Keeps.alloc _ _, rfl⟩
 simp only [addEnt]
 refine loose_has (fun v W' => ∃ b', v = .slice (some ⟨b', 0, none⟩) 2 2 ∧ Row W' b' 63 ([kText c, kInt n].flatMap kpCells).toArray ∧ W6.heap.size ≤ b') (fun W vals hW hkn φ' hφ => ?_) ?_
 ·simp only [knows] at hkn
  try simp only [and_true] at hkn
  clear hkn
  refine ⟨?_⟩
  simp only [fill]
  go_simp
  exact ⟨Keeps.alloc _ _, hφ.out _ _ ⟨_, rfl, Row.new _ _ _, hW.size⟩⟩
 simp only [addEnt]
 refine loose_nil (fun W vals hW hkn => ?_)
 simp only [knowsAll] at hkn
 try simp only [and_true] at hkn
 simp only [fill, Act.put, List.setIfInBounds_toArray, List.set_cons_succ, List.set_cons_zero]
 obtain ⟨W1, h0, h1, b', hv, hr, hb⟩ := hkn
 have HZ := Lib.hid (And.intro (hr.keeps h1) (And.intro (Nat.le_trans HR.out.1.size hb) (HR.out.1.then_ hW)))
 rw [hv]
 clear hv hr hb h0 h1 hW M1 N0 N1 N2 N3
 go_wp2_with fail
 go_ret
 exact ⟨_, rfl, by
  have e : rcParts 2 ⟨2, c, seq, id, t, b, q, r, s⟩ = [kText c, kInt n] := congrArg (fun z => [kText c, z]) HN.out
  rw [e]
  exact ownP_row (l := [kText c, kInt n]) HZ.out.2.1 (by simp) HZ.out.1, HZ.out.2.2⟩
set_option maxRecDepth 100000 in
set_option maxHeartbeats 2000000 in
theorem rrPts3_any (x : Rw) (w : World) (hxk : x.k = 3) (ht : x.t.length ≤ 1000000) : Calls Tryz.prog 31 #[rwV x] w (PtPost w (rcParts x.k x)) := by
 have hsf := @run_store_float Tryz.prog
 have HS := Lib.hid (fun (w : World) A c hc hL => refSum_any w A c x.t hc (by omega) hL)
 have hlt := crcSum_lt x.t
 obtain ⟨k, c, seq, id, t, b, q, r, s⟩ := x
 simp only at ht hlt HS hxk
 have HXK := Lib.hid hxk
 clear hxk
 obtain ⟨W0, hW0⟩ : ∃ W0, w.alloc (.cells #[.int .i64 k, .string ⟨c.toArray⟩, .int .i64 seq, .int .i64 id, .string ⟨t.toArray⟩, .string ⟨b.toArray⟩, .int .i64 q, .bool r, .int .i64 s] 25) = W0 := ⟨_, rfl⟩
 have k0 : Keeps w W0 [] := by rw [← hW0]; exact Keeps.alloc _ _
 have r0 : Row W0 w.heap.size 25 #[.int .i64 k, .string ⟨c.toArray⟩, .int .i64 seq, .int .i64 id, .string ⟨t.toArray⟩, .string ⟨b.toArray⟩, .int .i64 q, .bool r, .int .i64 s] := by rw [← hW0]; exact Row.new _ _ _
 have HR := Lib.hid (And.intro k0 r0)
 have x0 := r0.cell 0
 have x1 := r0.cell 1
 have x2 := r0.cell 2
 have x3 := r0.cell 3
 have x4 := r0.cell 4
 have x5 := r0.cell 5
 have x6 := r0.cell 6
 have x7 := r0.cell 7
 have x8 := r0.cell 8
 simp only [List.getElem?_toArray, List.getElem?_cons_zero, List.getElem?_cons_succ] at x0 x1 x2 x3 x4 x5 x6 x7 x8
 clear k0 r0
 obtain ⟨cap, W1, hcv, hcap, k1, hL⟩ := conv_by2 W0 t
 have HC := Lib.hid (HS.out W1 (some ⟨W0.heap.size, 0, none⟩) cap hcap hL)
 have HW := Lib.hid (show ∀ w : World, Calls Tryz.prog 32 #[.int .i64 (crcSum t : Nat)] w fun e w' => e = .returned (.agg #[.int .i64 1, .int .i64 (crcSum t : Nat), .float .f64 0, .string ⟨#[]⟩]) ∧ Keeps w w' [] from fun w => rrWhole_any (crcSum t : Nat) w)
 have HR := Lib.hid (show Keeps w W1 [] ∧ Row W1 w.heap.size 25 #[.int .i64 k, .string ⟨c.toArray⟩, .int .i64 seq, .int .i64 id, .string ⟨t.toArray⟩, .string ⟨b.toArray⟩, .int .i64 q, .bool r, .int .i64 s] from ⟨HR.out.1.then_ k1, HR.out.2.keeps k1⟩)
 clear k1 hL
 obtain ⟨n, hn⟩ : ∃ n : Nat, crcSum t = n := ⟨_, rfl⟩
 have HN := Lib.hid (show rcSum t = kInt n by unfold rcSum; rw [hn])
 rw [hn] at HC HW hlt
 clear hn HS
 go_enter Tryz.func31, Tryz.ntmps31
 go_wp2_with fail
 refine HC.out.mono ?_
 rintro e w9 ⟨rfl, rfl⟩
 go_wp2_with fail
 refine (HW.out _).mono ?_
 rintro e w5 ⟨rfl, hk5⟩
 have r5 := HR.out.2.keeps hk5
 have k5 := HR.out.1.then_ hk5
 clear x0 x1 x2 x3 x4 x5 x6 x7 x8 hk5 hcv HC HW hW0
 obtain ⟨Wa, hWa⟩ : ∃ Wa, w5.alloc (.cells #[.int .i64 0, .int .i64 0, .float .f64 0, .string ⟨#[]⟩] 63) = Wa := ⟨_, rfl⟩
 have ra : Row Wa w5.heap.size 63 #[.int .i64 0, .int .i64 0, .float .f64 0, .string ⟨#[]⟩] := by rw [← hWa]; exact Row.new _ _ _
 have ka : Keeps w5 Wa [] := by rw [← hWa]; exact Keeps.alloc _ _
 obtain ⟨z, hz⟩ : ∃ z, w5.heap.size = z := ⟨_, rfl⟩
 rw [hz] at ra
 obtain ⟨W6, hW6⟩ : ∃ W6, ptSet Wa z (.int .i64 1) (.int .i64 n) (.float .f64 0) (.string ⟨#[]⟩) = W6 := ⟨_, rfl⟩
 obtain ⟨q6, k6⟩ := pt_fill (v0 := .int .i64 1) (v1 := .int .i64 n) (v2 := .float .f64 0) (v3 := .string ⟨#[]⟩) ra
 unfold ptSet at hW6
 rw [hW6] at q6 k6
 have k56 : Keeps w5 W6 [] := ka.trans k6 (fun x hx hlt => by simp at hx; omega)
 have r6 := r5.keeps k56
 have HR := Lib.hid (And.intro (k5.then_ k56) (And.intro r6 q6))
 have u0 := ra.cell 0
 have u1 := ra.cell 1
 have u2 := ra.cell 2
 have u3 := ra.cell 3
 simp only [List.getElem?_toArray, List.getElem?_cons_zero, List.getElem?_cons_succ] at u0 u1 u2 u3
 have g0 := ra.frozen 0
 have g1 := ra.frozen 1
 have g2 := ra.frozen 2
 have g3 := ra.frozen 3
 clear r5 k5 ra ka q6 k6 k56
 go_upto_region 2 with fail
 clear u0 u1 u2 u3 g0 g1 g2 g3
 try rw [hWa]
 try rw [hW6]
 try rw [hz]
 clear hW6 hWa hz
 have x0 := r6.cell 0
 have x1 := r6.cell 1
 have x2 := r6.cell 2
 have x3 := r6.cell 3
 have x4 := r6.cell 4
 have x5 := r6.cell 5
 have x6 := r6.cell 6
 have x7 := r6.cell 7
 have x8 := r6.cell 8
 simp only [List.getElem?_toArray, List.getElem?_cons_zero, List.getElem?_cons_succ] at x0 x1 x2 x3 x4 x5 x6 x7 x8
 have y0 := HR.out.2.2.cell 0
 have y1 := HR.out.2.2.cell 1
 have y2 := HR.out.2.2.cell 2
 have y3 := HR.out.2.2.cell 3
 simp only [List.getElem?_toArray, List.getElem?_cons_zero, List.getElem?_cons_succ] at y0 y1 y2 y3
 clear r6
 have hxk := HXK.out
 clear HXK
 subst hxk
 have HT := Lib.hid (show ∀ w : World, Calls Tryz.prog 81 #[.string ⟨c.toArray⟩] w fun e w' => e = .returned (.agg #[.int .i64 3, .int .i64 0, .float .f64 0, .string ⟨c.toArray⟩]) ∧ Keeps w w' [] from fun w => rrText_any c w)
 go_upto_region 8 with fail
 clear x0 x1 x2 x3 x4 x5 x6 x7 x8 y0 y1 y2 y3
 have HW2 := Lib.hid (show ∀ w : World, Calls Tryz.prog 32 #[.int .i64 seq] w fun e w' => e = .returned (.agg #[.int .i64 1, .int .i64 seq, .float .f64 0, .string ⟨#[]⟩]) ∧ Keeps w w' [] from fun w => rrWhole_any seq w)
 have M1 := fun (W' : World) (hW : Keeps W6 W' []) => (HR.out.2.1.keeps hW).cell 1
 have M2 := fun (W' : World) (hW : Keeps W6 W' []) => (HR.out.2.1.keeps hW).cell 2
 simp only [List.getElem?_toArray, List.getElem?_cons_zero, List.getElem?_cons_succ] at M1 M2
 refine wp_region_tail KeepsAll _ 7 (by kernel_rfl) rfl (by kernel_rfl) (fun _ => Keeps.refl _ _) (fun _ _ _ h k => h.trans k (by simp)) (Keeps.drew _) ?_
 simp only [List.take_succ_cons, List.take_zero, List.drop_succ_cons, List.drop_zero]
 apply loose_is
 ·intro W vals hW hkn
  clear hkn
  refine ⟨?_⟩
  simp only [fill]
  go_simp
  first | exact ⟨Keeps.refl _ _, rfl⟩ | exact ⟨Keeps.alloc _ _, rfl⟩
 simp only [addEnt]
 apply loose_is
 ·intro W vals hW hkn
  simp only [knows] at hkn
  try simp only [and_true] at hkn
  clear hkn; have m1 := M1 W hW
  refine ⟨?_⟩
  simp only [fill]
  go_simp
  first | exact ⟨Keeps.refl _ _, rfl⟩ | exact ⟨Keeps.alloc _ _, rfl⟩
 simp only [addEnt]
 apply loose_is
 ·intro W vals hW hkn
  clear hkn
  refine ⟨?_⟩
  simp only [fill]
  go_simp
  refine looseUpon_calls ?_
  exact (HT.out W).mono (by rintro e w3 ⟨rfl, hk⟩; exact ⟨_, rfl, hk, rfl⟩)
 simp only [addEnt]
 apply loose_is
 ·intro W vals hW hkn
  clear hkn
  refine ⟨?_⟩
  simp only [fill]
  go_simp
  first | exact ⟨Keeps.refl _ _, rfl⟩ | exact ⟨Keeps.alloc _ _, rfl⟩
 simp only [addEnt]
 apply loose_is
 ·intro W vals hW hkn
  simp only [knows] at hkn
  try simp only [and_true] at hkn
  clear hkn; have m1 := M2 W hW
  refine ⟨?_⟩
  simp only [fill]
  go_simp
  first | exact ⟨Keeps.refl _ _, rfl⟩ | exact ⟨Keeps.alloc _ _, rfl⟩
 simp only [addEnt]
 apply loose_is
 ·intro W vals hW hkn
  clear hkn
  refine ⟨?_⟩
  simp only [fill]
  go_simp
  refine looseUpon_calls ?_
  exact (HW2.out W).mono (by rintro e w3 ⟨rfl, hk⟩; exact ⟨_, rfl, hk, rfl⟩)
 simp only [addEnt]
 refine loose_has (fun v W' => ∃ b', v = .slice (some ⟨b', 0, none⟩) 2 2 ∧ Row W' b' 63 ([kText c, kInt seq].flatMap kpCells).toArray ∧ W6.heap.size ≤ b') (fun W vals hW hkn φ' hφ => ?_) ?_
 ·simp only [knows] at hkn
  try simp only [and_true] at hkn
  clear hkn
  refine ⟨?_⟩
  simp only [fill]
  go_simp
  exact ⟨Keeps.alloc _ _, hφ.out _ _ ⟨_, rfl, Row.new _ _ _, hW.size⟩⟩
 simp only [addEnt]
 refine loose_nil (fun W vals hW hkn => ?_)
 simp only [knowsAll] at hkn
 try simp only [and_true] at hkn
 simp only [fill, Act.put, List.setIfInBounds_toArray, List.set_cons_succ, List.set_cons_zero]
 obtain ⟨W1, h0, h1, b', hv, hr, hb⟩ := hkn
 have HZ := Lib.hid (And.intro (hr.keeps h1) (And.intro (Nat.le_trans HR.out.1.size hb) (HR.out.1.then_ hW)))
 rw [hv]
 clear hv hr hb h0 h1 hW M1 M2
 go_wp2_with fail
 go_ret
 exact ⟨_, rfl, ownP_row (l := [kText c, kInt seq]) HZ.out.2.1 (by simp) HZ.out.1, HZ.out.2.2⟩
set_option maxRecDepth 100000 in
set_option maxHeartbeats 2000000 in
theorem rrPts4_any (x : Rw) (w : World) (hxk : x.k = 4) (ht : x.t.length ≤ 1000000) : Calls Tryz.prog 31 #[rwV x] w (PtPost w (rcParts x.k x)) := by
 have hsf := @run_store_float Tryz.prog
 have HS := Lib.hid (fun (w : World) A c hc hL => refSum_any w A c x.t hc (by omega) hL)
 have hlt := crcSum_lt x.t
 obtain ⟨k, c, seq, id, t, b, q, r, s⟩ := x
 simp only at ht hlt HS hxk
 have HXK := Lib.hid hxk
 clear hxk
 obtain ⟨W0, hW0⟩ : ∃ W0, w.alloc (.cells #[.int .i64 k, .string ⟨c.toArray⟩, .int .i64 seq, .int .i64 id, .string ⟨t.toArray⟩, .string ⟨b.toArray⟩, .int .i64 q, .bool r, .int .i64 s] 25) = W0 := ⟨_, rfl⟩
 have k0 : Keeps w W0 [] := by rw [← hW0]; exact Keeps.alloc _ _
 have r0 : Row W0 w.heap.size 25 #[.int .i64 k, .string ⟨c.toArray⟩, .int .i64 seq, .int .i64 id, .string ⟨t.toArray⟩, .string ⟨b.toArray⟩, .int .i64 q, .bool r, .int .i64 s] := by rw [← hW0]; exact Row.new _ _ _
 have HR := Lib.hid (And.intro k0 r0)
 have x0 := r0.cell 0
 have x1 := r0.cell 1
 have x2 := r0.cell 2
 have x3 := r0.cell 3
 have x4 := r0.cell 4
 have x5 := r0.cell 5
 have x6 := r0.cell 6
 have x7 := r0.cell 7
 have x8 := r0.cell 8
 simp only [List.getElem?_toArray, List.getElem?_cons_zero, List.getElem?_cons_succ] at x0 x1 x2 x3 x4 x5 x6 x7 x8
 clear k0 r0
 obtain ⟨cap, W1, hcv, hcap, k1, hL⟩ := conv_by2 W0 t
 have HC := Lib.hid (HS.out W1 (some ⟨W0.heap.size, 0, none⟩) cap hcap hL)
 have HW := Lib.hid (show ∀ w : World, Calls Tryz.prog 32 #[.int .i64 (crcSum t : Nat)] w fun e w' => e = .returned (.agg #[.int .i64 1, .int .i64 (crcSum t : Nat), .float .f64 0, .string ⟨#[]⟩]) ∧ Keeps w w' [] from fun w => rrWhole_any (crcSum t : Nat) w)
 have HR := Lib.hid (show Keeps w W1 [] ∧ Row W1 w.heap.size 25 #[.int .i64 k, .string ⟨c.toArray⟩, .int .i64 seq, .int .i64 id, .string ⟨t.toArray⟩, .string ⟨b.toArray⟩, .int .i64 q, .bool r, .int .i64 s] from ⟨HR.out.1.then_ k1, HR.out.2.keeps k1⟩)
 clear k1 hL
 obtain ⟨n, hn⟩ : ∃ n : Nat, crcSum t = n := ⟨_, rfl⟩
 have HN := Lib.hid (show rcSum t = kInt n by unfold rcSum; rw [hn])
 rw [hn] at HC HW hlt
 clear hn HS
 go_enter Tryz.func31, Tryz.ntmps31
 go_wp2_with fail
 refine HC.out.mono ?_
 rintro e w9 ⟨rfl, rfl⟩
 go_wp2_with fail
 refine (HW.out _).mono ?_
 rintro e w5 ⟨rfl, hk5⟩
 have r5 := HR.out.2.keeps hk5
 have k5 := HR.out.1.then_ hk5
 clear x0 x1 x2 x3 x4 x5 x6 x7 x8 hk5 hcv HC HW hW0
 obtain ⟨Wa, hWa⟩ : ∃ Wa, w5.alloc (.cells #[.int .i64 0, .int .i64 0, .float .f64 0, .string ⟨#[]⟩] 63) = Wa := ⟨_, rfl⟩
 have ra : Row Wa w5.heap.size 63 #[.int .i64 0, .int .i64 0, .float .f64 0, .string ⟨#[]⟩] := by rw [← hWa]; exact Row.new _ _ _
 have ka : Keeps w5 Wa [] := by rw [← hWa]; exact Keeps.alloc _ _
 obtain ⟨z, hz⟩ : ∃ z, w5.heap.size = z := ⟨_, rfl⟩
 rw [hz] at ra
 obtain ⟨W6, hW6⟩ : ∃ W6, ptSet Wa z (.int .i64 1) (.int .i64 n) (.float .f64 0) (.string ⟨#[]⟩) = W6 := ⟨_, rfl⟩
 obtain ⟨q6, k6⟩ := pt_fill (v0 := .int .i64 1) (v1 := .int .i64 n) (v2 := .float .f64 0) (v3 := .string ⟨#[]⟩) ra
 unfold ptSet at hW6
 rw [hW6] at q6 k6
 have k56 : Keeps w5 W6 [] := ka.trans k6 (fun x hx hlt => by simp at hx; omega)
 have r6 := r5.keeps k56
 have HR := Lib.hid (And.intro (k5.then_ k56) (And.intro r6 q6))
 have u0 := ra.cell 0
 have u1 := ra.cell 1
 have u2 := ra.cell 2
 have u3 := ra.cell 3
 simp only [List.getElem?_toArray, List.getElem?_cons_zero, List.getElem?_cons_succ] at u0 u1 u2 u3
 have g0 := ra.frozen 0
 have g1 := ra.frozen 1
 have g2 := ra.frozen 2
 have g3 := ra.frozen 3
 clear r5 k5 ra ka q6 k6 k56
 go_upto_region 2 with fail
 clear u0 u1 u2 u3 g0 g1 g2 g3
 try rw [hWa]
 try rw [hW6]
 try rw [hz]
 clear hW6 hWa hz
 have x0 := r6.cell 0
 have x1 := r6.cell 1
 have x2 := r6.cell 2
 have x3 := r6.cell 3
 have x4 := r6.cell 4
 have x5 := r6.cell 5
 have x6 := r6.cell 6
 have x7 := r6.cell 7
 have x8 := r6.cell 8
 simp only [List.getElem?_toArray, List.getElem?_cons_zero, List.getElem?_cons_succ] at x0 x1 x2 x3 x4 x5 x6 x7 x8
 have y0 := HR.out.2.2.cell 0
 have y1 := HR.out.2.2.cell 1
 have y2 := HR.out.2.2.cell 2
 have y3 := HR.out.2.2.cell 3
 simp only [List.getElem?_toArray, List.getElem?_cons_zero, List.getElem?_cons_succ] at y0 y1 y2 y3
 clear r6
 have hxk := HXK.out
 clear HXK
 subst hxk
 have HT := Lib.hid (show ∀ w : World, Calls Tryz.prog 81 #[.string ⟨c.toArray⟩] w fun e w' => e = .returned (.agg #[.int .i64 3, .int .i64 0, .float .f64 0, .string ⟨c.toArray⟩]) ∧ Keeps w w' [] from fun w => rrText_any c w)
 go_upto_region 10 with fail
 clear x0 x1 x2 x3 x4 x5 x6 x7 x8 y0 y1 y2 y3
 have HW2 := Lib.hid (show ∀ w : World, Calls Tryz.prog 32 #[.int .i64 id] w fun e w' => e = .returned (.agg #[.int .i64 1, .int .i64 id, .float .f64 0, .string ⟨#[]⟩]) ∧ Keeps w w' [] from fun w => rrWhole_any id w)
 have M1 := fun (W' : World) (hW : Keeps W6 W' []) => (HR.out.2.1.keeps hW).cell 1
 have M2 := fun (W' : World) (hW : Keeps W6 W' []) => (HR.out.2.1.keeps hW).cell 3
 simp only [List.getElem?_toArray, List.getElem?_cons_zero, List.getElem?_cons_succ] at M1 M2
 refine wp_region_tail KeepsAll _ 7 (by kernel_rfl) rfl (by kernel_rfl) (fun _ => Keeps.refl _ _) (fun _ _ _ h k => h.trans k (by simp)) (Keeps.drew _) ?_
 simp only [List.take_succ_cons, List.take_zero, List.drop_succ_cons, List.drop_zero]
 apply loose_is
 ·intro W vals hW hkn
  clear hkn
  refine ⟨?_⟩
  simp only [fill]
  go_simp
  first | exact ⟨Keeps.refl _ _, rfl⟩ | exact ⟨Keeps.alloc _ _, rfl⟩
 simp only [addEnt]
 apply loose_is
 ·intro W vals hW hkn
  simp only [knows] at hkn
  try simp only [and_true] at hkn
  clear hkn; have m1 := M1 W hW
  refine ⟨?_⟩
  simp only [fill]
  go_simp
  first | exact ⟨Keeps.refl _ _, rfl⟩ | exact ⟨Keeps.alloc _ _, rfl⟩
 simp only [addEnt]
 apply loose_is
 ·intro W vals hW hkn
  clear hkn
  refine ⟨?_⟩
  simp only [fill]
  go_simp
  refine looseUpon_calls ?_
  exact (HT.out W).mono (by rintro e w3 ⟨rfl, hk⟩; exact ⟨_, rfl, hk, rfl⟩)
 simp only [addEnt]
 apply loose_is
 ·intro W vals hW hkn
  clear hkn
  refine ⟨?_⟩
  simp only [fill]
  go_simp
  first | exact ⟨Keeps.refl _ _, rfl⟩ | exact ⟨Keeps.alloc _ _, rfl⟩
 simp only [addEnt]
 apply loose_is
 ·intro W vals hW hkn
  simp only [knows] at hkn
  try simp only [and_true] at hkn
  clear hkn; have m1 := M2 W hW
  refine ⟨?_⟩
  simp only [fill]
  go_simp
  first | exact ⟨Keeps.refl _ _, rfl⟩ | exact ⟨Keeps.alloc _ _, rfl⟩
 simp only [addEnt]
 apply loose_is
 ·intro W vals hW hkn
  clear hkn
  refine ⟨?_⟩
  simp only [fill]
  go_simp
  refine looseUpon_calls ?_
  exact (HW2.out W).mono (by rintro e w3 ⟨rfl, hk⟩; exact ⟨_, rfl, hk, rfl⟩)
 simp only [addEnt]
 refine loose_has (fun v W' => ∃ b', v = .slice (some ⟨b', 0, none⟩) 2 2 ∧ Row W' b' 63 ([kText c, kInt id].flatMap kpCells).toArray ∧ W6.heap.size ≤ b') (fun W vals hW hkn φ' hφ => ?_) ?_
 ·simp only [knows] at hkn
  try simp only [and_true] at hkn
  clear hkn
  refine ⟨?_⟩
  simp only [fill]
  go_simp
  exact ⟨Keeps.alloc _ _, hφ.out _ _ ⟨_, rfl, Row.new _ _ _, hW.size⟩⟩
 simp only [addEnt]
 refine loose_nil (fun W vals hW hkn => ?_)
 simp only [knowsAll] at hkn
 try simp only [and_true] at hkn
 simp only [fill, Act.put, List.setIfInBounds_toArray, List.set_cons_succ, List.set_cons_zero]
 obtain ⟨W1, h0, h1, b', hv, hr, hb⟩ := hkn
 have HZ := Lib.hid (And.intro (hr.keeps h1) (And.intro (Nat.le_trans HR.out.1.size hb) (HR.out.1.then_ hW)))
 rw [hv]
 clear hv hr hb h0 h1 hW M1 M2
 go_wp2_with fail
 go_ret
 exact ⟨_, rfl, ownP_row (l := [kText c, kInt id]) HZ.out.2.1 (by simp) HZ.out.1, HZ.out.2.2⟩
theorem rrParts_any (x : Rw) (w : World) (hi : rcIs x.k = true) (ht : x.t.length ≤ 1000000) : Calls Tryz.prog 31 #[rwV x] w (PtPost w (rcParts x.k x)) := by
 unfold rcIs at hi
 rw [inN_iff] at hi
 have e : x.k = 1 ∨ x.k = 2 ∨ x.k = 3 ∨ x.k = 4 ∨ x.k = 5 := by omega
 rcases e with e | e | e | e | e
 ·exact rrPts1_any x w e ht
 ·exact rrPts2_any x w e ht
 ·exact rrPts3_any x w e ht
 ·exact rrPts4_any x w e ht
 ·exact rrPts5_any x w e ht
end Go.Proofs.YtfglgeoookbppaaGreatDoor

namespace Go.Proofs.YtfglgeoookbppaaGreatDoor
open Go.RowKit

theorem div_u64 (M : Nat) (h : M < 18446744073709551616) : IntKind.u64.wrap (Int.tdiv (M : Int) 256) = ((M / 256 : Nat) : Int) := by
 rw [show Int.tdiv (M : Int) 256 = ((M / 256 : Nat) : Int) from rfl]
 exact IntWalk.u64_in _ (by omega)
theorem byte_mod (M : Nat) : Value.int .u8 (IntKind.u8.wrap (((M % 256 : Nat)) : Int)) = byteV (UInt8.ofNat M) := by
 have h : IntKind.u8.wrap (((M % 256 : Nat)) : Int) = ((M % 256 : Nat) : Int) := IntWalk.u8_in _ (by omega)
 rw [h]
 simp [byteV]
set_option maxRecDepth 100000 in
set_option maxHeartbeats 2000000 in
theorem refEight_any (w : World) (n : Nat) (hn : n < 18446744073709551616) :
  Calls Tryz.prog 103 #[.int .u64 n] w fun e w' => e = .returned (strV (toBE 8 n)) ∧ Keeps w w' [] := by
 obtain ⟨i0, hi, hz0, hz1, hz2⟩ := info_parts infoByte
 go_enter Tryz.func103, Tryz.ntmps103
 go_wp2_with (at_make; refine wpList_make_full _ rfl (.const (.int .i64 8)) (.const (.int .i64 8)) 39 rfl w.heap.size 5 i0 (.int .u8 0) 1 undBytes hi hz0 hz1 .i64 .i64 8 8 8 rfl rfl rfl rfl (by rw [hz2]; omega) (by simp [maxLen]) (Nat.le_refl _) ?_; intro w1 hown hg; have HO := Lib.hid (And.intro hown hg); clear hown hg)
 go_loopw [4, 0] (fun i q wr => ∃ j : Nat, j ≤ 8 ∧ i = .int .i64 (7 - (j : Int)) ∧ q = .int .u64 ((n / 256 ^ j : Nat) : Int) ∧ wr.ownsRow w.heap.size 5 1 (.slice (some ⟨w.heap.size, 0, none⟩) 8 8) 8 ((half 8 j n).map byteV) ∧ Keeps w wr []) (fun i _ _ => (intOf i + 1).toNat)
 case atStart =>
  refine ⟨0, by omega, by simp, by simp, ?_, Keeps.of_grown HO.out.2⟩
  have := HO.out.1
  rw [show (madeCells (Value.int .u8 0).cells (8 * 1)).toList = (half 8 0 n).map byteV by
   show (madeCells #[Value.int .u8 0] 8).toList = _
   rw [toList_madeCells_one]
   simp [half, toBE, byteV]] at this
  exact this
 case round =>
  obtain ⟨j, hj, rfl, rfl, ho, hkp⟩ := hrel
  by_cases hjk : j < 8
  ·obtain ⟨v0, hcell⟩ : ∃ v, wr.cell? ⟨w.heap.size, 7 - j, none⟩ = some v := ⟨_, by
    rw [ho.cellAt (7 - j) (by omega)]
    exact List.getElem?_eq_getElem (by rw [List.length_map, half_length _ _ _ hj]; omega)⟩
   have hfr := ho.frozenAt (7 - j)
   have HO := Lib.hid (And.intro ho hkp)
   clear ho hkp
   have HS := Lib.hid (half_set 8 j n hjk)
   have s1 : (7 : Int) - (j : Int) = ((7 - j : Nat) : Int) := by omega
   rw [s1]
   obtain ⟨M, hM⟩ : ∃ M, n / 256 ^ j = M := ⟨_, rfl⟩
   rw [hM]
   have hM2 : M < 18446744073709551616 := by rw [← hM]; exact Nat.lt_of_le_of_lt (Nat.div_le_self _ _) hn
   have hM3 : n / 256 ^ (j + 1) = M / 256 := by rw [Nat.pow_succ, ← Nat.div_div_eq_div_mul, hM]
   have d1 := div_u64 M hM2
   have HB := Lib.hid (byte_mod M)
   have HM := Lib.hid (And.intro hM hM3)
   clear hM hM3
   go_wp2
   refine ⟨⟨j + 1, by omega, congrArg (Value.int .i64) (by omega), congrArg (Value.int .u64) ?_, ?_, ?_⟩, by simp only [intOf]; omega⟩
   ·rw [HM.out.2]; rfl
   ·have hst := (HO.out.1.stored (7 - j) (byteV (UInt8.ofNat (n / 256 ^ j)))).1
    rw [← List.map_set, show 7 - j = 8 - 1 - j by omega, HS.out] at hst
    have hb := HB.out
    rw [IntWalk.u8_in _ (by omega)] at hb
    rw [show ((M : Int) % 256) = ((M % 256 : Nat) : Int) from rfl, hb, ← HM.out.1, show 7 - j = 8 - 1 - j by omega]
    exact hst
   ·exact (HO.out.2.weaken (T := [w.heap.size]) (by simp)).trans (Keeps.setCell _ _ _) (by simp) |>.weaken (fun x hx hl => by simp at hx; omega)
  ·obtain rfl : j = 8 := by omega
   have hq : half 8 8 n = toBE 8 n := by simp [half]
   rw [hq] at ho
   have HC := Lib.hid (conv_str wr _ _ 8 (toBE 8 n) (Lies.of_own ho))
   clear hq
   have HK := Lib.hid hkp
   clear ho hkp
   have hc := HC.out
   rw [toBE_length] at hc
   go_wp2
   go_ret
   exact ⟨rfl, HK.out⟩
end Go.Proofs.YtfglgeoookbppaaGreatDoor

namespace Go.Proofs.YtfglgeoookbppaaGreatDoor
open Go.RowKit Ieee

theorem strV_toList (a : List UInt8) : (⟨a.toArray⟩ : ByteArray).toList = a := by rw [Lib.toList_data]
theorem kUp_lt {n : Int} (h2 : n ≤ 9223372036854775807) : kUp n < 18446744073709551616 := by unfold kUp; omega
theorem kMay_kind {p : KP} (h : kMay p = true) : p.k = 1 ∨ p.k = 2 ∨ p.k = 3 := by rcases kMay_cases h with ⟨g, _, _⟩ | ⟨g, _, _⟩ | ⟨g, _, _⟩ <;> simp [g]
theorem bLt_snoc : ∀ (l m : List UInt8) (a b : UInt8), l.length = m.length → Op.bytesLess (l ++ [a]) (m ++ [b]) = (Op.bytesLess l m || (l == m && decide (a < b)))
 | [], [], a, b, _ => by simp [Op.bytesLess]
 | x :: l, y :: m, a, b, h => by
  have ih := bLt_snoc l m a b (by simpa using h)
  simp only [List.cons_append, Op.bytesLess, ih]
  by_cases he : x = y
  ·subst he
   have : ¬ x < x := UInt8.lt_irrefl x
   simp [this]
  ·have h1 : (x == y) = false := by simpa using he
   have h2 : (x :: l == y :: m) = false := by simp [he]
   simp only [h1, h2, Bool.false_and, Bool.or_false]
theorem toBE_inj {k a b : Nat} (ha : a < 256 ^ k) (hb : b < 256 ^ k) (h : toBE k a = toBE k b) : a = b := by
 rw [← beN_toBE k a ha, ← beN_toBE k b hb, h]
theorem bLt_toBE : ∀ (k a b : Nat), a < 256 ^ k → b < 256 ^ k → Op.bytesLess (toBE k a) (toBE k b) = decide (a < b)
 | 0, a, b, ha, hb => by
  have : a = 0 := by simpa using ha
  have : b = 0 := by simpa using hb
  subst a b
  rfl
 | k + 1, a, b, ha, hb => by
  rw [Nat.pow_succ] at ha hb
  have ih := bLt_toBE k (a / 256) (b / 256) (by omega) (by omega)
  show Op.bytesLess (toBE k (a / 256) ++ [UInt8.ofNat (a % 256)]) (toBE k (b / 256) ++ [UInt8.ofNat (b % 256)]) = _
  rw [bLt_snoc _ _ _ _ (by rw [toBE_length, toBE_length]), ih]
  have hl : decide (UInt8.ofNat (a % 256) < UInt8.ofNat (b % 256)) = decide (a % 256 < b % 256) := by
   congr 1
   rw [UInt8.lt_iff_toNat_lt, UInt8.toNat_ofNat', UInt8.toNat_ofNat']
   simp
  rw [hl]
  have he : (toBE k (a / 256) == toBE k (b / 256)) = decide (a / 256 = b / 256) := by
   rw [Bool.eq_iff_iff]
   simp only [beq_iff_eq, decide_eq_true_eq]
   exact ⟨fun h => toBE_inj (by omega) (by omega) h, fun h => by rw [h]⟩
  rw [he, Bool.eq_iff_iff]
  simp only [Bool.or_eq_true, Bool.and_eq_true, decide_eq_true_eq]
  omega

/-- The opposite number's word. -/
def fOpp (x : Nat) : Nat := Op.negFloat .f64 x
theorem fOpp_eq (x : Nat) (h : x < 18446744073709551616) : fOpp x = if x < fS then x + fS else x - fS := by
 have h1 := xor_high x h
 have h2 := u64_xor_nat x 9223372036854775808 h (by omega)
 rw [show ((9223372036854775808 : Nat) : Int) = 9223372036854775808 from rfl, h1] at h2
 have h3 : fOpp x = x ^^^ 9223372036854775808 := rfl
 rw [h3]
 omega
theorem fOpp_lt (x : Nat) (h : x < 18446744073709551616) : fOpp x < 18446744073709551616 := by
 rw [fOpp_eq x h]
 unfold fS
 split <;> omega
theorem fOpp_mod (x : Nat) (h : x < 18446744073709551616) : fOpp x % fS = x % fS := by
 rw [fOpp_eq x h]
 unfold fS
 split <;> omega
theorem fOpp_key (x : Nat) (h : x < 18446744073709551616) : fKey (fOpp x) = - fKey x := by
 have h0 := fOpp_mod x h
 rcases word_cases h with ⟨h1, h2, h3⟩ | ⟨h1, h2, h3⟩
 ·have h4 : fNeg (fOpp x) = true := by
   rw [fOpp_eq x h, if_pos h1]
   rcases word_cases (w := x + fS) (by unfold fS at *; omega) with ⟨g1, _, _⟩ | ⟨_, g2, _⟩
   ·omega
   ·exact g2
  unfold fKey
  rw [h0, h2, h4]
  simp
 ·have h4 : fNeg (fOpp x) = false := by
   rw [fOpp_eq x h, if_neg (by omega)]
   rcases word_cases (w := x - fS) (by omega) with ⟨_, g2, _⟩ | ⟨g1, _, _⟩
   ·exact g2
   ·unfold fS at *; omega
  unfold fKey
  rw [h0, h2, h4]
  simp
theorem kBits_whole (x : Nat) : kBits (wholeW x) = kBits x := by
 by_cases h : fInf < x % fS
 ·rw [wholeW_nan x h]
 ·rw [wholeW_key x (by omega)]
  by_cases hz : x % fS = 0
  ·rw [if_pos hz]
   unfold kBits
   rw [if_neg (by decide), if_pos (by decide), if_neg h, if_pos hz]
  ·rw [if_neg hz]
theorem kOf_whole (x : Nat) : kOf (wholeW x) = kOf x := by unfold kOf; rw [kBits_whole]
/-- A number's key. -/
def fKeyB (x : Nat) : List UInt8 := 2 :: toBE 8 (kOf x)
theorem kKey_float (x : Nat) : kErr [⟨2, 0, wholeW x, []⟩] = 0 ∧ kKey [⟨2, 0, wholeW x, []⟩] = fKeyB x := by
 have h1 : kErr [⟨2, 0, wholeW x, []⟩] = 0 := by
  unfold kErr
  rw [if_pos (by simp [kMay]), if_neg (by simp), if_neg]
  simp [kRaw, kPart, kTail, toBE_len8]
 refine ⟨h1, ?_⟩
 unfold kKey
 rw [if_pos h1]
 simp [kRaw, kPart, kTail, kOf_whole, fKeyB]
theorem fKeyB_lt (x y : Nat) (hx : x < 18446744073709551616) (hy : y < 18446744073709551616) : Op.bytesLess (fKeyB x) (fKeyB y) = decide (kOf x < kOf y) := by
 have := bLt_toBE 8 (kOf x) (kOf y) (kOf_lt x hx) (kOf_lt y hy)
 simp [fKeyB, Op.bytesLess, this]
theorem fKeyB_eq (x y : Nat) (hx : x < 18446744073709551616) (hy : y < 18446744073709551616) : (fKeyB x == fKeyB y) = decide (kOf x = kOf y) := by
 rw [Bool.eq_iff_iff]
 simp only [beq_iff_eq, decide_eq_true_eq, fKeyB, List.cons.injEq, true_and]
 exact ⟨fun h => toBE_inj (kOf_lt x hx) (kOf_lt y hy) h, fun h => by rw [h]⟩
theorem order_lt (x y : Nat) (nx : x % fS ≤ fInf) (ny : y % fS ≤ fInf) : (FloatKind.f64.format.order x y == some Ordering.lt) = decide (fKey x < fKey y) := by
 change (double.order x y == some Ordering.lt) = _
 rw [order_key x y nx ny]
 rcases Int.lt_trichotomy (fKey x) (fKey y) with h | h | h
 ·rw [Int.compare_eq_lt.2 h]; simp [h]
 ·rw [h, Int.compare_eq_eq.2 rfl]; simp
 ·rw [Int.compare_eq_gt.2 h]; simp; omega
theorem order_eq (x y : Nat) (nx : x % fS ≤ fInf) (ny : y % fS ≤ fInf) : (FloatKind.f64.format.order x y == some Ordering.eq) = decide (fKey x = fKey y) := by
 change (double.order x y == some Ordering.eq) = _
 rw [order_key x y nx ny]
 rcases Int.lt_trichotomy (fKey x) (fKey y) with h | h | h
 ·rw [Int.compare_eq_lt.2 h]; simp; omega
 ·rw [h, Int.compare_eq_eq.2 rfl]; simp
 ·rw [Int.compare_eq_gt.2 h]; simp; omega
end Go.Proofs.YtfglgeoookbppaaGreatDoor
