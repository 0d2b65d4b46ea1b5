/- Package records: what rows have, by kind. Walks over package crc (layer 1) and its reference: the word of a byte, the table of words, a new sum. Walks over package crc (layer 1): the table of words; a new sum under way. Walks over package crc (layer 1): a new sum under way; is there none; the sum told. A region that draws its order, inside a round of a range over a function, at the widest fence: the head only reads, the tail stands in a row. -/
import Derived.Test.YtfglgeoookbppaaGreatDoorPa17
import Derived.Test.YtfglgeoookbppaaGreatDoorProg
import Derived.Test.YtfglgeoookbppaaGreatDoorPa1
import Derived.WalkKit
import Derived.WalkSpells
import Derived.WalkLawsBesides
import Derived.Lib.Hide
import Derived.Test.YtfglgeoookbppaaGreatDoorPa0
import Derived.StillTailTactics
import Derived.OrdersIn
import Derived.TacticsIn
import Derived.RangeFuncCalls

namespace Go.Proofs.YtfglgeoookbppaaGreatDoor
open Go.RowKit Go.Shelf

def HasPost (w : World) (x : Rw) (e : Ending) (w' : World) : Prop := e = .returned (rwV x) ∧ Keeps w w' []
theorem rw_fill {W : World} {z : Nat} {v0 v1 v2 v3 v4 v5 v6 v7 v8 u0 u1 u2 u3 u4 u5 u6 u7 u8 : Value} (h : Row W z 25 #[u0, u1, u2, u3, u4, u5, u6, u7, u8]) :
  Row (((((((((W.setCell ⟨z, 0, none⟩ v0).setCell ⟨z, 1, none⟩ v1).setCell ⟨z, 2, none⟩ v2).setCell ⟨z, 3, none⟩ v3).setCell ⟨z, 4, none⟩ v4).setCell ⟨z, 5, none⟩ v5).setCell ⟨z, 6, none⟩ v6).setCell ⟨z, 7, none⟩ v7).setCell ⟨z, 8, none⟩ v8) z 25 #[v0, v1, v2, v3, v4, v5, v6, v7, v8] ∧ Keeps W (((((((((W.setCell ⟨z, 0, none⟩ v0).setCell ⟨z, 1, none⟩ v1).setCell ⟨z, 2, none⟩ v2).setCell ⟨z, 3, none⟩ v3).setCell ⟨z, 4, none⟩ v4).setCell ⟨z, 5, none⟩ v5).setCell ⟨z, 6, none⟩ v6).setCell ⟨z, 7, none⟩ v7).setCell ⟨z, 8, none⟩ v8) [z] := by
 obtain ⟨W0, hW0⟩ : ∃ W', W.setCell ⟨z, 0, none⟩ v0 = W' := ⟨_, rfl⟩
 rw [hW0]
 have h0 : Row W0 z 25 #[v0, u1, u2, u3, u4, u5, u6, u7, u8] := by
  have e := h.store 0 v0
  rw [hW0] at e
  simpa using e
 have k0 : Keeps W W0 [z] := by rw [← hW0]; exact Keeps.setCell _ _ _
 obtain ⟨W1, hW1⟩ : ∃ W', W0.setCell ⟨z, 1, none⟩ v1 = W' := ⟨_, rfl⟩
 rw [hW1]
 have h1 : Row W1 z 25 #[v0, v1, u2, u3, u4, u5, u6, u7, u8] := by
  have e := h0.store 1 v1
  rw [hW1] at e
  simpa using e
 have k1 : Keeps W W1 [z] := k0.trans (by rw [← hW1]; exact Keeps.setCell _ _ _) (by simp)
 obtain ⟨W2, hW2⟩ : ∃ W', W1.setCell ⟨z, 2, none⟩ v2 = W' := ⟨_, rfl⟩
 rw [hW2]
 have h2 : Row W2 z 25 #[v0, v1, v2, u3, u4, u5, u6, u7, u8] := by
  have e := h1.store 2 v2
  rw [hW2] at e
  simpa using e
 have k2 : Keeps W W2 [z] := k1.trans (by rw [← hW2]; exact Keeps.setCell _ _ _) (by simp)
 obtain ⟨W3, hW3⟩ : ∃ W', W2.setCell ⟨z, 3, none⟩ v3 = W' := ⟨_, rfl⟩
 rw [hW3]
 have h3 : Row W3 z 25 #[v0, v1, v2, v3, u4, u5, u6, u7, u8] := by
  have e := h2.store 3 v3
  rw [hW3] at e
  simpa using e
 have k3 : Keeps W W3 [z] := k2.trans (by rw [← hW3]; exact Keeps.setCell _ _ _) (by simp)
 obtain ⟨W4, hW4⟩ : ∃ W', W3.setCell ⟨z, 4, none⟩ v4 = W' := ⟨_, rfl⟩
 rw [hW4]
 have h4 : Row W4 z 25 #[v0, v1, v2, v3, v4, u5, u6, u7, u8] := by
  have e := h3.store 4 v4
  rw [hW4] at e
  simpa using e
 have k4 : Keeps W W4 [z] := k3.trans (by rw [← hW4]; exact Keeps.setCell _ _ _) (by simp)
 obtain ⟨W5, hW5⟩ : ∃ W', W4.setCell ⟨z, 5, none⟩ v5 = W' := ⟨_, rfl⟩
 rw [hW5]
 have h5 : Row W5 z 25 #[v0, v1, v2, v3, v4, v5, u6, u7, u8] := by
  have e := h4.store 5 v5
  rw [hW5] at e
  simpa using e
 have k5 : Keeps W W5 [z] := k4.trans (by rw [← hW5]; exact Keeps.setCell _ _ _) (by simp)
 obtain ⟨W6, hW6⟩ : ∃ W', W5.setCell ⟨z, 6, none⟩ v6 = W' := ⟨_, rfl⟩
 rw [hW6]
 have h6 : Row W6 z 25 #[v0, v1, v2, v3, v4, v5, v6, u7, u8] := by
  have e := h5.store 6 v6
  rw [hW6] at e
  simpa using e
 have k6 : Keeps W W6 [z] := k5.trans (by rw [← hW6]; exact Keeps.setCell _ _ _) (by simp)
 obtain ⟨W7, hW7⟩ : ∃ W', W6.setCell ⟨z, 7, none⟩ v7 = W' := ⟨_, rfl⟩
 rw [hW7]
 have h7 : Row W7 z 25 #[v0, v1, v2, v3, v4, v5, v6, v7, u8] := by
  have e := h6.store 7 v7
  rw [hW7] at e
  simpa using e
 have k7 : Keeps W W7 [z] := k6.trans (by rw [← hW7]; exact Keeps.setCell _ _ _) (by simp)
 obtain ⟨W8, hW8⟩ : ∃ W', W7.setCell ⟨z, 8, none⟩ v8 = W' := ⟨_, rfl⟩
 rw [hW8]
 have h8 : Row W8 z 25 #[v0, v1, v2, v3, v4, v5, v6, v7, v8] := by
  have e := h7.store 8 v8
  rw [hW8] at e
  simpa using e
 have k8 : Keeps W W8 [z] := k7.trans (by rw [← hW8]; exact Keeps.setCell _ _ _) (by simp)
 exact ⟨h8, k8⟩
theorem has_end {w W : World} {z : Nat} {v0 v1 v2 v3 v4 v5 v6 v7 v8 u0 u1 u2 u3 u4 u5 u6 u7 u8 : Value} {F : World → Prop} (h : Row W z 25 #[u0, u1, u2, u3, u4, u5, u6, u7, u8]) (hk : Keeps w W []) (hz : w.heap.size ≤ z)
  (hF : ∀ W9, Row W9 z 25 #[v0, v1, v2, v3, v4, v5, v6, v7, v8] → Keeps w W9 [] → F W9) : F (((((((((W.setCell ⟨z, 0, none⟩ v0).setCell ⟨z, 1, none⟩ v1).setCell ⟨z, 2, none⟩ v2).setCell ⟨z, 3, none⟩ v3).setCell ⟨z, 4, none⟩ v4).setCell ⟨z, 5, none⟩ v5).setCell ⟨z, 6, none⟩ v6).setCell ⟨z, 7, none⟩ v7).setCell ⟨z, 8, none⟩ v8) :=
 hF _ (rw_fill h).1 (hk.trans (rw_fill h).2 fun x hx hlt => by
  rw [List.mem_singleton] at hx
  omega)
set_option maxRecDepth 100000 in
set_option maxHeartbeats 2000000 in
theorem rcHas1_any (x : Rw) (w : World) : Calls Tryz.prog 60 #[rwV x] w (HasPost w (rcHas 1 x)) := by
 obtain ⟨k, c, seq, id, t, b, q, r, s⟩ := x
 have hv := Lib.hid (show rwV (rcHas 1 ⟨k, c, seq, id, t, b, q, r, s⟩) = .agg #[.int .i64 0, .string ⟨c.toArray⟩, .int .i64 seq, .int .i64 id, .string ⟨#[]⟩, .string ⟨#[]⟩, .int .i64 0, .bool false, .int .i64 0] from rfl)
 obtain ⟨W0, hW0⟩ : ∃ W0, w.alloc (.cells #[.int .i64 k, .string ⟨c.toArray⟩, .int .i64 seq, .int .i64 id, .string ⟨t.toArray⟩, .string ⟨b.toArray⟩, .int .i64 q, .bool r, .int .i64 s] 25) = W0 := ⟨_, rfl⟩
 have k0 : Keeps w W0 [] := by rw [← hW0]; exact Keeps.alloc _ _
 have r0 : Row W0 w.heap.size 25 #[.int .i64 k, .string ⟨c.toArray⟩, .int .i64 seq, .int .i64 id, .string ⟨t.toArray⟩, .string ⟨b.toArray⟩, .int .i64 q, .bool r, .int .i64 s] := by rw [← hW0]; exact Row.new _ _ _
 have HR := Lib.hid (And.intro k0 r0)
 have x0 := r0.cell 0
 have x1 := r0.cell 1
 have x2 := r0.cell 2
 have x3 := r0.cell 3
 have x4 := r0.cell 4
 have x5 := r0.cell 5
 have x6 := r0.cell 6
 have x7 := r0.cell 7
 have x8 := r0.cell 8
 simp only [List.getElem?_toArray, List.getElem?_cons_zero, List.getElem?_cons_succ] at x0 x1 x2 x3 x4 x5 x6 x7 x8
 clear k0 r0
 obtain ⟨W1, hW1⟩ : ∃ W1, W0.alloc (.cells #[.int .i64 0, .string ⟨#[]⟩, .int .i64 0, .int .i64 0, .string ⟨#[]⟩, .string ⟨#[]⟩, .int .i64 0, .bool false, .int .i64 0] 25) = W1 := ⟨_, rfl⟩
 have k1 : Keeps W0 W1 [] := by rw [← hW1]; exact Keeps.alloc _ _
 have r1 := HR.out.2.keeps k1
 have rz : Row W1 W0.heap.size 25 #[.int .i64 0, .string ⟨#[]⟩, .int .i64 0, .int .i64 0, .string ⟨#[]⟩, .string ⟨#[]⟩, .int .i64 0, .bool false, .int .i64 0] := by rw [← hW1]; exact Row.new _ _ _
 obtain ⟨z, hz⟩ : ∃ z, W0.heap.size = z := ⟨_, rfl⟩
 have hz2 : w.heap.size ≤ z := by rw [← hz]; exact HR.out.1.size
 rw [hz] at rz
 clear x0 x1 x2 x3 x4 x5 x6 x7 x8
 have x0 := r1.cell 0
 have x1 := r1.cell 1
 have x2 := r1.cell 2
 have x3 := r1.cell 3
 have x4 := r1.cell 4
 have x5 := r1.cell 5
 have x6 := r1.cell 6
 have x7 := r1.cell 7
 have x8 := r1.cell 8
 simp only [List.getElem?_toArray, List.getElem?_cons_zero, List.getElem?_cons_succ] at x0 x1 x2 x3 x4 x5 x6 x7 x8
 have y0 := rz.cell 0
 have y1 := rz.cell 1
 have y2 := rz.cell 2
 have y3 := rz.cell 3
 have y4 := rz.cell 4
 have y5 := rz.cell 5
 have y6 := rz.cell 6
 have y7 := rz.cell 7
 have y8 := rz.cell 8
 simp only [List.getElem?_toArray, List.getElem?_cons_zero, List.getElem?_cons_succ] at y0 y1 y2 y3 y4 y5 y6 y7 y8
 have g0 := rz.frozen 0
 have g1 := rz.frozen 1
 have g2 := rz.frozen 2
 have g3 := rz.frozen 3
 have g4 := rz.frozen 4
 have g5 := rz.frozen 5
 have g6 := rz.frozen 6
 have g7 := rz.frozen 7
 have g8 := rz.frozen 8
 have HZ := Lib.hid (And.intro rz (And.intro (HR.out.1.then_ k1) hz2))
 clear rz r1 k1 hz2
 go_enter Tryz.func60, Tryz.ntmps60
 go_wp2_with fail
 exact has_end HZ.out.1 HZ.out.2.1 HZ.out.2.2 (fun W9 q9 hk => by
  have e0 := q9.cell 0
  have e1 := q9.cell 1
  have e2 := q9.cell 2
  have e3 := q9.cell 3
  have e4 := q9.cell 4
  have e5 := q9.cell 5
  have e6 := q9.cell 6
  have e7 := q9.cell 7
  have e8 := q9.cell 8
  simp only [List.getElem?_toArray, List.getElem?_cons_zero, List.getElem?_cons_succ] at e0 e1 e2 e3 e4 e5 e6 e7 e8
  exact bodyPost_ret (v := .agg #[.int .i64 0, .string ⟨c.toArray⟩, .int .i64 seq, .int .i64 id, .string ⟨#[]⟩, .string ⟨#[]⟩, .int .i64 0, .bool false, .int .i64 0]) (by simp [results, Tryz.results60, go_sem, e0, e1, e2, e3, e4, e5, e6, e7, e8]) rfl ⟨by rw [hv.out], hk⟩)
set_option maxRecDepth 100000 in
set_option maxHeartbeats 2000000 in
theorem rcHas2_any (x : Rw) (w : World) : Calls Tryz.prog 65 #[rwV x] w (HasPost w (rcHas 2 x)) := by
 obtain ⟨k, c, seq, id, t, b, q, r, s⟩ := x
 have hv := Lib.hid (show rwV (rcHas 2 ⟨k, c, seq, id, t, b, q, r, s⟩) = .agg #[.int .i64 0, .string ⟨c.toArray⟩, .int .i64 0, .int .i64 0, .string ⟨t.toArray⟩, .string ⟨#[]⟩, .int .i64 q, .bool false, .int .i64 0] from rfl)
 obtain ⟨W0, hW0⟩ : ∃ W0, w.alloc (.cells #[.int .i64 k, .string ⟨c.toArray⟩, .int .i64 seq, .int .i64 id, .string ⟨t.toArray⟩, .string ⟨b.toArray⟩, .int .i64 q, .bool r, .int .i64 s] 25) = W0 := ⟨_, rfl⟩
 have k0 : Keeps w W0 [] := by rw [← hW0]; exact Keeps.alloc _ _
 have r0 : Row W0 w.heap.size 25 #[.int .i64 k, .string ⟨c.toArray⟩, .int .i64 seq, .int .i64 id, .string ⟨t.toArray⟩, .string ⟨b.toArray⟩, .int .i64 q, .bool r, .int .i64 s] := by rw [← hW0]; exact Row.new _ _ _
 have HR := Lib.hid (And.intro k0 r0)
 have x0 := r0.cell 0
 have x1 := r0.cell 1
 have x2 := r0.cell 2
 have x3 := r0.cell 3
 have x4 := r0.cell 4
 have x5 := r0.cell 5
 have x6 := r0.cell 6
 have x7 := r0.cell 7
 have x8 := r0.cell 8
 simp only [List.getElem?_toArray, List.getElem?_cons_zero, List.getElem?_cons_succ] at x0 x1 x2 x3 x4 x5 x6 x7 x8
 clear k0 r0
 obtain ⟨W1, hW1⟩ : ∃ W1, W0.alloc (.cells #[.int .i64 0, .string ⟨#[]⟩, .int .i64 0, .int .i64 0, .string ⟨#[]⟩, .string ⟨#[]⟩, .int .i64 0, .bool false, .int .i64 0] 25) = W1 := ⟨_, rfl⟩
 have k1 : Keeps W0 W1 [] := by rw [← hW1]; exact Keeps.alloc _ _
 have r1 := HR.out.2.keeps k1
 have rz : Row W1 W0.heap.size 25 #[.int .i64 0, .string ⟨#[]⟩, .int .i64 0, .int .i64 0, .string ⟨#[]⟩, .string ⟨#[]⟩, .int .i64 0, .bool false, .int .i64 0] := by rw [← hW1]; exact Row.new _ _ _
 obtain ⟨z, hz⟩ : ∃ z, W0.heap.size = z := ⟨_, rfl⟩
 have hz2 : w.heap.size ≤ z := by rw [← hz]; exact HR.out.1.size
 rw [hz] at rz
 clear x0 x1 x2 x3 x4 x5 x6 x7 x8
 have x0 := r1.cell 0
 have x1 := r1.cell 1
 have x2 := r1.cell 2
 have x3 := r1.cell 3
 have x4 := r1.cell 4
 have x5 := r1.cell 5
 have x6 := r1.cell 6
 have x7 := r1.cell 7
 have x8 := r1.cell 8
 simp only [List.getElem?_toArray, List.getElem?_cons_zero, List.getElem?_cons_succ] at x0 x1 x2 x3 x4 x5 x6 x7 x8
 have y0 := rz.cell 0
 have y1 := rz.cell 1
 have y2 := rz.cell 2
 have y3 := rz.cell 3
 have y4 := rz.cell 4
 have y5 := rz.cell 5
 have y6 := rz.cell 6
 have y7 := rz.cell 7
 have y8 := rz.cell 8
 simp only [List.getElem?_toArray, List.getElem?_cons_zero, List.getElem?_cons_succ] at y0 y1 y2 y3 y4 y5 y6 y7 y8
 have g0 := rz.frozen 0
 have g1 := rz.frozen 1
 have g2 := rz.frozen 2
 have g3 := rz.frozen 3
 have g4 := rz.frozen 4
 have g5 := rz.frozen 5
 have g6 := rz.frozen 6
 have g7 := rz.frozen 7
 have g8 := rz.frozen 8
 have HZ := Lib.hid (And.intro rz (And.intro (HR.out.1.then_ k1) hz2))
 clear rz r1 k1 hz2
 go_enter Tryz.func65, Tryz.ntmps65
 go_wp2_with fail
 exact has_end HZ.out.1 HZ.out.2.1 HZ.out.2.2 (fun W9 q9 hk => by
  have e0 := q9.cell 0
  have e1 := q9.cell 1
  have e2 := q9.cell 2
  have e3 := q9.cell 3
  have e4 := q9.cell 4
  have e5 := q9.cell 5
  have e6 := q9.cell 6
  have e7 := q9.cell 7
  have e8 := q9.cell 8
  simp only [List.getElem?_toArray, List.getElem?_cons_zero, List.getElem?_cons_succ] at e0 e1 e2 e3 e4 e5 e6 e7 e8
  exact bodyPost_ret (v := .agg #[.int .i64 0, .string ⟨c.toArray⟩, .int .i64 0, .int .i64 0, .string ⟨t.toArray⟩, .string ⟨#[]⟩, .int .i64 q, .bool false, .int .i64 0]) (by simp [results, Tryz.results65, go_sem, e0, e1, e2, e3, e4, e5, e6, e7, e8]) rfl ⟨by rw [hv.out], hk⟩)
set_option maxRecDepth 100000 in
set_option maxHeartbeats 2000000 in
theorem rcHas3_any (x : Rw) (w : World) : Calls Tryz.prog 70 #[rwV x] w (HasPost w (rcHas 3 x)) := by
 obtain ⟨k, c, seq, id, t, b, q, r, s⟩ := x
 have hv := Lib.hid (show rwV (rcHas 3 ⟨k, c, seq, id, t, b, q, r, s⟩) = .agg #[.int .i64 k, .string ⟨c.toArray⟩, .int .i64 seq, .int .i64 id, .string ⟨t.toArray⟩, .string ⟨b.toArray⟩, .int .i64 q, .bool r, .int .i64 s] from rfl)
 obtain ⟨W0, hW0⟩ : ∃ W0, w.alloc (.cells #[.int .i64 k, .string ⟨c.toArray⟩, .int .i64 seq, .int .i64 id, .string ⟨t.toArray⟩, .string ⟨b.toArray⟩, .int .i64 q, .bool r, .int .i64 s] 25) = W0 := ⟨_, rfl⟩
 have k0 : Keeps w W0 [] := by rw [← hW0]; exact Keeps.alloc _ _
 have r0 : Row W0 w.heap.size 25 #[.int .i64 k, .string ⟨c.toArray⟩, .int .i64 seq, .int .i64 id, .string ⟨t.toArray⟩, .string ⟨b.toArray⟩, .int .i64 q, .bool r, .int .i64 s] := by rw [← hW0]; exact Row.new _ _ _
 have HR := Lib.hid (And.intro k0 r0)
 have x0 := r0.cell 0
 have x1 := r0.cell 1
 have x2 := r0.cell 2
 have x3 := r0.cell 3
 have x4 := r0.cell 4
 have x5 := r0.cell 5
 have x6 := r0.cell 6
 have x7 := r0.cell 7
 have x8 := r0.cell 8
 simp only [List.getElem?_toArray, List.getElem?_cons_zero, List.getElem?_cons_succ] at x0 x1 x2 x3 x4 x5 x6 x7 x8
 clear k0 r0
 obtain ⟨W1, hW1⟩ : ∃ W1, W0.alloc (.cells #[.int .i64 0, .string ⟨#[]⟩, .int .i64 0, .int .i64 0, .string ⟨#[]⟩, .string ⟨#[]⟩, .int .i64 0, .bool false, .int .i64 0] 25) = W1 := ⟨_, rfl⟩
 have k1 : Keeps W0 W1 [] := by rw [← hW1]; exact Keeps.alloc _ _
 have r1 := HR.out.2.keeps k1
 have rz : Row W1 W0.heap.size 25 #[.int .i64 0, .string ⟨#[]⟩, .int .i64 0, .int .i64 0, .string ⟨#[]⟩, .string ⟨#[]⟩, .int .i64 0, .bool false, .int .i64 0] := by rw [← hW1]; exact Row.new _ _ _
 obtain ⟨z, hz⟩ : ∃ z, W0.heap.size = z := ⟨_, rfl⟩
 have hz2 : w.heap.size ≤ z := by rw [← hz]; exact HR.out.1.size
 rw [hz] at rz
 clear x0 x1 x2 x3 x4 x5 x6 x7 x8
 have x0 := r1.cell 0
 have x1 := r1.cell 1
 have x2 := r1.cell 2
 have x3 := r1.cell 3
 have x4 := r1.cell 4
 have x5 := r1.cell 5
 have x6 := r1.cell 6
 have x7 := r1.cell 7
 have x8 := r1.cell 8
 simp only [List.getElem?_toArray, List.getElem?_cons_zero, List.getElem?_cons_succ] at x0 x1 x2 x3 x4 x5 x6 x7 x8
 have y0 := rz.cell 0
 have y1 := rz.cell 1
 have y2 := rz.cell 2
 have y3 := rz.cell 3
 have y4 := rz.cell 4
 have y5 := rz.cell 5
 have y6 := rz.cell 6
 have y7 := rz.cell 7
 have y8 := rz.cell 8
 simp only [List.getElem?_toArray, List.getElem?_cons_zero, List.getElem?_cons_succ] at y0 y1 y2 y3 y4 y5 y6 y7 y8
 have g0 := rz.frozen 0
 have g1 := rz.frozen 1
 have g2 := rz.frozen 2
 have g3 := rz.frozen 3
 have g4 := rz.frozen 4
 have g5 := rz.frozen 5
 have g6 := rz.frozen 6
 have g7 := rz.frozen 7
 have g8 := rz.frozen 8
 have HZ := Lib.hid (And.intro rz (And.intro (HR.out.1.then_ k1) hz2))
 clear rz r1 k1 hz2
 go_enter Tryz.func70, Tryz.ntmps70
 go_wp2_with fail
 exact has_end HZ.out.1 HZ.out.2.1 HZ.out.2.2 (fun W9 q9 hk => by
  have e0 := q9.cell 0
  have e1 := q9.cell 1
  have e2 := q9.cell 2
  have e3 := q9.cell 3
  have e4 := q9.cell 4
  have e5 := q9.cell 5
  have e6 := q9.cell 6
  have e7 := q9.cell 7
  have e8 := q9.cell 8
  simp only [List.getElem?_toArray, List.getElem?_cons_zero, List.getElem?_cons_succ] at e0 e1 e2 e3 e4 e5 e6 e7 e8
  exact bodyPost_ret (v := .agg #[.int .i64 k, .string ⟨c.toArray⟩, .int .i64 seq, .int .i64 id, .string ⟨t.toArray⟩, .string ⟨b.toArray⟩, .int .i64 q, .bool r, .int .i64 s]) (by simp [results, Tryz.results70, go_sem, e0, e1, e2, e3, e4, e5, e6, e7, e8]) rfl ⟨by rw [hv.out], hk⟩)
set_option maxRecDepth 100000 in
set_option maxHeartbeats 2000000 in
theorem rcHas4_any (x : Rw) (w : World) : Calls Tryz.prog 73 #[rwV x] w (HasPost w (rcHas 4 x)) := by
 obtain ⟨k, c, seq, id, t, b, q, r, s⟩ := x
 have hv := Lib.hid (show rwV (rcHas 4 ⟨k, c, seq, id, t, b, q, r, s⟩) = .agg #[.int .i64 0, .string ⟨c.toArray⟩, .int .i64 0, .int .i64 id, .string ⟨#[]⟩, .string ⟨#[]⟩, .int .i64 0, .bool false, .int .i64 0] from rfl)
 obtain ⟨W0, hW0⟩ : ∃ W0, w.alloc (.cells #[.int .i64 k, .string ⟨c.toArray⟩, .int .i64 seq, .int .i64 id, .string ⟨t.toArray⟩, .string ⟨b.toArray⟩, .int .i64 q, .bool r, .int .i64 s] 25) = W0 := ⟨_, rfl⟩
 have k0 : Keeps w W0 [] := by rw [← hW0]; exact Keeps.alloc _ _
 have r0 : Row W0 w.heap.size 25 #[.int .i64 k, .string ⟨c.toArray⟩, .int .i64 seq, .int .i64 id, .string ⟨t.toArray⟩, .string ⟨b.toArray⟩, .int .i64 q, .bool r, .int .i64 s] := by rw [← hW0]; exact Row.new _ _ _
 have HR := Lib.hid (And.intro k0 r0)
 have x0 := r0.cell 0
 have x1 := r0.cell 1
 have x2 := r0.cell 2
 have x3 := r0.cell 3
 have x4 := r0.cell 4
 have x5 := r0.cell 5
 have x6 := r0.cell 6
 have x7 := r0.cell 7
 have x8 := r0.cell 8
 simp only [List.getElem?_toArray, List.getElem?_cons_zero, List.getElem?_cons_succ] at x0 x1 x2 x3 x4 x5 x6 x7 x8
 clear k0 r0
 obtain ⟨W1, hW1⟩ : ∃ W1, W0.alloc (.cells #[.int .i64 0, .string ⟨#[]⟩, .int .i64 0, .int .i64 0, .string ⟨#[]⟩, .string ⟨#[]⟩, .int .i64 0, .bool false, .int .i64 0] 25) = W1 := ⟨_, rfl⟩
 have k1 : Keeps W0 W1 [] := by rw [← hW1]; exact Keeps.alloc _ _
 have r1 := HR.out.2.keeps k1
 have rz : Row W1 W0.heap.size 25 #[.int .i64 0, .string ⟨#[]⟩, .int .i64 0, .int .i64 0, .string ⟨#[]⟩, .string ⟨#[]⟩, .int .i64 0, .bool false, .int .i64 0] := by rw [← hW1]; exact Row.new _ _ _
 obtain ⟨z, hz⟩ : ∃ z, W0.heap.size = z := ⟨_, rfl⟩
 have hz2 : w.heap.size ≤ z := by rw [← hz]; exact HR.out.1.size
 rw [hz] at rz
 clear x0 x1 x2 x3 x4 x5 x6 x7 x8
 have x0 := r1.cell 0
 have x1 := r1.cell 1
 have x2 := r1.cell 2
 have x3 := r1.cell 3
 have x4 := r1.cell 4
 have x5 := r1.cell 5
 have x6 := r1.cell 6
 have x7 := r1.cell 7
 have x8 := r1.cell 8
 simp only [List.getElem?_toArray, List.getElem?_cons_zero, List.getElem?_cons_succ] at x0 x1 x2 x3 x4 x5 x6 x7 x8
 have y0 := rz.cell 0
 have y1 := rz.cell 1
 have y2 := rz.cell 2
 have y3 := rz.cell 3
 have y4 := rz.cell 4
 have y5 := rz.cell 5
 have y6 := rz.cell 6
 have y7 := rz.cell 7
 have y8 := rz.cell 8
 simp only [List.getElem?_toArray, List.getElem?_cons_zero, List.getElem?_cons_succ] at y0 y1 y2 y3 y4 y5 y6 y7 y8
 have g0 := rz.frozen 0
 have g1 := rz.frozen 1
 have g2 := rz.frozen 2
 have g3 := rz.frozen 3
 have g4 := rz.frozen 4
 have g5 := rz.frozen 5
 have g6 := rz.frozen 6
 have g7 := rz.frozen 7
 have g8 := rz.frozen 8
 have HZ := Lib.hid (And.intro rz (And.intro (HR.out.1.then_ k1) hz2))
 clear rz r1 k1 hz2
 go_enter Tryz.func73, Tryz.ntmps73
 go_wp2_with fail
 exact has_end HZ.out.1 HZ.out.2.1 HZ.out.2.2 (fun W9 q9 hk => by
  have e0 := q9.cell 0
  have e1 := q9.cell 1
  have e2 := q9.cell 2
  have e3 := q9.cell 3
  have e4 := q9.cell 4
  have e5 := q9.cell 5
  have e6 := q9.cell 6
  have e7 := q9.cell 7
  have e8 := q9.cell 8
  simp only [List.getElem?_toArray, List.getElem?_cons_zero, List.getElem?_cons_succ] at e0 e1 e2 e3 e4 e5 e6 e7 e8
  exact bodyPost_ret (v := .agg #[.int .i64 0, .string ⟨c.toArray⟩, .int .i64 0, .int .i64 id, .string ⟨#[]⟩, .string ⟨#[]⟩, .int .i64 0, .bool false, .int .i64 0]) (by simp [results, Tryz.results73, go_sem, e0, e1, e2, e3, e4, e5, e6, e7, e8]) rfl ⟨by rw [hv.out], hk⟩)
set_option maxRecDepth 100000 in
set_option maxHeartbeats 2000000 in
theorem rcHas5_any (x : Rw) (w : World) : Calls Tryz.prog 76 #[rwV x] w (HasPost w (rcHas 5 x)) := by
 obtain ⟨k, c, seq, id, t, b, q, r, s⟩ := x
 have hv := Lib.hid (show rwV (rcHas 5 ⟨k, c, seq, id, t, b, q, r, s⟩) = .agg #[.int .i64 0, .string ⟨#[]⟩, .int .i64 0, .int .i64 0, .string ⟨t.toArray⟩, .string ⟨b.toArray⟩, .int .i64 q, .bool false, .int .i64 0] from rfl)
 obtain ⟨W0, hW0⟩ : ∃ W0, w.alloc (.cells #[.int .i64 k, .string ⟨c.toArray⟩, .int .i64 seq, .int .i64 id, .string ⟨t.toArray⟩, .string ⟨b.toArray⟩, .int .i64 q, .bool r, .int .i64 s] 25) = W0 := ⟨_, rfl⟩
 have k0 : Keeps w W0 [] := by rw [← hW0]; exact Keeps.alloc _ _
 have r0 : Row W0 w.heap.size 25 #[.int .i64 k, .string ⟨c.toArray⟩, .int .i64 seq, .int .i64 id, .string ⟨t.toArray⟩, .string ⟨b.toArray⟩, .int .i64 q, .bool r, .int .i64 s] := by rw [← hW0]; exact Row.new _ _ _
 have HR := Lib.hid (And.intro k0 r0)
 have x0 := r0.cell 0
 have x1 := r0.cell 1
 have x2 := r0.cell 2
 have x3 := r0.cell 3
 have x4 := r0.cell 4
 have x5 := r0.cell 5
 have x6 := r0.cell 6
 have x7 := r0.cell 7
 have x8 := r0.cell 8
 simp only [List.getElem?_toArray, List.getElem?_cons_zero, List.getElem?_cons_succ] at x0 x1 x2 x3 x4 x5 x6 x7 x8
 clear k0 r0
 obtain ⟨W1, hW1⟩ : ∃ W1, W0.alloc (.cells #[.int .i64 0, .string ⟨#[]⟩, .int .i64 0, .int .i64 0, .string ⟨#[]⟩, .string ⟨#[]⟩, .int .i64 0, .bool false, .int .i64 0] 25) = W1 := ⟨_, rfl⟩
 have k1 : Keeps W0 W1 [] := by rw [← hW1]; exact Keeps.alloc _ _
 have r1 := HR.out.2.keeps k1
 have rz : Row W1 W0.heap.size 25 #[.int .i64 0, .string ⟨#[]⟩, .int .i64 0, .int .i64 0, .string ⟨#[]⟩, .string ⟨#[]⟩, .int .i64 0, .bool false, .int .i64 0] := by rw [← hW1]; exact Row.new _ _ _
 obtain ⟨z, hz⟩ : ∃ z, W0.heap.size = z := ⟨_, rfl⟩
 have hz2 : w.heap.size ≤ z := by rw [← hz]; exact HR.out.1.size
 rw [hz] at rz
 clear x0 x1 x2 x3 x4 x5 x6 x7 x8
 have x0 := r1.cell 0
 have x1 := r1.cell 1
 have x2 := r1.cell 2
 have x3 := r1.cell 3
 have x4 := r1.cell 4
 have x5 := r1.cell 5
 have x6 := r1.cell 6
 have x7 := r1.cell 7
 have x8 := r1.cell 8
 simp only [List.getElem?_toArray, List.getElem?_cons_zero, List.getElem?_cons_succ] at x0 x1 x2 x3 x4 x5 x6 x7 x8
 have y0 := rz.cell 0
 have y1 := rz.cell 1
 have y2 := rz.cell 2
 have y3 := rz.cell 3
 have y4 := rz.cell 4
 have y5 := rz.cell 5
 have y6 := rz.cell 6
 have y7 := rz.cell 7
 have y8 := rz.cell 8
 simp only [List.getElem?_toArray, List.getElem?_cons_zero, List.getElem?_cons_succ] at y0 y1 y2 y3 y4 y5 y6 y7 y8
 have g0 := rz.frozen 0
 have g1 := rz.frozen 1
 have g2 := rz.frozen 2
 have g3 := rz.frozen 3
 have g4 := rz.frozen 4
 have g5 := rz.frozen 5
 have g6 := rz.frozen 6
 have g7 := rz.frozen 7
 have g8 := rz.frozen 8
 have HZ := Lib.hid (And.intro rz (And.intro (HR.out.1.then_ k1) hz2))
 clear rz r1 k1 hz2
 go_enter Tryz.func76, Tryz.ntmps76
 go_wp2_with fail
 exact has_end HZ.out.1 HZ.out.2.1 HZ.out.2.2 (fun W9 q9 hk => by
  have e0 := q9.cell 0
  have e1 := q9.cell 1
  have e2 := q9.cell 2
  have e3 := q9.cell 3
  have e4 := q9.cell 4
  have e5 := q9.cell 5
  have e6 := q9.cell 6
  have e7 := q9.cell 7
  have e8 := q9.cell 8
  simp only [List.getElem?_toArray, List.getElem?_cons_zero, List.getElem?_cons_succ] at e0 e1 e2 e3 e4 e5 e6 e7 e8
  exact bodyPost_ret (v := .agg #[.int .i64 0, .string ⟨#[]⟩, .int .i64 0, .int .i64 0, .string ⟨t.toArray⟩, .string ⟨b.toArray⟩, .int .i64 q, .bool false, .int .i64 0]) (by simp [results, Tryz.results76, go_sem, e0, e1, e2, e3, e4, e5, e6, e7, e8]) rfl ⟨by rw [hv.out], hk⟩)
end Go.Proofs.YtfglgeoookbppaaGreatDoor

namespace Go.Proofs.YtfglgeoookbppaaGreatDoor
open Go.RowKit

set_option maxHeartbeats 400000 in
theorem word_any (b : Nat) (hb : b < 256) (w : World) :
  Calls Tryz.prog 168 #[.int .u8 b] w fun e w' => e = .returned (.int .u32 (crcWord b : Nat)) ∧ w = w' := by
 go_enter Tryz.func168, Tryz.ntmps168
 go_wp2
 go_loop [3, 6] (fun t i => ∃ k : Nat, k ≤ 8 ∧ i = .int .i64 k ∧ t = .int .u32 (crcR k b : Nat)) (fun _ i => 8 - (intOf i).toNat)
 case atStart => exact ⟨0, by omega, rfl, rfl⟩
 case round =>
  obtain ⟨k, hk, rfl, rfl⟩ := hrel
  have hm := crcR_lt k b (by omega)
  have h1 := crcOne_odd (crcR k b) hm
  have h2 := crcOne_even (crcR k b) hm
  have H1 := Lib.hid h1
  have H2 := Lib.hid h2
  clear h1 h2
  by_cases hlt : k < 8
  ·go_wp2
   ·refine ⟨⟨k + 1, by omega, by go_num, ?_⟩, by simp [intOf]; omega⟩
    rw [H1.out (by assumption)]; rfl
   ·refine ⟨⟨k + 1, by omega, by go_num, ?_⟩, by simp [intOf]; omega⟩
    rw [H2.out (by assumption)]; rfl
  ·obtain rfl : k = 8 := by omega
   go_wp2
   go_ret
   exact ⟨rfl, rfl⟩
end Go.Proofs.YtfglgeoookbppaaGreatDoor

namespace Go.Proofs.YtfglgeoookbppaaGreatDoor
open Go.RowKit

/-- The table of words in memory. -/
def Words (w : World) (g : Nat) : Prop := ∃ cs : Array Value, Row w g 196 cs ∧ ∀ i, i < 256 → cs[i]? = some (.int .u32 (crcWord i : Nat))
theorem Words.cell {w : World} {g : Nat} (h : Words w g) (i : Nat) (hi : i < 256) : w.cell? ⟨g, i, none⟩ = some (.int .u32 (crcWord i : Nat)) := by
 obtain ⟨cs, hr, hc⟩ := h
 rw [hr.cell, hc i hi]
theorem Words.below {w w' : World} {g B : Nat} (h : Words w g) (hb : Below B w w') (hg : g < B) : Words w' g := by
 obtain ⟨cs, hr, hc⟩ := h
 exact ⟨cs, hr.below hb hg, hc⟩
theorem Words.keep {w w' : World} {g : Nat} {S : List Nat} (h : Words w g) (hb : Keeps w w' S) (hg : g ∉ S) : Words w' g := by
 obtain ⟨cs, hr, hc⟩ := h
 exact ⟨cs, hr.keep hb hg, hc⟩
theorem Words.lt {w : World} {g : Nat} (h : Words w g) : g < w.heap.size := by
 obtain ⟨cs, hr, hc⟩ := h
 exact hr.lt
theorem table_size : Tryz.zeroCells196.size = 256 := by kernel_rfl

theorem words_step {cs : Array Value} {k : Nat} (hk : k < 256) (hs : cs.size = 256) (hc : ∀ i, i < k → cs[i]? = some (.int .u32 (crcWord i : Nat))) :
  (cs.setIfInBounds k (.int .u32 (crcWord k : Nat))).size = 256 ∧ ∀ i, i < k + 1 → (cs.setIfInBounds k (.int .u32 (crcWord k : Nat)))[i]? = some (.int .u32 (crcWord i : Nat)) := by
 refine ⟨by simpa using hs, fun i hi => ?_⟩
 rw [Array.getElem?_setIfInBounds]
 by_cases h : k = i
 ·subst h; simp [hs, hk]
 ·rw [if_neg h]; exact hc i (by omega)

set_option maxRecDepth 100000 in
set_option maxHeartbeats 400000 in
theorem words_any (w : World) :
  Calls Tryz.prog 152 #[] w fun e w' => e = .returned (.pointer (some ⟨w.heap.size, 0, none⟩)) ∧ Words w' w.heap.size ∧ Keeps w w' [] := by
 go_enter Tryz.func152, Tryz.ntmps152
 go_wp2
 go_loopw [2, 3] (fun _ i wr => ∃ k : Nat, ∃ cs : Array Value, k ≤ 256 ∧ i = .int .i64 k ∧ Row wr w.heap.size 196 cs ∧ cs.size = 256 ∧ (∀ i, i < k → cs[i]? = some (.int .u32 (crcWord i : Nat))) ∧ Keeps w wr [w.heap.size]) (fun _ i _ => 256 - (intOf i).toNat)
 case atStart => exact ⟨0, _, by omega, rfl, Row.new _ _ _, table_size, fun i h => absurd h (by omega), (Keeps.alloc _ _).weaken (by simp)⟩
 case round =>
  obtain ⟨k, cs, hk, rfl, hr, hs, hc, hkeep⟩ := hrel
  by_cases hlt : k < 256
  ·obtain ⟨v0, hcell⟩ : ∃ v, wr.cell? ⟨w.heap.size, k, none⟩ = some v := ⟨_, by rw [hr.cell]; exact Array.getElem?_eq_getElem (by omega)⟩
   have hfr := hr.frozen k
   have HR := Lib.hid (And.intro hr hc)
   have HS := Lib.hid hs
   clear hr hc hs
   go_wp2_with (go_at_call 168; refine (word_any _ hlt _).mono ?_; rintro e w' ⟨rfl, rfl⟩)
   refine ⟨⟨k + 1, cs.setIfInBounds k (.int .u32 (crcWord k : Nat)), by omega, by go_num, HR.out.1.store _ _, (words_step hlt HS.out HR.out.2).1, (words_step hlt HS.out HR.out.2).2, ?_⟩, by simp [intOf]; omega⟩
   exact hkeep.trans (Keeps.setCell _ _ _) (by simp)
  ·obtain rfl : k = 256 := by omega
   have HR := Lib.hid (And.intro hr hc)
   clear hr hc
   go_wp2
   go_ret
   exact ⟨rfl, ⟨cs, HR.out.1, HR.out.2⟩, hkeep.weaken (by simp)⟩
end Go.Proofs.YtfglgeoookbppaaGreatDoor

namespace Go.Proofs.YtfglgeoookbppaaGreatDoor
open Go.RowKit

theorem ret_int {k : IntKind} {a b : Int} (h : a = b) : Ending.returned (.int k a) = .returned (.int k b) := by rw [h]

/-- A sum under way at a: n bytes were written, the register holds s. -/
def Adder (w : World) (g a : Nat) (n : Int) (s : Nat) : Prop :=
 Words w g ∧ Row w a 179 #[.int .i64 n, .pointer (some ⟨g, 0, none⟩), .int .u32 (s : Int)] ∧ g < a

set_option maxRecDepth 100000 in
set_option maxHeartbeats 400000 in
theorem newAdder_any (w : World) :
  Calls Tryz.prog 133 #[] w fun e w' => ∃ g a, e = .returned (.pointer (some ⟨a, 0, none⟩)) ∧ Adder w' g a 0 4294967295 ∧ w.heap.size ≤ g ∧ Keeps w w' [] := by
 go_enter Tryz.func133, Tryz.ntmps133
 go_wp2_with (go_at_call 152; refine (words_any _).mono ?_; rintro e w' ⟨rfl, hw1, hk1⟩)
 have HW := Lib.hid (And.intro hw1 hk1)
 clear hw1 hk1
 go_wp2
 go_ret
 have hl := HW.out.1.lt
 refine ⟨w.heap.size, w'.heap.size, rfl, ⟨HW.out.1.keep (Keeps.alloc _ _) (by simp), Row.new _ _ _, hl⟩, Nat.le_refl _, HW.out.2.trans (Keeps.alloc _ _) (by simp)⟩

set_option maxRecDepth 100000 in
set_option maxHeartbeats 400000 in
theorem adderNone_any (w : World) (g a : Nat) (n : Int) (s : Nat) (h : Adder w g a n s) :
  Calls Tryz.prog 154 #[.pointer (some ⟨a, 0, none⟩)] w fun e w' => e = .returned (.bool false) ∧ w = w' := by
 obtain ⟨_, hr, _⟩ := h
 have h1 := hr.cell 1
 clear hr
 go_enter Tryz.func154, Tryz.ntmps154
 go_wp2
 go_ret
 exact ⟨rfl, rfl⟩

set_option maxRecDepth 100000 in
set_option maxHeartbeats 400000 in
theorem adderSum_any (w : World) (g a : Nat) (n : Int) (s : Nat) (h : Adder w g a n s) (hs : s < 4294967296) :
  Calls Tryz.prog 135 #[.pointer (some ⟨a, 0, none⟩)] w fun e w' => e = .returned (.int .u32 ((4294967295 - s : Nat) : Int)) ∧ w = w' := by
 have hn := adderNone_any w g a n s h
 obtain ⟨_, hr, _⟩ := h
 have h1 := hr.cell 2
 clear hr
 go_enter Tryz.func135, Tryz.ntmps135
 go_wp2_with (go_at_call 154; refine (hn).mono ?_; rintro e w' ⟨rfl, rfl⟩)
 go_wp2
 go_ret
 exact ⟨ret_int (not32 s hs), rfl⟩
end Go.Proofs.YtfglgeoookbppaaGreatDoor

namespace Go.Proofs.YtfglgeoookbppaaGreatDoor
open Go.RowKit

section
variable {P : Program} {ops : Array Oper} {md : Region.Mode} {w : World} {l n : Nat}

def noDefer (ops : Array Oper) : Bool := ops.all fun o => match o.op with | .defer _ => false | _ => true
theorem noDefer_at (h : noDefer ops = true) {i : Nat} {o : Oper} (hi : ops[i]? = some o) : ∀ c, o.op ≠ .defer c := by
 intro c hc
 have := (Array.all_eq_true_iff_forall_mem.1 h) o (Array.mem_of_getElem? hi)
 simp [hc] at this

theorem wpIn_of_still {o : Oper} {a : Act} {K : Act → Prop} {K' : Act → World → Prop} {Q' : Exit → Act → World → Prop} (hnd : ∀ c, o.op ≠ .defer c) (h : ∀ a, K a → K' a w) (hh : o.still P a w K) :
  o.wpIn (Fence.wide.inRound l) n P a w K' Q' := by
 refine ⟨fun _ _ => trivial, ?_⟩
 rw [Oper.semAt_eq _ _ _ hnd]
 unfold Oper.still at hh
 generalize (execOp a.eval o).run P w = r at *
 cases r with
 | ok x w' =>
  cases x <;> simp only [Oper.stillUpon] at hh <;> simp only [Oper.uponIn]
  case enter f args =>
   obtain ⟨rfl, v, hc, hn⟩ := hh
   refine ⟨fun h => by simp [Fence.wide, Fence.inRound] at h, CallsIn.inRound l (callsIn_wide.2 ?_)⟩
   exact hc.mono fun e w'' ⟨he, hw⟩ => by subst he; subst hw; exact h _ hn
  all_goals (obtain ⟨rfl, h2⟩ := hh; exact h _ h2)
 | halt x w' => simp only [Oper.stillUpon] at hh

theorem wpOpIn_of_stOp {i : Nat} {a : Act} {K : Act → Prop} {K' : Act → World → Prop} {Q' : Exit → Act → World → Prop} (hnd : noDefer ops = true) (h : ∀ a, K a → K' a w) (hh : stOp P ops w i K a) :
  wpOpIn (Fence.wide.inRound l) n P ops Q' i K' a w := by
 unfold stOp at hh
 unfold wpOpIn
 split
 ·rename_i ho; simp only [ho] at hh; exact h _ hh
 ·rename_i o ho
  simp only [ho] at hh
  split
  ·rename_i hw; simp only [hw, if_true] at hh; exact wpIn_of_still (noDefer_at hnd ho) h hh
  ·rename_i hw; simp only [hw] at hh; exact ⟨fun _ _ => trivial, h _ hh⟩

theorem wpAnyIn_of_head {m g : Nat} {L : Array Bool → Act → Prop} {Q' : Exit → Act → World → Prop} (hnd : noDefer ops = true) (hL : ∀ listed a, L listed a → wpAnyIn (Fence.wide.inRound l) n P md ops Q' g listed a w) :
  ∀ (f : Nat) (listed : Array Bool) (a : Act), wpAnyL P md ops w m L f listed a → wpAnyIn (Fence.wide.inRound l) n P md ops Q' (f + g) listed a w
 | 0, listed, a, h => by rw [Nat.zero_add]; exact hL _ _ h
 | f + 1, listed, a, h => by
  rw [show f + 1 + g = (f + g) + 1 by omega]
  exact ⟨fun h0 => absurd h0 h.1, fun i hi => wpOpIn_of_stOp hnd (fun a' h' => wpAnyIn_of_head hnd hL f _ a' h') (h.2 i hi).2⟩

theorem wpAnyIn_of_seq {F : Fence} {Q' : Exit → Act → World → Prop} : ∀ (l : List Oper) (k : Nat) (listed : Array Bool) (a : Act) (w : World), (∀ j, l[j]? = ops[k + j]?) →
  Region.seqB md ops l.length k listed = true → wpListIn F n P ops Q' l a w → wpAnyIn F n P md ops Q' l.length listed a w
 | [], _, _, _, _, _, hB, h => ⟨by simpa [Region.seqB] using hB, h⟩
 | o :: l, k, listed, a, w, hl, hB, h => by
  have h0 : ops[k]? = some o := by simpa using (hl 0).symm
  simp only [List.length_cons, Region.seqB, Bool.and_eq_true, decide_eq_true_eq] at hB
  refine ⟨fun h1 => (by rw [hB.1] at h1; cases h1), fun i hi => ?_⟩
  rw [hB.1] at hi
  have hik : i = k := by simpa using hi
  subst hik
  have hw : wpOpIn F n P ops Q' i (wpListIn F n P ops Q' l) a w := by unfold wpOpIn; simp only [h0]; exact h
  exact wpOpIn_mono (fun a' w' h' => wpAnyIn_of_seq l (i + 1) _ a' w' (fun j => by have := hl (j + 1); simpa [Nat.add_assoc, Nat.add_comm 1 j] using this) hB.2 h') hw

/-- The region of a round: its first m operations only read (in whatever order), the others stand in a row. -/
theorem wpIn_region_still_tail {id : Nat} {Q : Exit → Act → World → Prop} {a : Act} {w : World} {l' : List Oper} (m : Nat) (hm : P.follows .mixedOrders = true) (hB : Region.lexTailB .any l'.toArray m = true) (hnd : noDefer l'.toArray = true)
  (h : wpStill P l'.toArray w.drew (fun a' => wpListIn (Fence.wide.inRound l) n P l'.toArray Q (l'.drop m) a' w.drew) (l'.take m) a) :
  (Code.region id l'.toArray true).wpIn (Fence.wide.inRound l) n P Q a w := by
 simp only [Region.lexTailB, Bool.and_eq_true, decide_eq_true_eq] at hB
 obtain ⟨⟨⟨⟨hsel, hn⟩, hs⟩, hc⟩, hlex⟩ := hB
 have hn' : m < l'.length := by simpa using hn
 have htl : (l'.take m).length = m := by simp; omega
 have hdl : (l'.drop m).length = l'.toArray.size - m := by simp
 have inv0 : HeadInv .any l'.toArray m (Array.replicate l'.toArray.size false) :=
  ⟨by simp, fun j oj _ hl => (by rw [getD_replicate_false] at hl; cases hl), fun t _ ht => getD_in (by simpa using ht) (getD_replicate_false _ _)⟩
 have H := wpAnyL_lex (md := .any) (g := l'.toArray.size - m) hsel hs hc hn (l'.take m) 0 _ a (fun j hj => by
  have hj' : j < m := by rw [htl] at hj; exact hj
  simp [hj']) (by simpa using htl) inv0 (by rw [htl]; exact hlex) h
 refine wpIn_region_any hm ?_
 have := wpAnyIn_of_head (Q' := Q) (l := l) (n := n) (g := l'.toArray.size - m) hnd (fun listed a' hL => by
  have := wpAnyIn_of_seq (F := Fence.wide.inRound l) (n := n) (md := .any) (Q' := Q) (l'.drop m) m listed a' { w with drawn := w.drawn + 1 } (fun j => by simp [List.getElem?_drop]) (by rw [hdl]; exact hL.1) hL.2
  rwa [hdl] at this) _ _ _ H
 rw [htl, show m + (l'.toArray.size - m) = l'.toArray.size by omega] at this
 exact this
end
end Go.Proofs.YtfglgeoookbppaaGreatDoor
