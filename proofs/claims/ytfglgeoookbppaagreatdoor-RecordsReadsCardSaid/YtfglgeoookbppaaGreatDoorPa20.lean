/- Package records: the parts of rows' keys, by kind. Package records: what is known of a kind; Tree. -/
import Derived.Test.YtfglgeoookbppaaGreatDoorPa18
import Derived.Test.YtfglgeoookbppaaGreatDoorPa13
import Derived.Test.YtfglgeoookbppaaGreatDoorPa19
import Derived.Test.YtfglgeoookbppaaGreatDoorPa10
import Derived.Test.YtfglgeoookbppaaGreatDoorPa4

namespace Go.Proofs.YtfglgeoookbppaaGreatDoor
open Go.RowKit Go.Shelf

theorem encPart : Enc 4 kpCells := ⟨by omega, fun _ => rfl, fun p u hu => by
 simp only [kpCells, strV, List.mem_cons, List.not_mem_nil, or_false] at hu
 rcases hu with rfl | rfl | rfl | rfl <;> rfl⟩
theorem elemPart : ElemN Tryz.prog 59 63 4 := elemN_of (bytes := 40) (z := .agg #[.int .i64 0, .int .i64 0, .float .f64 0, .string ⟨#[]⟩]) (by kernel_rfl) (by kernel_rfl) (by omega) rfl
def PtPost (w : World) (l : List KP) (e : Ending) (w' : World) : Prop := ∃ v, e = .returned v ∧ OwnN w' w.heap.size 63 4 kpCells v l ∧ Keeps w w' []
theorem ownP_row {w : World} {B b : Nat} {l : List KP} (hB : B ≤ b) (hl : l.length ≤ 1000) (r : Row w b 63 (l.flatMap kpCells).toArray) : OwnN w B 63 4 kpCells (.slice (some ⟨b, 0, none⟩) l.length l.length) l := by
 have hln := flat_length encPart l
 exact ⟨hln, .inr ⟨b, l.length, (l.flatMap kpCells).toArray, rfl, hB, r, Nat.le_refl _, by unfold maxLen; omega, by simp [hln], by rw [← hln]; exact List.take_of_length_le (Nat.le_refl _)⟩⟩
theorem pt_fill {W : World} {z : Nat} {v0 v1 v2 v3 u0 u1 u2 u3 : Value} (h : Row W z 63 #[u0, u1, u2, u3]) :
  Row ((((W.setCell ⟨z, 0, none⟩ v0).setCell ⟨z, 1, none⟩ v1).setCell ⟨z, 2, none⟩ v2).setCell ⟨z, 3, none⟩ v3) z 63 #[v0, v1, v2, v3] ∧ Keeps W ((((W.setCell ⟨z, 0, none⟩ v0).setCell ⟨z, 1, none⟩ v1).setCell ⟨z, 2, none⟩ v2).setCell ⟨z, 3, none⟩ v3) [z] := by
 obtain ⟨W0, hW0⟩ : ∃ W', W.setCell ⟨z, 0, none⟩ v0 = W' := ⟨_, rfl⟩
 rw [hW0]
 have h0 : Row W0 z 63 #[v0, u1, u2, u3] := by
  have e := h.store 0 v0
  rw [hW0] at e
  simpa using e
 have k0 : Keeps W W0 [z] := by rw [← hW0]; exact Keeps.setCell _ _ _
 obtain ⟨W1, hW1⟩ : ∃ W', W0.setCell ⟨z, 1, none⟩ v1 = W' := ⟨_, rfl⟩
 rw [hW1]
 have h1 : Row W1 z 63 #[v0, v1, u2, u3] := by
  have e := h0.store 1 v1
  rw [hW1] at e
  simpa using e
 have k1 : Keeps W W1 [z] := k0.trans (by rw [← hW1]; exact Keeps.setCell _ _ _) (by simp)
 obtain ⟨W2, hW2⟩ : ∃ W', W1.setCell ⟨z, 2, none⟩ v2 = W' := ⟨_, rfl⟩
 rw [hW2]
 have h2 : Row W2 z 63 #[v0, v1, v2, u3] := by
  have e := h1.store 2 v2
  rw [hW2] at e
  simpa using e
 have k2 : Keeps W W2 [z] := k1.trans (by rw [← hW2]; exact Keeps.setCell _ _ _) (by simp)
 obtain ⟨W3, hW3⟩ : ∃ W', W2.setCell ⟨z, 3, none⟩ v3 = W' := ⟨_, rfl⟩
 rw [hW3]
 have h3 : Row W3 z 63 #[v0, v1, v2, v3] := by
  have e := h2.store 3 v3
  rw [hW3] at e
  simpa using e
 have k3 : Keeps W W3 [z] := k2.trans (by rw [← hW3]; exact Keeps.setCell _ _ _) (by simp)
 exact ⟨h3, k3⟩
theorem pt_end {w W : World} {z : Nat} {v0 v1 v2 v3 u0 u1 u2 u3 : Value} {F : World → Prop} (h : Row W z 63 #[u0, u1, u2, u3]) (hk : Keeps w W []) (hz : w.heap.size ≤ z)
  (hF : ∀ W9, Row W9 z 63 #[v0, v1, v2, v3] → Keeps w W9 [] → F W9) : F ((((W.setCell ⟨z, 0, none⟩ v0).setCell ⟨z, 1, none⟩ v1).setCell ⟨z, 2, none⟩ v2).setCell ⟨z, 3, none⟩ v3) :=
 hF _ (pt_fill h).1 (hk.trans (pt_fill h).2 fun x hx hlt => by
  rw [List.mem_singleton] at hx
  omega)
theorem conv_by2 (w : World) (l : List UInt8) : ∃ cap w', (convert 9 39 (.string ⟨l.toArray⟩)).run Tryz.prog w = .ok (.slice (some ⟨w.heap.size, 0, none⟩) l.length cap) w' ∧ l.length ≤ cap ∧ Keeps w w' [] ∧ Lies w' w'.heap.size (some ⟨w.heap.size, 0, none⟩) (l.map byteV) := by
 refine ⟨_, _, Lib.run_convert_string_bytes w _ _ _ ⟨l.toArray⟩ undString undBytes undByte, grownCap_ge _ _ _ _, ⟨rfl, rfl, rfl, by rw [Lib.bytesWorld_size]; omega, fun k hk _ => Lib.bytesWorld_at_old w _ _ k hk⟩, fun _ => ⟨_, _, rfl, by rw [Lib.bytesWorld_size]; omega, fun j u hu => ?_⟩⟩
 have hj : j < l.length := by
  have := (List.getElem?_eq_some_iff.1 hu).1
  simpa using this
 rw [Nat.zero_add, Lib.bytesWorld_cell w 5 ⟨l.toArray⟩ j (show j < l.length from hj), ← hu]
 simp [byteV, List.getD_eq_getElem?_getD, List.getElem?_eq_getElem hj]
set_option maxRecDepth 100000 in
set_option maxHeartbeats 1000000 in
theorem rcSum_any (w : World) (s : List UInt8) (hs : s.length ≤ 1000000) : Calls Tryz.prog 67 #[.string ⟨s.toArray⟩] w fun e w' => e = .returned (.agg #[.int .i64 1, .int .i64 (crcSum s : Nat), .float .f64 0, .string ⟨#[]⟩]) ∧ Keeps w w' [] := by
 have hsf := @run_store_float Tryz.prog
 obtain ⟨S, hS⟩ : ∃ S : ByteArray, (⟨s.toArray⟩ : ByteArray) = S := ⟨_, rfl⟩
 have hlt := crcSum_lt s
 obtain ⟨W0, hW0⟩ : ∃ W0, w.alloc (.cells #[.int .i64 0, .int .i64 0, .float .f64 0, .string ⟨#[]⟩] 63) = W0 := ⟨_, rfl⟩
 have k0 : Keeps w W0 [] := by rw [← hW0]; exact Keeps.alloc _ _
 have r0 : Row W0 w.heap.size 63 #[.int .i64 0, .int .i64 0, .float .f64 0, .string ⟨#[]⟩] := by rw [← hW0]; exact Row.new _ _ _
 obtain ⟨cap, W1, hcv, hcap, k1, hL⟩ := conv_by2 W0 s
 rw [hS] at hcv ⊢
 obtain ⟨W2, hW2⟩ : ∃ W2, W1.alloc (.cells #[.slice (some ⟨W0.heap.size, 0, none⟩) s.length cap] 39) = W2 := ⟨_, rfl⟩
 have k2 : Keeps W1 W2 [] := by rw [← hW2]; exact Keeps.alloc _ _
 have r2 : Row W2 W1.heap.size 39 #[.slice (some ⟨W0.heap.size, 0, none⟩) s.length cap] := by rw [← hW2]; exact Row.new _ _ _
 have HC := Lib.hid (crcSum_any W2 W1.heap.size (some ⟨W0.heap.size, 0, none⟩) cap s hcap (by omega) r2.lt (r2.cell 0) (hL.below (k2.below (Nat.le_refl _) (by simp)) |>.mono k2.size))
 have HR := Lib.hid (And.intro r0 (And.intro k0 (k1.then_ k2)))
 generalize crcSum s = n at *
 clear k0 r0 k1 hL hcap k2 r2 hS
 go_enter Tryz.func67, Tryz.ntmps67
 go_wp2_with fail
 refine HC.out.mono ?_
 rintro e w3 ⟨rfl, hk3⟩
 have HK3 := Lib.hid (HR.out.2.2.then_ hk3)
 clear hk3 HC
 go_wp2_with fail
 refine (kInt_any _ _).mono ?_
 rintro e w4 ⟨rfl, hk4⟩
 have r4 := HR.out.1.keeps (HK3.out.then_ hk4)
 have HK4 := Lib.hid (HR.out.2.1.then_ (HK3.out.then_ hk4))
 have x0 := r4.cell 0
 have x1 := r4.cell 1
 have x2 := r4.cell 2
 have x3 := r4.cell 3
 simp only [List.getElem?_toArray, List.getElem?_cons_zero, List.getElem?_cons_succ] at x0 x1 x2 x3
 have g0 := r4.frozen 0
 have g1 := r4.frozen 1
 have g2 := r4.frozen 2
 have g3 := r4.frozen 3
 have H4 := Lib.hid r4
 clear r4 hk4 hW0 hW2 hcv
 go_wp2_with fail
 exact pt_end H4.out HK4.out (Nat.le_refl _) (fun W9 q9 hk => by
  have e0 := q9.cell 0
  have e1 := q9.cell 1
  have e2 := q9.cell 2
  have e3 := q9.cell 3
  simp only [List.getElem?_toArray, List.getElem?_cons_zero, List.getElem?_cons_succ] at e0 e1 e2 e3
  exact bodyPost_ret (v := .agg #[.int .i64 1, .int .i64 (n : Int), .float .f64 0, .string ⟨#[]⟩]) (by simp [results, Tryz.results67, go_sem, e0, e1, e2, e3]) rfl ⟨rfl, hk⟩)
set_option maxRecDepth 100000 in
set_option maxHeartbeats 1000000 in
theorem rcPts1_any (x : Rw) (w : World) (hx : x.Small) : Calls Tryz.prog 61 #[rwV x] w (PtPost w (rcParts 1 x)) := by
 have ht := hx.t
 have hc := hx.c
 clear hx
 obtain ⟨k, c, seq, id, t, b, q, r, s⟩ := x
 simp only at ht hc
 have hsf := @run_store_float Tryz.prog
 obtain ⟨W0, hW0⟩ : ∃ W0, w.alloc (.cells #[.int .i64 k, .string ⟨c.toArray⟩, .int .i64 seq, .int .i64 id, .string ⟨t.toArray⟩, .string ⟨b.toArray⟩, .int .i64 q, .bool r, .int .i64 s] 25) = W0 := ⟨_, rfl⟩
 have k0 : Keeps w W0 [] := by rw [← hW0]; exact Keeps.alloc _ _
 have r0 : Row W0 w.heap.size 25 #[.int .i64 k, .string ⟨c.toArray⟩, .int .i64 seq, .int .i64 id, .string ⟨t.toArray⟩, .string ⟨b.toArray⟩, .int .i64 q, .bool r, .int .i64 s] := by rw [← hW0]; exact Row.new _ _ _
 have HR := Lib.hid (And.intro k0 r0)
 have x0 := r0.cell 0
 have x1 := r0.cell 1
 have x2 := r0.cell 2
 have x3 := r0.cell 3
 have x4 := r0.cell 4
 have x5 := r0.cell 5
 have x6 := r0.cell 6
 have x7 := r0.cell 7
 have x8 := r0.cell 8
 simp only [List.getElem?_toArray, List.getElem?_cons_zero, List.getElem?_cons_succ] at x0 x1 x2 x3 x4 x5 x6 x7 x8
 clear k0 r0
 go_enter Tryz.func61, Tryz.ntmps61
 go_wp2_with fail
 refine (kText_any _ _).mono ?_
 rintro e w1 ⟨rfl, hk⟩
 have HK := Lib.hid (HR.out.1.then_ hk)
 clear hk hW0 x0 x1 x2 x3 x4 x5 x6 x7 x8 ht hc
 go_wp2_with fail
 go_ret
 exact ⟨_, rfl, ownP_row (l := [kText c]) HK.out.size (by simp) (Row.new _ _ _), HK.out.then_alloc _⟩
set_option maxRecDepth 100000 in
set_option maxHeartbeats 1000000 in
theorem rcPts5_any (x : Rw) (w : World) (hx : x.Small) : Calls Tryz.prog 77 #[rwV x] w (PtPost w (rcParts 5 x)) := by
 have ht := hx.t
 have hc := hx.c
 clear hx
 obtain ⟨k, c, seq, id, t, b, q, r, s⟩ := x
 simp only at ht hc
 have hsf := @run_store_float Tryz.prog
 obtain ⟨W0, hW0⟩ : ∃ W0, w.alloc (.cells #[.int .i64 k, .string ⟨c.toArray⟩, .int .i64 seq, .int .i64 id, .string ⟨t.toArray⟩, .string ⟨b.toArray⟩, .int .i64 q, .bool r, .int .i64 s] 25) = W0 := ⟨_, rfl⟩
 have k0 : Keeps w W0 [] := by rw [← hW0]; exact Keeps.alloc _ _
 have r0 : Row W0 w.heap.size 25 #[.int .i64 k, .string ⟨c.toArray⟩, .int .i64 seq, .int .i64 id, .string ⟨t.toArray⟩, .string ⟨b.toArray⟩, .int .i64 q, .bool r, .int .i64 s] := by rw [← hW0]; exact Row.new _ _ _
 have HR := Lib.hid (And.intro k0 r0)
 have x0 := r0.cell 0
 have x1 := r0.cell 1
 have x2 := r0.cell 2
 have x3 := r0.cell 3
 have x4 := r0.cell 4
 have x5 := r0.cell 5
 have x6 := r0.cell 6
 have x7 := r0.cell 7
 have x8 := r0.cell 8
 simp only [List.getElem?_toArray, List.getElem?_cons_zero, List.getElem?_cons_succ] at x0 x1 x2 x3 x4 x5 x6 x7 x8
 clear k0 r0
 go_enter Tryz.func77, Tryz.ntmps77
 go_wp2_with fail
 refine (rcSum_any _ t (by omega)).mono ?_
 rintro e w1 ⟨rfl, hk⟩
 have HK := Lib.hid (HR.out.1.then_ hk)
 clear hk hW0 x0 x1 x2 x3 x4 x5 x6 x7 x8 ht hc
 go_wp2_with fail
 go_ret
 exact ⟨_, rfl, ownP_row (l := [rcSum t]) HK.out.size (by simp) (Row.new _ _ _), HK.out.then_alloc _⟩
set_option maxRecDepth 100000 in
set_option maxHeartbeats 1000000 in
theorem rcPts2_any (x : Rw) (w : World) (hx : x.Small) : Calls Tryz.prog 66 #[rwV x] w (PtPost w (rcParts 2 x)) := by
 have ht := hx.t
 clear hx
 obtain ⟨k, c, seq, id, t, b, q, r, s⟩ := x
 simp only at ht
 have hsf := @run_store_float Tryz.prog
 obtain ⟨W0, hW0⟩ : ∃ W0, w.alloc (.cells #[.int .i64 k, .string ⟨c.toArray⟩, .int .i64 seq, .int .i64 id, .string ⟨t.toArray⟩, .string ⟨b.toArray⟩, .int .i64 q, .bool r, .int .i64 s] 25) = W0 := ⟨_, rfl⟩
 have k0 : Keeps w W0 [] := by rw [← hW0]; exact Keeps.alloc _ _
 have r0 : Row W0 w.heap.size 25 #[.int .i64 k, .string ⟨c.toArray⟩, .int .i64 seq, .int .i64 id, .string ⟨t.toArray⟩, .string ⟨b.toArray⟩, .int .i64 q, .bool r, .int .i64 s] := by rw [← hW0]; exact Row.new _ _ _
 have HR := Lib.hid (And.intro k0 r0)
 have x0 := r0.cell 0
 have x1 := r0.cell 1
 have x2 := r0.cell 2
 have x3 := r0.cell 3
 have x4 := r0.cell 4
 have x5 := r0.cell 5
 have x6 := r0.cell 6
 have x7 := r0.cell 7
 have x8 := r0.cell 8
 simp only [List.getElem?_toArray, List.getElem?_cons_zero, List.getElem?_cons_succ] at x0 x1 x2 x3 x4 x5 x6 x7 x8
 clear k0 r0
 go_enter Tryz.func66, Tryz.ntmps66
 go_upto_region 1 with fail
 clear hW0 x0 x1 x2 x3 x4 x5 x6 x7 x8
 have M1 := fun (W' : World) (hW : Keeps W0 W' []) => (HR.out.2.keeps hW).cell 1
 have M2 := fun (W' : World) (hW : Keeps W0 W' []) => (HR.out.2.keeps hW).cell 4
 simp only [List.getElem?_toArray, List.getElem?_cons_zero, List.getElem?_cons_succ] at M1 M2
 refine wp_region_tail KeepsAll _ 7 (by kernel_rfl) rfl (by kernel_rfl) (fun _ => Keeps.refl _ _) (fun _ _ _ h k => h.trans k (by simp)) (Keeps.drew _) ?_
 simp only [List.take_succ_cons, List.take_zero, List.drop_succ_cons, List.drop_zero]
 apply loose_is
 ·intro W vals hW hkn
  clear hkn
  refine ⟨?_⟩
  simp only [fill]
  go_simp
  first | exact ⟨Keeps.refl _ _, rfl⟩ | exact ⟨Keeps.alloc _ _, rfl⟩
 simp only [addEnt]
 apply loose_is
 ·intro W vals hW hkn
  simp only [knows] at hkn
  try simp only [and_true] at hkn
  clear hkn; have m1 := M1 W hW
  refine ⟨?_⟩
  simp only [fill]
  go_simp
  first | exact ⟨Keeps.refl _ _, rfl⟩ | exact ⟨Keeps.alloc _ _, rfl⟩
 simp only [addEnt]
 apply loose_is
 ·intro W vals hW hkn
  clear hkn
  refine ⟨?_⟩
  simp only [fill]
  go_simp
  refine looseUpon_calls ?_
  exact (kText_any _ W).mono (by rintro e w3 ⟨rfl, hk⟩; exact ⟨_, rfl, hk, rfl⟩)
 simp only [addEnt]
 apply loose_is
 ·intro W vals hW hkn
  clear hkn
  refine ⟨?_⟩
  simp only [fill]
  go_simp
  first | exact ⟨Keeps.refl _ _, rfl⟩ | exact ⟨Keeps.alloc _ _, rfl⟩
 simp only [addEnt]
 apply loose_is
 ·intro W vals hW hkn
  simp only [knows] at hkn
  try simp only [and_true] at hkn
  clear hkn; have m1 := M2 W hW
  refine ⟨?_⟩
  simp only [fill]
  go_simp
  first | exact ⟨Keeps.refl _ _, rfl⟩ | exact ⟨Keeps.alloc _ _, rfl⟩
 simp only [addEnt]
 apply loose_is
 ·intro W vals hW hkn
  clear hkn
  refine ⟨?_⟩
  simp only [fill]
  go_simp
  refine looseUpon_calls ?_
  exact (rcSum_any W t (by omega)).mono (by rintro e w3 ⟨rfl, hk⟩; exact ⟨_, rfl, hk, rfl⟩)
 simp only [addEnt]
 refine loose_has (fun v W' => ∃ b', v = .slice (some ⟨b', 0, none⟩) 2 2 ∧ Row W' b' 63 ([kText c, rcSum t].flatMap kpCells).toArray ∧ W0.heap.size ≤ b') (fun W vals hW hkn φ' hφ => ?_) ?_
 ·simp only [knows] at hkn
  try simp only [and_true] at hkn
  clear hkn
  refine ⟨?_⟩
  simp only [fill]
  go_simp
  exact ⟨Keeps.alloc _ _, hφ.out _ _ ⟨_, rfl, Row.new _ _ _, hW.size⟩⟩
 simp only [addEnt]
 refine loose_nil (fun W vals hW hkn => ?_)
 simp only [knowsAll] at hkn
 try simp only [and_true] at hkn
 simp only [fill, Act.put, List.setIfInBounds_toArray, List.set_cons_succ, List.set_cons_zero]
 obtain ⟨W1, h0, h1, b', hv, hr, hb⟩ := hkn
 have HZ := Lib.hid (And.intro (hr.keeps h1) (And.intro (Nat.le_trans HR.out.1.size hb) (HR.out.1.then_ hW)))
 rw [hv]
 clear hv hr hb h0 h1 hW M1 M2
 go_wp2_with fail
 go_ret
 exact ⟨_, rfl, ownP_row (l := [kText c, rcSum t]) HZ.out.2.1 (by simp) HZ.out.1, HZ.out.2.2⟩
set_option maxRecDepth 100000 in
set_option maxHeartbeats 1000000 in
theorem rcPts3_any (x : Rw) (w : World) (hx : x.Small) : Calls Tryz.prog 71 #[rwV x] w (PtPost w (rcParts 3 x)) := by
 have ht := hx.t
 clear hx
 obtain ⟨k, c, seq, id, t, b, q, r, s⟩ := x
 simp only at ht
 have hsf := @run_store_float Tryz.prog
 obtain ⟨W0, hW0⟩ : ∃ W0, w.alloc (.cells #[.int .i64 k, .string ⟨c.toArray⟩, .int .i64 seq, .int .i64 id, .string ⟨t.toArray⟩, .string ⟨b.toArray⟩, .int .i64 q, .bool r, .int .i64 s] 25) = W0 := ⟨_, rfl⟩
 have k0 : Keeps w W0 [] := by rw [← hW0]; exact Keeps.alloc _ _
 have r0 : Row W0 w.heap.size 25 #[.int .i64 k, .string ⟨c.toArray⟩, .int .i64 seq, .int .i64 id, .string ⟨t.toArray⟩, .string ⟨b.toArray⟩, .int .i64 q, .bool r, .int .i64 s] := by rw [← hW0]; exact Row.new _ _ _
 have HR := Lib.hid (And.intro k0 r0)
 have x0 := r0.cell 0
 have x1 := r0.cell 1
 have x2 := r0.cell 2
 have x3 := r0.cell 3
 have x4 := r0.cell 4
 have x5 := r0.cell 5
 have x6 := r0.cell 6
 have x7 := r0.cell 7
 have x8 := r0.cell 8
 simp only [List.getElem?_toArray, List.getElem?_cons_zero, List.getElem?_cons_succ] at x0 x1 x2 x3 x4 x5 x6 x7 x8
 clear k0 r0
 go_enter Tryz.func71, Tryz.ntmps71
 go_upto_region 1 with fail
 clear hW0 x0 x1 x2 x3 x4 x5 x6 x7 x8
 have M1 := fun (W' : World) (hW : Keeps W0 W' []) => (HR.out.2.keeps hW).cell 1
 have M2 := fun (W' : World) (hW : Keeps W0 W' []) => (HR.out.2.keeps hW).cell 2
 simp only [List.getElem?_toArray, List.getElem?_cons_zero, List.getElem?_cons_succ] at M1 M2
 refine wp_region_tail KeepsAll _ 7 (by kernel_rfl) rfl (by kernel_rfl) (fun _ => Keeps.refl _ _) (fun _ _ _ h k => h.trans k (by simp)) (Keeps.drew _) ?_
 simp only [List.take_succ_cons, List.take_zero, List.drop_succ_cons, List.drop_zero]
 apply loose_is
 ·intro W vals hW hkn
  clear hkn
  refine ⟨?_⟩
  simp only [fill]
  go_simp
  first | exact ⟨Keeps.refl _ _, rfl⟩ | exact ⟨Keeps.alloc _ _, rfl⟩
 simp only [addEnt]
 apply loose_is
 ·intro W vals hW hkn
  simp only [knows] at hkn
  try simp only [and_true] at hkn
  clear hkn; have m1 := M1 W hW
  refine ⟨?_⟩
  simp only [fill]
  go_simp
  first | exact ⟨Keeps.refl _ _, rfl⟩ | exact ⟨Keeps.alloc _ _, rfl⟩
 simp only [addEnt]
 apply loose_is
 ·intro W vals hW hkn
  clear hkn
  refine ⟨?_⟩
  simp only [fill]
  go_simp
  refine looseUpon_calls ?_
  exact (kText_any _ W).mono (by rintro e w3 ⟨rfl, hk⟩; exact ⟨_, rfl, hk, rfl⟩)
 simp only [addEnt]
 apply loose_is
 ·intro W vals hW hkn
  clear hkn
  refine ⟨?_⟩
  simp only [fill]
  go_simp
  first | exact ⟨Keeps.refl _ _, rfl⟩ | exact ⟨Keeps.alloc _ _, rfl⟩
 simp only [addEnt]
 apply loose_is
 ·intro W vals hW hkn
  simp only [knows] at hkn
  try simp only [and_true] at hkn
  clear hkn; have m1 := M2 W hW
  refine ⟨?_⟩
  simp only [fill]
  go_simp
  first | exact ⟨Keeps.refl _ _, rfl⟩ | exact ⟨Keeps.alloc _ _, rfl⟩
 simp only [addEnt]
 apply loose_is
 ·intro W vals hW hkn
  clear hkn
  refine ⟨?_⟩
  simp only [fill]
  go_simp
  refine looseUpon_calls ?_
  exact (kInt_any _ W).mono (by rintro e w3 ⟨rfl, hk⟩; exact ⟨_, rfl, hk, rfl⟩)
 simp only [addEnt]
 refine loose_has (fun v W' => ∃ b', v = .slice (some ⟨b', 0, none⟩) 2 2 ∧ Row W' b' 63 ([kText c, kInt seq].flatMap kpCells).toArray ∧ W0.heap.size ≤ b') (fun W vals hW hkn φ' hφ => ?_) ?_
 ·simp only [knows] at hkn
  try simp only [and_true] at hkn
  clear hkn
  refine ⟨?_⟩
  simp only [fill]
  go_simp
  exact ⟨Keeps.alloc _ _, hφ.out _ _ ⟨_, rfl, Row.new _ _ _, hW.size⟩⟩
 simp only [addEnt]
 refine loose_nil (fun W vals hW hkn => ?_)
 simp only [knowsAll] at hkn
 try simp only [and_true] at hkn
 simp only [fill, Act.put, List.setIfInBounds_toArray, List.set_cons_succ, List.set_cons_zero]
 obtain ⟨W1, h0, h1, b', hv, hr, hb⟩ := hkn
 have HZ := Lib.hid (And.intro (hr.keeps h1) (And.intro (Nat.le_trans HR.out.1.size hb) (HR.out.1.then_ hW)))
 rw [hv]
 clear hv hr hb h0 h1 hW M1 M2
 go_wp2_with fail
 go_ret
 exact ⟨_, rfl, ownP_row (l := [kText c, kInt seq]) HZ.out.2.1 (by simp) HZ.out.1, HZ.out.2.2⟩
set_option maxRecDepth 100000 in
set_option maxHeartbeats 1000000 in
theorem rcPts4_any (x : Rw) (w : World) (hx : x.Small) : Calls Tryz.prog 74 #[rwV x] w (PtPost w (rcParts 4 x)) := by
 have ht := hx.t
 clear hx
 obtain ⟨k, c, seq, id, t, b, q, r, s⟩ := x
 simp only at ht
 have hsf := @run_store_float Tryz.prog
 obtain ⟨W0, hW0⟩ : ∃ W0, w.alloc (.cells #[.int .i64 k, .string ⟨c.toArray⟩, .int .i64 seq, .int .i64 id, .string ⟨t.toArray⟩, .string ⟨b.toArray⟩, .int .i64 q, .bool r, .int .i64 s] 25) = W0 := ⟨_, rfl⟩
 have k0 : Keeps w W0 [] := by rw [← hW0]; exact Keeps.alloc _ _
 have r0 : Row W0 w.heap.size 25 #[.int .i64 k, .string ⟨c.toArray⟩, .int .i64 seq, .int .i64 id, .string ⟨t.toArray⟩, .string ⟨b.toArray⟩, .int .i64 q, .bool r, .int .i64 s] := by rw [← hW0]; exact Row.new _ _ _
 have HR := Lib.hid (And.intro k0 r0)
 have x0 := r0.cell 0
 have x1 := r0.cell 1
 have x2 := r0.cell 2
 have x3 := r0.cell 3
 have x4 := r0.cell 4
 have x5 := r0.cell 5
 have x6 := r0.cell 6
 have x7 := r0.cell 7
 have x8 := r0.cell 8
 simp only [List.getElem?_toArray, List.getElem?_cons_zero, List.getElem?_cons_succ] at x0 x1 x2 x3 x4 x5 x6 x7 x8
 clear k0 r0
 go_enter Tryz.func74, Tryz.ntmps74
 go_upto_region 1 with fail
 clear hW0 x0 x1 x2 x3 x4 x5 x6 x7 x8
 have M1 := fun (W' : World) (hW : Keeps W0 W' []) => (HR.out.2.keeps hW).cell 1
 have M2 := fun (W' : World) (hW : Keeps W0 W' []) => (HR.out.2.keeps hW).cell 3
 simp only [List.getElem?_toArray, List.getElem?_cons_zero, List.getElem?_cons_succ] at M1 M2
 refine wp_region_tail KeepsAll _ 7 (by kernel_rfl) rfl (by kernel_rfl) (fun _ => Keeps.refl _ _) (fun _ _ _ h k => h.trans k (by simp)) (Keeps.drew _) ?_
 simp only [List.take_succ_cons, List.take_zero, List.drop_succ_cons, List.drop_zero]
 apply loose_is
 ·intro W vals hW hkn
  clear hkn
  refine ⟨?_⟩
  simp only [fill]
  go_simp
  first | exact ⟨Keeps.refl _ _, rfl⟩ | exact ⟨Keeps.alloc _ _, rfl⟩
 simp only [addEnt]
 apply loose_is
 ·intro W vals hW hkn
  simp only [knows] at hkn
  try simp only [and_true] at hkn
  clear hkn; have m1 := M1 W hW
  refine ⟨?_⟩
  simp only [fill]
  go_simp
  first | exact ⟨Keeps.refl _ _, rfl⟩ | exact ⟨Keeps.alloc _ _, rfl⟩
 simp only [addEnt]
 apply loose_is
 ·intro W vals hW hkn
  clear hkn
  refine ⟨?_⟩
  simp only [fill]
  go_simp
  refine looseUpon_calls ?_
  exact (kText_any _ W).mono (by rintro e w3 ⟨rfl, hk⟩; exact ⟨_, rfl, hk, rfl⟩)
 simp only [addEnt]
 apply loose_is
 ·intro W vals hW hkn
  clear hkn
  refine ⟨?_⟩
  simp only [fill]
  go_simp
  first | exact ⟨Keeps.refl _ _, rfl⟩ | exact ⟨Keeps.alloc _ _, rfl⟩
 simp only [addEnt]
 apply loose_is
 ·intro W vals hW hkn
  simp only [knows] at hkn
  try simp only [and_true] at hkn
  clear hkn; have m1 := M2 W hW
  refine ⟨?_⟩
  simp only [fill]
  go_simp
  first | exact ⟨Keeps.refl _ _, rfl⟩ | exact ⟨Keeps.alloc _ _, rfl⟩
 simp only [addEnt]
 apply loose_is
 ·intro W vals hW hkn
  clear hkn
  refine ⟨?_⟩
  simp only [fill]
  go_simp
  refine looseUpon_calls ?_
  exact (kInt_any _ W).mono (by rintro e w3 ⟨rfl, hk⟩; exact ⟨_, rfl, hk, rfl⟩)
 simp only [addEnt]
 refine loose_has (fun v W' => ∃ b', v = .slice (some ⟨b', 0, none⟩) 2 2 ∧ Row W' b' 63 ([kText c, kInt id].flatMap kpCells).toArray ∧ W0.heap.size ≤ b') (fun W vals hW hkn φ' hφ => ?_) ?_
 ·simp only [knows] at hkn
  try simp only [and_true] at hkn
  clear hkn
  refine ⟨?_⟩
  simp only [fill]
  go_simp
  exact ⟨Keeps.alloc _ _, hφ.out _ _ ⟨_, rfl, Row.new _ _ _, hW.size⟩⟩
 simp only [addEnt]
 refine loose_nil (fun W vals hW hkn => ?_)
 simp only [knowsAll] at hkn
 try simp only [and_true] at hkn
 simp only [fill, Act.put, List.setIfInBounds_toArray, List.set_cons_succ, List.set_cons_zero]
 obtain ⟨W1, h0, h1, b', hv, hr, hb⟩ := hkn
 have HZ := Lib.hid (And.intro (hr.keeps h1) (And.intro (Nat.le_trans HR.out.1.size hb) (HR.out.1.then_ hW)))
 rw [hv]
 clear hv hr hb h0 h1 hW M1 M2
 go_wp2_with fail
 go_ret
 exact ⟨_, rfl, ownP_row (l := [kText c, kInt id]) HZ.out.2.1 (by simp) HZ.out.1, HZ.out.2.2⟩
end Go.Proofs.YtfglgeoookbppaaGreatDoor

namespace Go.Proofs.YtfglgeoookbppaaGreatDoor
open Go.RowKit Go.Shelf

def rcTree (k : Int) : List UInt8 := if k = 1 then [115, 101, 115, 115, 105, 111, 110] else if k = 2 then [115, 117, 98] else if k = 3 then [111, 117, 116] else if k = 4 then [105, 110] else if k = 5 then [114, 101, 116, 97, 105, 110] else []
structure RcK (k : Int) (T : ByteArray) (i1 i2 i3 : FuncId) (pl : Bool) : Prop where
 of : rcOf k = .agg #[.string T, (.func (.func i1) #[] #[]), (.func (.func i2) #[] #[]), (.func (.func i3) #[] #[]), .bool pl]
 may : ∀ (x : Rw) (w : World), x.Small → MaxL w → Calls Tryz.prog i1 #[rwV x] w (TruePost w (rcMay k x))
 has : ∀ (x : Rw) (w : World), Calls Tryz.prog i2 #[rwV x] w (HasPost w (rcHas k x))
 pts : ∀ (x : Rw) (w : World), x.Small → Calls Tryz.prog i3 #[rwV x] w (PtPost w (rcParts k x))
 r1 : ∀ (args : Array Value) (w : World), (callFunc i1 args).run Tryz.prog w = .ok (.enter i1 args) w
 r2 : ∀ (args : Array Value) (w : World), (callFunc i2 args).run Tryz.prog w = .ok (.enter i2 args) w
 r3 : ∀ (args : Array Value) (w : World), (callFunc i3 args).run Tryz.prog w = .ok (.enter i3 args) w
 pl : pl = rcPlaced k
 tree : T = ⟨(rcTree k).toArray⟩
theorem rcK {k : Int} (h : rcIs k = true) : ∃ T i1 i2 i3 pl, RcK k T i1 i2 i3 pl := by
 have e : k = 1 ∨ k = 2 ∨ k = 3 ∨ k = 4 ∨ k = 5 := by
  unfold rcIs inN at h
  simp only [Bool.and_eq_true, decide_eq_true_eq] at h
  omega
 rcases e with rfl | rfl | rfl | rfl | rfl
 ·exact ⟨_, _, _, _, _, rfl, fun x w h _ => rcMay1_any x w h, rcHas1_any, rcPts1_any, fun _ _ => by kernel_rfl, fun _ _ => by kernel_rfl, fun _ _ => by kernel_rfl, rfl, rfl⟩
 ·exact ⟨_, _, _, _, _, rfl, fun x w h hm => rcMay2_any x w h hm, rcHas2_any, rcPts2_any, fun _ _ => by kernel_rfl, fun _ _ => by kernel_rfl, fun _ _ => by kernel_rfl, rfl, rfl⟩
 ·exact ⟨_, _, _, _, _, rfl, fun x w h _ => rcMay3_any x w h, rcHas3_any, rcPts3_any, fun _ _ => by kernel_rfl, fun _ _ => by kernel_rfl, fun _ _ => by kernel_rfl, rfl, rfl⟩
 ·exact ⟨_, _, _, _, _, rfl, fun x w h _ => rcMay4_any x w h, rcHas4_any, rcPts4_any, fun _ _ => by kernel_rfl, fun _ _ => by kernel_rfl, fun _ _ => by kernel_rfl, rfl, rfl⟩
 ·exact ⟨_, _, _, _, _, rfl, fun x w h _ => rcMay5_any x w h, rcHas5_any, rcPts5_any, fun _ _ => by kernel_rfl, fun _ _ => by kernel_rfl, fun _ _ => by kernel_rfl, rfl, rfl⟩
theorem rcOf_none {k : Int} (h : rcIs k = false) : rcOf k = rc0 := by
 unfold rcIs inN at h
 simp only [Bool.and_eq_false_iff, decide_eq_false_iff_not] at h
 unfold rcOf
 rw [if_neg (by omega), if_neg (by omega), if_neg (by omega), if_neg (by omega), if_neg (by omega)]
theorem rcTree_none {k : Int} (h : rcIs k = false) : rcTree k = [] := by
 unfold rcIs inN at h
 simp only [Bool.and_eq_false_iff, decide_eq_false_iff_not] at h
 unfold rcTree
 rw [if_neg (by omega), if_neg (by omega), if_neg (by omega), if_neg (by omega), if_neg (by omega)]
def TreePost (w : World) (k : Int) (e : Ending) (w' : World) : Prop := e = .returned (.tuple #[.string ⟨(rcTree k).toArray⟩, .int .i64 (if rcIs k = true then 0 else 2)]) ∧ Keeps w w' []
set_option maxRecDepth 100000 in
set_option maxHeartbeats 1000000 in
theorem rcTree_any (w : World) (k : Int) (h1 : -9223372036854775808 ≤ k) (h2 : k ≤ 9223372036854775807) : Calls Tryz.prog 24 #[.int .i64 k] w (TreePost w k) := by
 cases hi : rcIs k with
 | true =>
  obtain ⟨T, i1, i2, i3, pl, K⟩ := rcK hi
  have HT := Lib.hid (And.intro K.tree hi)
  have HO := Lib.hid K.of
  clear K
  go_enter Tryz.func24, Tryz.ntmps24
  go_wp2_with fail
  refine (rcKinds_any _).mono ?_
  rintro e w1 ⟨b, rfl, hb, hk⟩
  have hlk := hb.look k h1 h2 true
  rw [HO.out, hi, if_pos rfl] at hlk
  have HK := Lib.hid hk
  clear hb hk hi
  go_wp2_with fail
  go_ret2
  exact ⟨by rw [if_pos HT.out.2, ← HT.out.1]; rfl, HK.out.then_alloc _⟩
 | false =>
  have HT := Lib.hid (And.intro (rcTree_none hi) hi)
  have HO := Lib.hid (rcOf_none hi)
  go_enter Tryz.func24, Tryz.ntmps24
  go_wp2_with fail
  refine (rcKinds_any _).mono ?_
  rintro e w1 ⟨b, rfl, hb, hk⟩
  have hlk := hb.look k h1 h2 true
  rw [HO.out, hi, if_pos rfl] at hlk
  have HK := Lib.hid hk
  clear hb hk hi
  unfold rc0 at hlk
  go_wp2_with fail
  go_ret2
  exact ⟨by rw [if_neg (by rw [HT.out.2]; simp), HT.out.1]; rfl, HK.out.then_alloc _⟩
end Go.Proofs.YtfglgeoookbppaaGreatDoor
