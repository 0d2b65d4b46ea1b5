/- Package records: Check. -/
import Derived.Test.YtfglgeoookbppaaGreatDoorPa20
import Derived.Test.YtfglgeoookbppaaGreatDoorPa3

namespace Go.Proofs.YtfglgeoookbppaaGreatDoor
open Go.RowKit Go.Shelf

theorem RcKinds.fills {B : Nat} {c1 : Array Value} {ty : TypeId} {fz : Nat × Nat} {O2 : Obj} {W W' : World} {b : Nat} (h : RcKinds W b) (hk : KeepsF B (.cells c1 ty fz) O2 W W') : RcKinds W' b := by
 obtain ⟨es, clock, hb', F, hs, hD⟩ := h
 exact ⟨es, clock, hk.other hb' (by simp), F, hs, hD⟩
/-- A kind's block, new and filled. -/
def rcO1 : Obj := .cells #[.string ⟨#[]⟩, .nilFunc, .nilFunc, .nilFunc, .bool false] 55 (0, 0)
def rcO2 (v0 v1 v2 v3 v4 : Value) : Obj := .cells #[v0, v1, v2, v3, v4] 55 (0, 0)
abbrev rcSet (W : World) (b : Nat) (v0 v1 v2 v3 v4 : Value) : World := ((((W.setCell ⟨b, 0, none⟩ v0).setCell ⟨b, 1, none⟩ v1).setCell ⟨b, 2, none⟩ v2).setCell ⟨b, 3, none⟩ v3).setCell ⟨b, 4, none⟩ v4
theorem rcFill5 {W : World} {z : Nat} {v0 v1 v2 v3 v4 u0 u1 u2 u3 u4 : Value} (h : Row W z 55 #[u0, u1, u2, u3, u4]) :
  Row (rcSet W z v0 v1 v2 v3 v4) z 55 #[v0, v1, v2, v3, v4] ∧ Keeps W (rcSet W z v0 v1 v2 v3 v4) [z] := by
 unfold rcSet
 obtain ⟨W0, hW0⟩ : ∃ W', W.setCell ⟨z, 0, none⟩ v0 = W' := ⟨_, rfl⟩
 rw [hW0]
 have h0 : Row W0 z 55 #[v0, u1, u2, u3, u4] := by have e := h.store 0 v0; rw [hW0] at e; simpa using e
 have k0 : Keeps W W0 [z] := by rw [← hW0]; exact Keeps.setCell _ _ _
 obtain ⟨W1, hW1⟩ : ∃ W', W0.setCell ⟨z, 1, none⟩ v1 = W' := ⟨_, rfl⟩
 rw [hW1]
 have h1 : Row W1 z 55 #[v0, v1, u2, u3, u4] := by have e := h0.store 1 v1; rw [hW1] at e; simpa using e
 have k1 : Keeps W W1 [z] := k0.trans (by rw [← hW1]; exact Keeps.setCell _ _ _) (by simp)
 obtain ⟨W2, hW2⟩ : ∃ W', W1.setCell ⟨z, 2, none⟩ v2 = W' := ⟨_, rfl⟩
 rw [hW2]
 have h2 : Row W2 z 55 #[v0, v1, v2, u3, u4] := by have e := h1.store 2 v2; rw [hW2] at e; simpa using e
 have k2 : Keeps W W2 [z] := k1.trans (by rw [← hW2]; exact Keeps.setCell _ _ _) (by simp)
 obtain ⟨W3, hW3⟩ : ∃ W', W2.setCell ⟨z, 3, none⟩ v3 = W' := ⟨_, rfl⟩
 rw [hW3]
 have h3 : Row W3 z 55 #[v0, v1, v2, v3, u4] := by have e := h2.store 3 v3; rw [hW3] at e; simpa using e
 have k3 : Keeps W W3 [z] := k2.trans (by rw [← hW3]; exact Keeps.setCell _ _ _) (by simp)
 obtain ⟨W4, hW4⟩ : ∃ W', W3.setCell ⟨z, 4, none⟩ v4 = W' := ⟨_, rfl⟩
 rw [hW4]
 have h4 : Row W4 z 55 #[v0, v1, v2, v3, v4] := by have e := h3.store 4 v4; rw [hW4] at e; simpa using e
 have k4 : Keeps W W4 [z] := k3.trans (by rw [← hW4]; exact Keeps.setCell _ _ _) (by simp)
 exact ⟨h4, k4⟩
theorem rcFill {B : Nat} {v0 v1 v2 v3 v4 : Value} {W : World} {b : Nat} (hB : B ≤ b) (h : W.heap[b]? = some rcO1 ∨ W.heap[b]? = some (rcO2 v0 v1 v2 v3 v4)) :
  KeepsF B rcO1 (rcO2 v0 v1 v2 v3 v4) W (rcSet W b v0 v1 v2 v3 v4) ∧ (rcSet W b v0 v1 v2 v3 v4).heap[b]? = some (rcO2 v0 v1 v2 v3 v4) := by
 have q : ∃ u0 u1 u2 u3 u4, Row W b 55 #[u0, u1, u2, u3, u4] := by
  rcases h with h | h
  ·exact ⟨_, _, _, _, _, h⟩
  ·exact ⟨_, _, _, _, _, h⟩
 obtain ⟨u0, u1, u2, u3, u4, q⟩ := q
 have r := rcFill5 (v0 := v0) (v1 := v1) (v2 := v2) (v3 := v3) (v4 := v4) q
 exact ⟨KeepsF.fill r.2 hB h r.1, r.1⟩
theorem rcCell {v0 v1 v2 v3 v4 : Value} {W : World} {b : Nat} (h : W.heap[b]? = some rcO1 ∨ W.heap[b]? = some (rcO2 v0 v1 v2 v3 v4)) :
  ∃ u0 u1 u2 u3 u4, W.cell? ⟨b, 0, none⟩ = some u0 ∧ W.cell? ⟨b, 1, none⟩ = some u1 ∧ W.cell? ⟨b, 2, none⟩ = some u2 ∧ W.cell? ⟨b, 3, none⟩ = some u3 ∧ W.cell? ⟨b, 4, none⟩ = some u4 ∧ ∀ i, W.frozen? ⟨b, i, none⟩ = false := by
 rcases h with h | h
 ·have hr : Row W b 55 #[.string ⟨#[]⟩, .nilFunc, .nilFunc, .nilFunc, .bool false] := h
  exact ⟨_, _, _, _, _, hr.cell 0, hr.cell 1, hr.cell 2, hr.cell 3, hr.cell 4, hr.frozen⟩
 ·have hr : Row W b 55 #[v0, v1, v2, v3, v4] := h
  exact ⟨_, _, _, _, _, hr.cell 0, hr.cell 1, hr.cell 2, hr.cell 3, hr.cell 4, hr.frozen⟩
def CkPost (w : World) (x : Rw) (e : Ending) (w' : World) : Prop := e = .returned (.int .i64 (if rcOk x = true then 0 else 2)) ∧ Keeps w w' []
set_option maxRecDepth 100000 in
set_option maxHeartbeats 4000000 in
theorem rcCheck_any (x : Rw) (w : World) (hx : x.Small) (hM : MaxL w) (hk1 : -9223372036854775808 ≤ x.k) (hk2 : x.k ≤ 9223372036854775807) : Calls Tryz.prog 19 #[rwV x] w (CkPost w x) := by
 cases hi : rcIs x.k with
 | false =>
  have HT := Lib.hid (show rcOk x = false by unfold rcOk; rw [hi]; rfl)
  have HO := Lib.hid (rcOf_none hi)
  have HI := Lib.hid hi
  clear hi hx hM
  obtain ⟨k, c, seq, id, t, b, q, r, s⟩ := x
  simp only at hk1 hk2 HO HI
  obtain ⟨W0, hW0⟩ : ∃ W0, w.alloc (.cells #[.int .i64 k, .string ⟨c.toArray⟩, .int .i64 seq, .int .i64 id, .string ⟨t.toArray⟩, .string ⟨b.toArray⟩, .int .i64 q, .bool r, .int .i64 s] 25) = W0 := ⟨_, rfl⟩
  have k0 : Keeps w W0 [] := by rw [← hW0]; exact Keeps.alloc _ _
  have r0 : Row W0 w.heap.size 25 #[.int .i64 k, .string ⟨c.toArray⟩, .int .i64 seq, .int .i64 id, .string ⟨t.toArray⟩, .string ⟨b.toArray⟩, .int .i64 q, .bool r, .int .i64 s] := by rw [← hW0]; exact Row.new _ _ _
  have HR := Lib.hid (And.intro k0 r0)
  have x0 := r0.cell 0
  have x1 := r0.cell 1
  have x2 := r0.cell 2
  have x3 := r0.cell 3
  have x4 := r0.cell 4
  have x5 := r0.cell 5
  have x6 := r0.cell 6
  have x7 := r0.cell 7
  have x8 := r0.cell 8
  simp only [List.getElem?_toArray, List.getElem?_cons_zero, List.getElem?_cons_succ] at x0 x1 x2 x3 x4 x5 x6 x7 x8
  clear k0 r0
  go_enter Tryz.func19, Tryz.ntmps19
  go_upto_region 1 with fail
  clear hW0 x0 x1 x2 x3 x4 x5 x6 x7 x8
  have M0 := fun (W' : World) (hW : Keeps W0 W' []) => (HR.out.2.keeps hW).cell 0
  simp only [List.getElem?_toArray, List.getElem?_cons_zero] at M0
  unfold rc0 at HO
  refine wp_region_fills (rcO1) (rcO2 (.string ⟨#[]⟩) (.nilFunc) (.nilFunc) (.nilFunc) (.bool false)) _ (by kernel_rfl) rfl (by kernel_rfl) ?_
  refine loose_has (fun v W => ∃ b, v = .map (some b) ∧ RcKinds W b) (fun W vals hW hkn φ' hφ => ?_) ?_
  ·simp only [knows] at hkn
   try simp only [and_true] at hkn
   have hWF := Lib.hid hW
   replace hW := KeepsF.keeps hW
   clear hkn
   refine ⟨?_⟩
   simp only [fill]
   go_simp
   (with_reducible refine loosef_has hφ ?_; refine (rcKinds_any W).mono ?_; rintro e w2 ⟨b, rfl, h1, h2⟩; exact ⟨_, rfl, h2, b, rfl, h1⟩)
  simp only [addEnt]
  apply loose_is
  ·intro W vals hW hkn
   clear hkn
   have hWF := Lib.hid hW
   replace hW := KeepsF.keeps hW
   refine ⟨?_⟩
   simp only [fill]
   go_simp
   first | exact ⟨KeepsF.refl _, rfl⟩ | exact ⟨KeepsF.of (Keeps.alloc _ _), rfl⟩
  simp only [addEnt]
  apply loose_is
  ·intro W vals hW hkn
   simp only [knows] at hkn
   try simp only [and_true] at hkn
   have hWF := Lib.hid hW
   replace hW := KeepsF.keeps hW
   clear hkn; have m0 := M0 W hW
   refine ⟨?_⟩
   simp only [fill]
   go_simp
   first | exact ⟨KeepsF.refl _, rfl⟩ | exact ⟨KeepsF.of (Keeps.alloc _ _), rfl⟩
  simp only [addEnt]
  apply loose_is
  ·intro W vals hW hkn
   simp only [knows] at hkn
   try simp only [and_true] at hkn
   have hWF := Lib.hid hW
   replace hW := KeepsF.keeps hW
   obtain ⟨W1, h0, h1, b2, hv, hb⟩ := hkn (by decide); have hlk := (hb.fills h1).look k hk1 hk2 true; rw [HO.out, HI.out, if_pos rfl] at hlk; clear hb
   refine ⟨?_⟩
   simp only [fill]
   go_simp
   first | exact ⟨KeepsF.refl _, rfl⟩ | exact ⟨KeepsF.of (Keeps.alloc _ _), rfl⟩
  simp only [addEnt]
  apply loose_is
  ·intro W vals hW hkn
   clear hkn
   have hWF := Lib.hid hW
   replace hW := KeepsF.keeps hW
   refine ⟨?_⟩
   simp only [fill]
   go_simp
   first | exact ⟨KeepsF.refl _, rfl⟩ | exact ⟨KeepsF.of (Keeps.alloc _ _), rfl⟩
  simp only [addEnt]
  apply loose_is
  ·intro W vals hW hkn
   clear hkn
   have hWF := Lib.hid hW
   replace hW := KeepsF.keeps hW
   refine ⟨?_⟩
   simp only [fill]
   go_simp
   first | exact ⟨KeepsF.refl _, rfl⟩ | exact ⟨KeepsF.of (Keeps.alloc _ _), rfl⟩
  simp only [addEnt]
  apply loose_is
  ·intro W vals hW hkn
   clear hkn
   have hWF := Lib.hid hW
   replace hW := KeepsF.keeps hW
   refine ⟨?_⟩
   simp only [fill]
   go_simp
   first | exact ⟨KeepsF.refl _, rfl⟩ | exact ⟨KeepsF.of (Keeps.alloc _ _), rfl⟩
  simp only [addEnt]
  refine loose_has (fun v W => ∃ b, v = .pointer (some ⟨b, 0, none⟩) ∧ W0.heap.size ≤ b ∧ (W.heap[b]? = some rcO1 ∨ W.heap[b]? = some (rcO2 (.string ⟨#[]⟩) (.nilFunc) (.nilFunc) (.nilFunc) (.bool false)))) (fun W vals hW hkn φ' hφ => ?_) ?_
  ·simp only [knows] at hkn
   try simp only [and_true] at hkn
   have hWF := Lib.hid hW
   replace hW := KeepsF.keeps hW
   clear hkn
   refine ⟨?_⟩
   simp only [fill]
   go_simp
   exact loosef_value hφ (.of (Keeps.alloc _ _)) ⟨_, rfl, hW.size, .inl (heap_alloc_new _ _)⟩
  simp only [addEnt]
  refine loose_had [3] (fun rd _ W => ∃ b, rd = [.pointer (some ⟨b, 0, none⟩)] ∧ W.heap[b]? = some (rcO2 (.string ⟨#[]⟩) (.nilFunc) (.nilFunc) (.nilFunc) (.bool false))) (by kernel_rfl) (fun W vals hW hkn φ' hφ => ?_) ?_
  ·simp only [knows] at hkn
   try simp only [and_true] at hkn
   have hWF := Lib.hid hW
   replace hW := KeepsF.keeps hW
   obtain ⟨W1, h0, h1, b3, hv3, hb3, ho⟩ := hkn.1 (by decide); replace ho := h1.slot ho; obtain ⟨u0, u1, u2, u3, u4, d0, d1, d2, d3, d4, fr⟩ := rcCell ho; have HQ := Lib.hid (rcFill hb3 ho); have g0 := fr 0; have g1 := fr 1; have g2 := fr 2; have g3 := fr 3; have g4 := fr 4; clear fr ho
   refine ⟨?_⟩
   simp only [fill]
   go_simp
   exact ⟨HQ.out.1, hφ.out _ _ ⟨_, by simp [hv3], HQ.out.2⟩⟩
  simp only [addEnt]
  apply loose_is
  ·intro W vals hW hkn
   clear hkn
   have hWF := Lib.hid hW
   replace hW := KeepsF.keeps hW
   refine ⟨?_⟩
   simp only [fill]
   go_simp
   first | exact ⟨KeepsF.refl _, rfl⟩ | exact ⟨KeepsF.of (Keeps.alloc _ _), rfl⟩
  simp only [addEnt]
  refine loose_nil (fun W vals hW hkn => ?_)
  simp only [knowsAll] at hkn
  try simp only [and_true] at hkn
  simp only [fill, Act.put, List.setIfInBounds_toArray, List.set_cons_succ, List.set_cons_zero]
  obtain ⟨⟨_, W1, h0, h1, b5, hv5, ho⟩, _⟩ := hkn
  obtain hv5 : vals 3 = .pointer (some ⟨b5, 0, none⟩) := by simpa using hv5
  rw [hv5]
  have HK := Lib.hid (HR.out.1.then_ hW.keeps)
  clear hW h0 h1 ho hv5 M0
  generalize vals 7 = v7
  go_wp2_with fail
  go_ret
  exact ⟨by rw [HT.out]; rfl, HK.out⟩
 | true =>
  obtain ⟨T, i1, i2, i3, pl, K⟩ := rcK hi
  have HO := Lib.hid K.of
  have HI := Lib.hid hi
  have CM := Lib.hid (fun w h => K.may x w hx h)
  have CH := Lib.hid (fun w => K.has x w)
  have hr1 := K.r1
  have hr2 := K.r2
  obtain ⟨my, hmy⟩ : ∃ my, rcMay x.k x = my := ⟨_, rfl⟩
  obtain ⟨y, hy⟩ : ∃ y, rcHas x.k x = y := ⟨_, rfl⟩
  have HT := Lib.hid (show rcOk x = (my && rwEq { y with k := x.k } x) by unfold rcOk; rw [hi, hmy, hy]; rfl)
  rw [hmy] at CM
  rw [hy] at CH
  have HM := Lib.hid hM
  clear hi hx hM K hmy hy
  obtain ⟨k, c, seq, id, t, b, q, r, s⟩ := x
  simp only at hk1 hk2 HO HI CM CH HT
  obtain ⟨W0, hW0⟩ : ∃ W0, w.alloc (.cells #[.int .i64 k, .string ⟨c.toArray⟩, .int .i64 seq, .int .i64 id, .string ⟨t.toArray⟩, .string ⟨b.toArray⟩, .int .i64 q, .bool r, .int .i64 s] 25) = W0 := ⟨_, rfl⟩
  have k0 : Keeps w W0 [] := by rw [← hW0]; exact Keeps.alloc _ _
  have r0 : Row W0 w.heap.size 25 #[.int .i64 k, .string ⟨c.toArray⟩, .int .i64 seq, .int .i64 id, .string ⟨t.toArray⟩, .string ⟨b.toArray⟩, .int .i64 q, .bool r, .int .i64 s] := by rw [← hW0]; exact Row.new _ _ _
  have HR := Lib.hid (And.intro k0 r0)
  have x0 := r0.cell 0
  have x1 := r0.cell 1
  have x2 := r0.cell 2
  have x3 := r0.cell 3
  have x4 := r0.cell 4
  have x5 := r0.cell 5
  have x6 := r0.cell 6
  have x7 := r0.cell 7
  have x8 := r0.cell 8
  simp only [List.getElem?_toArray, List.getElem?_cons_zero, List.getElem?_cons_succ] at x0 x1 x2 x3 x4 x5 x6 x7 x8
  clear k0 r0
  go_enter Tryz.func19, Tryz.ntmps19
  go_upto_region 1 with fail
  clear hW0 x0 x1 x2 x3 x4 x5 x6 x7 x8
  have M0 := fun (W' : World) (hW : Keeps W0 W' []) => (HR.out.2.keeps hW).cell 0
  simp only [List.getElem?_toArray, List.getElem?_cons_zero] at M0
  refine wp_region_fills (rcO1) (rcO2 (.string T) ((.func (.func i1) #[] #[])) ((.func (.func i2) #[] #[])) ((.func (.func i3) #[] #[])) (.bool pl)) _ (by kernel_rfl) rfl (by kernel_rfl) ?_
  refine loose_has (fun v W => ∃ b, v = .map (some b) ∧ RcKinds W b) (fun W vals hW hkn φ' hφ => ?_) ?_
  ·simp only [knows] at hkn
   try simp only [and_true] at hkn
   have hWF := Lib.hid hW
   replace hW := KeepsF.keeps hW
   clear hkn
   refine ⟨?_⟩
   simp only [fill]
   go_simp
   (with_reducible refine loosef_has hφ ?_; refine (rcKinds_any W).mono ?_; rintro e w2 ⟨b, rfl, h1, h2⟩; exact ⟨_, rfl, h2, b, rfl, h1⟩)
  simp only [addEnt]
  apply loose_is
  ·intro W vals hW hkn
   clear hkn
   have hWF := Lib.hid hW
   replace hW := KeepsF.keeps hW
   refine ⟨?_⟩
   simp only [fill]
   go_simp
   first | exact ⟨KeepsF.refl _, rfl⟩ | exact ⟨KeepsF.of (Keeps.alloc _ _), rfl⟩
  simp only [addEnt]
  apply loose_is
  ·intro W vals hW hkn
   simp only [knows] at hkn
   try simp only [and_true] at hkn
   have hWF := Lib.hid hW
   replace hW := KeepsF.keeps hW
   clear hkn; have m0 := M0 W hW
   refine ⟨?_⟩
   simp only [fill]
   go_simp
   first | exact ⟨KeepsF.refl _, rfl⟩ | exact ⟨KeepsF.of (Keeps.alloc _ _), rfl⟩
  simp only [addEnt]
  apply loose_is
  ·intro W vals hW hkn
   simp only [knows] at hkn
   try simp only [and_true] at hkn
   have hWF := Lib.hid hW
   replace hW := KeepsF.keeps hW
   obtain ⟨W1, h0, h1, b2, hv, hb⟩ := hkn (by decide); have hlk := (hb.fills h1).look k hk1 hk2 true; rw [HO.out, HI.out, if_pos rfl] at hlk; clear hb
   refine ⟨?_⟩
   simp only [fill]
   go_simp
   first | exact ⟨KeepsF.refl _, rfl⟩ | exact ⟨KeepsF.of (Keeps.alloc _ _), rfl⟩
  simp only [addEnt]
  apply loose_is
  ·intro W vals hW hkn
   clear hkn
   have hWF := Lib.hid hW
   replace hW := KeepsF.keeps hW
   refine ⟨?_⟩
   simp only [fill]
   go_simp
   first | exact ⟨KeepsF.refl _, rfl⟩ | exact ⟨KeepsF.of (Keeps.alloc _ _), rfl⟩
  simp only [addEnt]
  apply loose_is
  ·intro W vals hW hkn
   clear hkn
   have hWF := Lib.hid hW
   replace hW := KeepsF.keeps hW
   refine ⟨?_⟩
   simp only [fill]
   go_simp
   first | exact ⟨KeepsF.refl _, rfl⟩ | exact ⟨KeepsF.of (Keeps.alloc _ _), rfl⟩
  simp only [addEnt]
  apply loose_is
  ·intro W vals hW hkn
   clear hkn
   have hWF := Lib.hid hW
   replace hW := KeepsF.keeps hW
   refine ⟨?_⟩
   simp only [fill]
   go_simp
   first | exact ⟨KeepsF.refl _, rfl⟩ | exact ⟨KeepsF.of (Keeps.alloc _ _), rfl⟩
  simp only [addEnt]
  refine loose_has (fun v W => ∃ b, v = .pointer (some ⟨b, 0, none⟩) ∧ W0.heap.size ≤ b ∧ (W.heap[b]? = some rcO1 ∨ W.heap[b]? = some (rcO2 (.string T) ((.func (.func i1) #[] #[])) ((.func (.func i2) #[] #[])) ((.func (.func i3) #[] #[])) (.bool pl)))) (fun W vals hW hkn φ' hφ => ?_) ?_
  ·simp only [knows] at hkn
   try simp only [and_true] at hkn
   have hWF := Lib.hid hW
   replace hW := KeepsF.keeps hW
   clear hkn
   refine ⟨?_⟩
   simp only [fill]
   go_simp
   exact loosef_value hφ (.of (Keeps.alloc _ _)) ⟨_, rfl, hW.size, .inl (heap_alloc_new _ _)⟩
  simp only [addEnt]
  refine loose_had [3] (fun rd _ W => ∃ b, rd = [.pointer (some ⟨b, 0, none⟩)] ∧ W.heap[b]? = some (rcO2 (.string T) ((.func (.func i1) #[] #[])) ((.func (.func i2) #[] #[])) ((.func (.func i3) #[] #[])) (.bool pl))) (by kernel_rfl) (fun W vals hW hkn φ' hφ => ?_) ?_
  ·simp only [knows] at hkn
   try simp only [and_true] at hkn
   have hWF := Lib.hid hW
   replace hW := KeepsF.keeps hW
   obtain ⟨W1, h0, h1, b3, hv3, hb3, ho⟩ := hkn.1 (by decide); replace ho := h1.slot ho; obtain ⟨u0, u1, u2, u3, u4, d0, d1, d2, d3, d4, fr⟩ := rcCell ho; have HQ := Lib.hid (rcFill hb3 ho); have g0 := fr 0; have g1 := fr 1; have g2 := fr 2; have g3 := fr 3; have g4 := fr 4; clear fr ho
   refine ⟨?_⟩
   simp only [fill]
   go_simp
   exact ⟨HQ.out.1, hφ.out _ _ ⟨_, by simp [hv3], HQ.out.2⟩⟩
  simp only [addEnt]
  apply loose_is
  ·intro W vals hW hkn
   clear hkn
   have hWF := Lib.hid hW
   replace hW := KeepsF.keeps hW
   refine ⟨?_⟩
   simp only [fill]
   go_simp
   first | exact ⟨KeepsF.refl _, rfl⟩ | exact ⟨KeepsF.of (Keeps.alloc _ _), rfl⟩
  simp only [addEnt]
  refine loose_nil (fun W vals hW hkn => ?_)
  simp only [knowsAll] at hkn
  try simp only [and_true] at hkn
  simp only [fill, Act.put, List.setIfInBounds_toArray, List.set_cons_succ, List.set_cons_zero]
  obtain ⟨⟨_, W1, h0, h1, b5, hv5, ho⟩, _⟩ := hkn
  obtain hv5 : vals 3 = .pointer (some ⟨b5, 0, none⟩) := by simpa using hv5
  rw [hv5]
  have HW := Lib.hid (And.intro (HR.out.1.then_ hW.keeps) (And.intro (HR.out.2.keeps hW.keeps) (show Row W b5 55 #[.string T, (.func (.func i1) #[] #[]), (.func (.func i2) #[] #[]), (.func (.func i3) #[] #[]), .bool pl] from h1.full ho)))
  clear hW h0 h1 ho hv5 M0
  generalize vals 7 = v7
  have r1 := HW.out.2.1
  have r2 := HW.out.2.2
  have y1 := r2.cell 1
  simp only [List.getElem?_toArray, List.getElem?_cons_zero, List.getElem?_cons_succ] at y1
  have x0 := r1.cell 0
  have x1 := r1.cell 1
  have x2 := r1.cell 2
  have x3 := r1.cell 3
  have x4 := r1.cell 4
  have x5 := r1.cell 5
  have x6 := r1.cell 6
  have x7 := r1.cell 7
  have x8 := r1.cell 8
  simp only [List.getElem?_toArray, List.getElem?_cons_zero, List.getElem?_cons_succ] at x0 x1 x2 x3 x4 x5 x6 x7 x8
  clear r1 r2
  go_wp2_with fail
  refine (CM.out _ (HM.out.keeps HW.out.1)).mono ?_
  rintro e w3 ⟨rfl, hk⟩
  have r1 := HW.out.2.1.keeps hk
  have r2 := HW.out.2.2.keeps hk
  replace HW := Lib.hid (And.intro (HW.out.1.then_ hk) (And.intro r1 r2))
  clear x0 x1 x2 x3 x4 x5 x6 x7 x8 y1 hk CM
  have y2 := r2.cell 2
  simp only [List.getElem?_toArray, List.getElem?_cons_zero, List.getElem?_cons_succ] at y2
  have x0 := r1.cell 0
  have x1 := r1.cell 1
  have x2 := r1.cell 2
  have x3 := r1.cell 3
  have x4 := r1.cell 4
  have x5 := r1.cell 5
  have x6 := r1.cell 6
  have x7 := r1.cell 7
  have x8 := r1.cell 8
  simp only [List.getElem?_toArray, List.getElem?_cons_zero, List.getElem?_cons_succ] at x0 x1 x2 x3 x4 x5 x6 x7 x8
  clear r1 r2
  cases my with
  | false =>
   go_wp2_with fail
   go_ret
   exact ⟨by rw [HT.out]; rfl, HW.out.1⟩
  | true =>
   go_wp2_with fail
   refine (CH.out _).mono ?_
   rintro e w4 ⟨rfl, hk⟩
   have r1 := HW.out.2.1.keeps hk
   replace HW := Lib.hid (And.intro (HW.out.1.then_ hk) r1)
   clear x0 x1 x2 x3 x4 x5 x6 x7 x8 y2 hk CH
   have x0 := r1.cell 0
   have x1 := r1.cell 1
   have x2 := r1.cell 2
   have x3 := r1.cell 3
   have x4 := r1.cell 4
   have x5 := r1.cell 5
   have x6 := r1.cell 6
   have x7 := r1.cell 7
   have x8 := r1.cell 8
   simp only [List.getElem?_toArray, List.getElem?_cons_zero, List.getElem?_cons_succ] at x0 x1 x2 x3 x4 x5 x6 x7 x8
   clear r1
   obtain ⟨yk, yc, yseq, yid, yt, yb, yq, yr, ys⟩ := y
   simp only at HT
   unfold rwV
   obtain ⟨W5, hW5⟩ : ∃ W5, w4.alloc (.cells #[.int .i64 yk, .string ⟨yc.toArray⟩, .int .i64 yseq, .int .i64 yid, .string ⟨yt.toArray⟩, .string ⟨yb.toArray⟩, .int .i64 yq, .bool yr, .int .i64 ys] 25) = W5 := ⟨_, rfl⟩
   have k5 : Keeps w4 W5 [] := by rw [← hW5]; exact Keeps.alloc _ _
   have o5 : Row W5 w4.heap.size 25 #[.int .i64 yk, .string ⟨yc.toArray⟩, .int .i64 yseq, .int .i64 yid, .string ⟨yt.toArray⟩, .string ⟨yb.toArray⟩, .int .i64 yq, .bool yr, .int .i64 ys] := by rw [← hW5]; exact Row.new _ _ _
   have r5 := HW.out.2.keeps k5
   have hlt : w.heap.size < w4.heap.size := HW.out.2.lt
   obtain ⟨z, hz⟩ : ∃ z, w4.heap.size = z := ⟨_, rfl⟩
   rw [hz] at o5 hlt
   have z0 := o5.cell 0
   simp only [List.getElem?_toArray, List.getElem?_cons_zero] at z0
   have g0 := o5.frozen 0
   clear x0 x1 x2 x3 x4 x5 x6 x7 x8
   have x0 := r5.cell 0
   have x1 := r5.cell 1
   have x2 := r5.cell 2
   have x3 := r5.cell 3
   have x4 := r5.cell 4
   have x5 := r5.cell 5
   have x6 := r5.cell 6
   have x7 := r5.cell 7
   have x8 := r5.cell 8
   simp only [List.getElem?_toArray, List.getElem?_cons_zero, List.getElem?_cons_succ] at x0 x1 x2 x3 x4 x5 x6 x7 x8
   have H5 := Lib.hid (And.intro (HW.out.1.then_ k5) (And.intro r5 o5))
   clear r5 o5 k5 hr1 hr2
   go_upto_region 6 with fail
   obtain ⟨W6, hW6⟩ : ∃ W6, W5.setCell ⟨z, 0, none⟩ (.int .i64 k) = W6 := ⟨_, rfl⟩
   have o6 : Row W6 z 25 #[.int .i64 k, .string ⟨yc.toArray⟩, .int .i64 yseq, .int .i64 yid, .string ⟨yt.toArray⟩, .string ⟨yb.toArray⟩, .int .i64 yq, .bool yr, .int .i64 ys] := by
    have e := H5.out.2.2.store 0 (.int .i64 k)
    rw [hW6] at e
    simpa using e
   have r6 := H5.out.2.1.far (p := ⟨z, 0, none⟩) (show w.heap.size ≠ z by omega) (.int .i64 k)
   rw [hW6] at r6
   have k6 : Keeps w W6 [] := H5.out.1.trans (by rw [← hW6]; exact Keeps.setCell _ _ _) (fun x hx hlt' => by simp at hx; omega)
   have H6 := Lib.hid k6
   clear x0 x1 x2 x3 x4 x5 x6 x7 x8 z0 g0 k6
   have y0 := o6.cell 0
   have y1 := o6.cell 1
   have y2 := o6.cell 2
   have y3 := o6.cell 3
   have y4 := o6.cell 4
   have y5 := o6.cell 5
   have y6 := o6.cell 6
   have y7 := o6.cell 7
   have y8 := o6.cell 8
   simp only [List.getElem?_toArray, List.getElem?_cons_zero, List.getElem?_cons_succ] at y0 y1 y2 y3 y4 y5 y6 y7 y8
   have x0 := r6.cell 0
   have x1 := r6.cell 1
   have x2 := r6.cell 2
   have x3 := r6.cell 3
   have x4 := r6.cell 4
   have x5 := r6.cell 5
   have x6 := r6.cell 6
   have x7 := r6.cell 7
   have x8 := r6.cell 8
   simp only [List.getElem?_toArray, List.getElem?_cons_zero, List.getElem?_cons_succ] at x0 x1 x2 x3 x4 x5 x6 x7 x8
   clear o6 r6
   try rw [hW6]
   clear hW6
   go_wp2_with fail
   all_goals
    go_ret
    refine ⟨?_, H6.out⟩
    rw [HT.out]
    clear x0 x1 x2 x3 x4 x5 x6 x7 x8 y0 y1 y2 y3 y4 y5 y6 y7 y8
    simp [rwEq, *]
end Go.Proofs.YtfglgeoookbppaaGreatDoor
