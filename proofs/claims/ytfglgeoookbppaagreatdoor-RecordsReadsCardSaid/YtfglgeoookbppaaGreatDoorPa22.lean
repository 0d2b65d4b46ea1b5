/- Package records: Key. Package records: Begin. -/
import Derived.Test.YtfglgeoookbppaaGreatDoorPa21
import Derived.Test.YtfglgeoookbppaaGreatDoorPa13
import Derived.Test.YtfglgeoookbppaaGreatDoorPa6

namespace Go.Proofs.YtfglgeoookbppaaGreatDoor
open Go.RowKit Go.Shelf

def rcKeyS (x : Rw) (p : Int) : List UInt8 := if rcFits x p = true then kRaw (rcKeyL x p) else []
def rcKeyE (x : Rw) (p : Int) : Int := if rcFits x p = true then 0 else 2
def KyPost (w : World) (s : List UInt8) (c : Int) (e : Ending) (w' : World) : Prop := e = .returned (.tuple #[strV s, .int .i64 c]) ∧ Keeps w w' []
/-- A key of parts that are the call's own. -/
theorem keyRaw {w : World} {B n : Nat} {A : Option Addr} {c : Nat} {l : List KP} (h : OwnN w B 63 4 kpCells (.slice A n c) l) (hK : KeyOk l 48) (hM : MaxL w) : Calls Tryz.prog 29 #[.slice A n c] w (KyPost w (kRaw l) 0) := by
 obtain ⟨A', c', e⟩ := OwnN.slice h
 injection e with e1 e2 e3
 subst e1 e2 e3
 have := (KArg.mk (w := w) (fun p hp => (hK.ok p hp).1) ((OwnN.at_ h encPart).lies encPart) hM (by have := hK.l; omega) (fun p hp => by have := hK.s p hp; omega)).raw c
 rw [hK.key, hK.err] at this
 exact this
set_option maxRecDepth 100000 in
set_option maxHeartbeats 4000000 in
theorem rcKey_any (x : Rw) (p : Int) (w : World) (hx : x.Small) (hM : MaxL w) (hk1 : -9223372036854775808 ≤ x.k) (hk2 : x.k ≤ 9223372036854775807) : Calls Tryz.prog 11 #[rwV x, .int .i64 p] w (KyPost w (rcKeyS x p) (rcKeyE x p)) := by
 have C1 := Lib.hid (fun w h => rcCheck_any x w hx h hk1 hk2)
 have HM := Lib.hid hM
 cases hi : rcIs x.k with
 | false =>
  have HT := Lib.hid (show rcOk x = false by unfold rcOk; rw [hi]; rfl)
  have HF := Lib.hid (show rcFits x p = false by unfold rcFits; rw [HT.out]; rfl)
  have HO := Lib.hid (rcOf_none hi)
  clear hi hx hM
  obtain ⟨k, c, seq, id, t, b, q, r, s⟩ := x
  simp only at hk1 hk2 HO
  obtain ⟨W0, hW0⟩ : ∃ W0, w.alloc (.cells #[.int .i64 k, .string ⟨c.toArray⟩, .int .i64 seq, .int .i64 id, .string ⟨t.toArray⟩, .string ⟨b.toArray⟩, .int .i64 q, .bool r, .int .i64 s] 25) = W0 := ⟨_, rfl⟩
  have k0 : Keeps w W0 [] := by rw [← hW0]; exact Keeps.alloc _ _
  have r0 : Row W0 w.heap.size 25 #[.int .i64 k, .string ⟨c.toArray⟩, .int .i64 seq, .int .i64 id, .string ⟨t.toArray⟩, .string ⟨b.toArray⟩, .int .i64 q, .bool r, .int .i64 s] := by rw [← hW0]; exact Row.new _ _ _
  have HR := Lib.hid (And.intro k0 r0)
  have x0 := r0.cell 0
  have x1 := r0.cell 1
  have x2 := r0.cell 2
  have x3 := r0.cell 3
  have x4 := r0.cell 4
  have x5 := r0.cell 5
  have x6 := r0.cell 6
  have x7 := r0.cell 7
  have x8 := r0.cell 8
  simp only [List.getElem?_toArray, List.getElem?_cons_zero, List.getElem?_cons_succ] at x0 x1 x2 x3 x4 x5 x6 x7 x8
  clear k0 r0
  go_enter Tryz.func11, Tryz.ntmps11
  go_upto_region 1 with fail
  clear hW0 x0 x1 x2 x3 x4 x5 x6 x7 x8
  have M0 := fun (W' : World) (hW : Keeps W0 W' []) => (HR.out.2.keeps hW).cell 0
  simp only [List.getElem?_toArray, List.getElem?_cons_zero] at M0
  unfold rc0 at HO
  refine wp_region_tail KeepsAll _ 5 (by kernel_rfl) rfl (by kernel_rfl) (fun _ => Keeps.refl _ _) (fun _ _ _ h k => h.trans k (by simp)) (Keeps.drew _) ?_
  simp only [List.take_succ_cons, List.take_zero, List.drop_succ_cons, List.drop_zero]
  refine loose_has (fun v W => ∃ b, v = .map (some b) ∧ RcKinds W b) (fun W vals hW hkn φ' hφ => ?_) ?_
  ·simp only [knows] at hkn
   try simp only [and_true] at hkn
   clear hkn
   refine ⟨?_⟩
   simp only [fill]
   go_simp
   (with_reducible refine looseUpon_has hφ ?_; refine (rcKinds_any W).mono ?_; rintro e w2 ⟨b, rfl, h1, h2⟩; exact ⟨_, rfl, h2, b, rfl, h1⟩)
  simp only [addEnt]
  apply loose_is
  ·intro W vals hW hkn
   clear hkn
   refine ⟨?_⟩
   simp only [fill]
   go_simp
   first | exact ⟨Keeps.refl _ _, rfl⟩ | exact ⟨Keeps.alloc _ _, rfl⟩
  simp only [addEnt]
  apply loose_is
  ·intro W vals hW hkn
   simp only [knows] at hkn
   try simp only [and_true] at hkn
   clear hkn; have m0 := M0 W hW
   refine ⟨?_⟩
   simp only [fill]
   go_simp
   first | exact ⟨Keeps.refl _ _, rfl⟩ | exact ⟨Keeps.alloc _ _, rfl⟩
  simp only [addEnt]
  apply loose_is
  ·intro W vals hW hkn
   simp only [knows] at hkn
   try simp only [and_true] at hkn
   obtain ⟨W1, h0, h1, b2, hv, hb⟩ := hkn (by decide); have hlk := (hb.keep h1 (by simp)).look k hk1 hk2 false; rw [HO.out, if_neg (by simp)] at hlk; clear hb
   refine ⟨?_⟩
   simp only [fill]
   go_simp
   first | exact ⟨Keeps.refl _ _, rfl⟩ | exact ⟨Keeps.alloc _ _, rfl⟩
  simp only [addEnt]
  refine loose_has (fun v W' => ∃ b', v = .pointer (some ⟨b', 0, none⟩) ∧ W0.heap.size ≤ b' ∧ Row W' b' 55 #[.string ⟨#[]⟩, .nilFunc, .nilFunc, .nilFunc, .bool false]) (fun W vals hW hkn φ' hφ => ?_) ?_
  ·simp only [knows] at hkn
   try simp only [and_true] at hkn
   clear hkn
   refine ⟨?_⟩
   simp only [fill]
   go_simp
   exact ⟨Keeps.alloc _ _, hφ.out _ _ ⟨_, rfl, hW.size, Row.new _ _ _⟩⟩
  simp only [addEnt]
  refine loose_nil (fun W vals hW hkn => ?_)
  simp only [knowsAll] at hkn
  try simp only [and_true] at hkn
  simp only [fill, Act.put, List.setIfInBounds_toArray, List.set_cons_succ, List.set_cons_zero]
  obtain ⟨⟨W1, h0, h1, b5, hv5, hb5, ho⟩, _⟩ := hkn
  have ho5 := ho.keeps h1
  have z0 := ho5.cell 0
  have z1 := ho5.cell 1
  have z2 := ho5.cell 2
  have z3 := ho5.cell 3
  have z4 := ho5.cell 4
  simp only [List.getElem?_toArray, List.getElem?_cons_zero, List.getElem?_cons_succ] at z0 z1 z2 z3 z4
  have g0 := ho5.frozen 0
  have g1 := ho5.frozen 1
  have g2 := ho5.frozen 2
  have g3 := ho5.frozen 3
  have g4 := ho5.frozen 4
  obtain ⟨W6, hW6⟩ : ∃ W6, rcSet W b5 (.string ⟨#[]⟩) (.nilFunc) (.nilFunc) (.nilFunc) (.bool false) = W6 := ⟨_, rfl⟩
  obtain ⟨q6, k6⟩ := rcFill5 (v0 := .string ⟨#[]⟩) (v1 := .nilFunc) (v2 := .nilFunc) (v3 := .nilFunc) (v4 := .bool false) ho5
  rw [hW6] at q6 k6
  have r6 := (HR.out.2.keeps hW).keep k6 (by have := HR.out.2.lt; simp; omega)
  have HW := Lib.hid (And.intro ((HR.out.1.then_ hW).trans k6 (fun x hx hlt => by have := HR.out.1.size; simp at hx; omega)) (And.intro r6 q6))
  unfold rcSet at hW6
  rw [hv5]
  clear hv5 hb5 ho h0 h1 hW ho5 M0 q6 k6 r6
  go_upto_region 2 with fail
  clear z0 z1 z2 z3 z4 g0 g1 g2 g3 g4
  try rw [hW6]
  clear hW6
  have r1 := HW.out.2.1
  have x0 := r1.cell 0
  have x1 := r1.cell 1
  have x2 := r1.cell 2
  have x3 := r1.cell 3
  have x4 := r1.cell 4
  have x5 := r1.cell 5
  have x6 := r1.cell 6
  have x7 := r1.cell 7
  have x8 := r1.cell 8
  simp only [List.getElem?_toArray, List.getElem?_cons_zero, List.getElem?_cons_succ] at x0 x1 x2 x3 x4 x5 x6 x7 x8
  clear r1
  go_wp2_with fail
  refine (C1.out _ (HM.out.keeps HW.out.1)).mono ?_
  rintro e w3 ⟨rfl, hk⟩
  clear x0 x1 x2 x3 x4 x5 x6 x7 x8
  rw [HT.out, if_neg (by simp)]
  have HK := Lib.hid (HW.out.1.then_ hk)
  clear hk
  go_wp2_with fail
  go_ret2
  exact ⟨by unfold rcKeyS rcKeyE; rw [HF.out]; rfl, HK.out⟩
 | true =>
  obtain ⟨T, i1, i2, i3, pl, K⟩ := rcK hi
  have HO := Lib.hid K.of
  have CP := Lib.hid (fun w => K.pts x w hx)
  have hr3 := K.r3
  obtain ⟨ok, hok⟩ : ∃ ok, rcOk x = ok := ⟨_, rfl⟩
  obtain ⟨L, hL⟩ : ∃ L, rcParts x.k x = L := ⟨_, rfl⟩
  have HT := Lib.hid hok
  have HF0 := Lib.hid (show rcFits x p = (ok && (inN p 0 2147483648 && (decide (p = 0) || pl))) by unfold rcFits; rw [hok, K.pl])
  have HLL := Lib.hid (show rcKeyL x p = if pl = true then L ++ [kInt p] else L by unfold rcKeyL; rw [hL, K.pl])
  have HKE := Lib.hid (fun h => rc_key (x := x) (p := p) h)
  have HL3 := Lib.hid (show ok = true → L.length ≤ 2 from fun h => by rw [← hL]; exact (rc_parts (hok.trans h)).2)
  rw [hL] at CP
  obtain ⟨ip, hip⟩ : ∃ ip, inN p 0 2147483648 = ip := ⟨_, rfl⟩
  rw [hip] at HF0
  obtain ⟨z, hz⟩ : ∃ z, (p == 0) = z := ⟨_, rfl⟩
  rw [show decide (p = 0) = z by rw [← hz, Bool.eq_iff_iff]; simp] at HF0
  clear hi hx hM K hok hL
  have hsf := @run_store_float Tryz.prog
  obtain ⟨k, c, seq, id, t, b, q, r, s⟩ := x
  simp only at hk1 hk2 HO
  obtain ⟨W0, hW0⟩ : ∃ W0, w.alloc (.cells #[.int .i64 k, .string ⟨c.toArray⟩, .int .i64 seq, .int .i64 id, .string ⟨t.toArray⟩, .string ⟨b.toArray⟩, .int .i64 q, .bool r, .int .i64 s] 25) = W0 := ⟨_, rfl⟩
  have k0 : Keeps w W0 [] := by rw [← hW0]; exact Keeps.alloc _ _
  have r0 : Row W0 w.heap.size 25 #[.int .i64 k, .string ⟨c.toArray⟩, .int .i64 seq, .int .i64 id, .string ⟨t.toArray⟩, .string ⟨b.toArray⟩, .int .i64 q, .bool r, .int .i64 s] := by rw [← hW0]; exact Row.new _ _ _
  have HR := Lib.hid (And.intro k0 r0)
  have x0 := r0.cell 0
  have x1 := r0.cell 1
  have x2 := r0.cell 2
  have x3 := r0.cell 3
  have x4 := r0.cell 4
  have x5 := r0.cell 5
  have x6 := r0.cell 6
  have x7 := r0.cell 7
  have x8 := r0.cell 8
  simp only [List.getElem?_toArray, List.getElem?_cons_zero, List.getElem?_cons_succ] at x0 x1 x2 x3 x4 x5 x6 x7 x8
  clear k0 r0
  go_enter Tryz.func11, Tryz.ntmps11
  go_upto_region 1 with fail
  clear hW0 x0 x1 x2 x3 x4 x5 x6 x7 x8
  have M0 := fun (W' : World) (hW : Keeps W0 W' []) => (HR.out.2.keeps hW).cell 0
  simp only [List.getElem?_toArray, List.getElem?_cons_zero] at M0
  refine wp_region_tail KeepsAll _ 5 (by kernel_rfl) rfl (by kernel_rfl) (fun _ => Keeps.refl _ _) (fun _ _ _ h k => h.trans k (by simp)) (Keeps.drew _) ?_
  simp only [List.take_succ_cons, List.take_zero, List.drop_succ_cons, List.drop_zero]
  refine loose_has (fun v W => ∃ b, v = .map (some b) ∧ RcKinds W b) (fun W vals hW hkn φ' hφ => ?_) ?_
  ·simp only [knows] at hkn
   try simp only [and_true] at hkn
   clear hkn
   refine ⟨?_⟩
   simp only [fill]
   go_simp
   (with_reducible refine looseUpon_has hφ ?_; refine (rcKinds_any W).mono ?_; rintro e w2 ⟨b, rfl, h1, h2⟩; exact ⟨_, rfl, h2, b, rfl, h1⟩)
  simp only [addEnt]
  apply loose_is
  ·intro W vals hW hkn
   clear hkn
   refine ⟨?_⟩
   simp only [fill]
   go_simp
   first | exact ⟨Keeps.refl _ _, rfl⟩ | exact ⟨Keeps.alloc _ _, rfl⟩
  simp only [addEnt]
  apply loose_is
  ·intro W vals hW hkn
   simp only [knows] at hkn
   try simp only [and_true] at hkn
   clear hkn; have m0 := M0 W hW
   refine ⟨?_⟩
   simp only [fill]
   go_simp
   first | exact ⟨Keeps.refl _ _, rfl⟩ | exact ⟨Keeps.alloc _ _, rfl⟩
  simp only [addEnt]
  apply loose_is
  ·intro W vals hW hkn
   simp only [knows] at hkn
   try simp only [and_true] at hkn
   obtain ⟨W1, h0, h1, b2, hv, hb⟩ := hkn (by decide); have hlk := (hb.keep h1 (by simp)).look k hk1 hk2 false; rw [HO.out, if_neg (by simp)] at hlk; clear hb
   refine ⟨?_⟩
   simp only [fill]
   go_simp
   first | exact ⟨Keeps.refl _ _, rfl⟩ | exact ⟨Keeps.alloc _ _, rfl⟩
  simp only [addEnt]
  refine loose_has (fun v W' => ∃ b', v = .pointer (some ⟨b', 0, none⟩) ∧ W0.heap.size ≤ b' ∧ Row W' b' 55 #[.string ⟨#[]⟩, .nilFunc, .nilFunc, .nilFunc, .bool false]) (fun W vals hW hkn φ' hφ => ?_) ?_
  ·simp only [knows] at hkn
   try simp only [and_true] at hkn
   clear hkn
   refine ⟨?_⟩
   simp only [fill]
   go_simp
   exact ⟨Keeps.alloc _ _, hφ.out _ _ ⟨_, rfl, hW.size, Row.new _ _ _⟩⟩
  simp only [addEnt]
  refine loose_nil (fun W vals hW hkn => ?_)
  simp only [knowsAll] at hkn
  try simp only [and_true] at hkn
  simp only [fill, Act.put, List.setIfInBounds_toArray, List.set_cons_succ, List.set_cons_zero]
  obtain ⟨⟨W1, h0, h1, b5, hv5, hb5, ho⟩, _⟩ := hkn
  have ho5 := ho.keeps h1
  have z0 := ho5.cell 0
  have z1 := ho5.cell 1
  have z2 := ho5.cell 2
  have z3 := ho5.cell 3
  have z4 := ho5.cell 4
  simp only [List.getElem?_toArray, List.getElem?_cons_zero, List.getElem?_cons_succ] at z0 z1 z2 z3 z4
  have g0 := ho5.frozen 0
  have g1 := ho5.frozen 1
  have g2 := ho5.frozen 2
  have g3 := ho5.frozen 3
  have g4 := ho5.frozen 4
  obtain ⟨W6, hW6⟩ : ∃ W6, rcSet W b5 (.string T) (.func (.func i1) #[] #[]) (.func (.func i2) #[] #[]) (.func (.func i3) #[] #[]) (.bool pl) = W6 := ⟨_, rfl⟩
  obtain ⟨q6, k6⟩ := rcFill5 (v0 := .string T) (v1 := .func (.func i1) #[] #[]) (v2 := .func (.func i2) #[] #[]) (v3 := .func (.func i3) #[] #[]) (v4 := .bool pl) ho5
  rw [hW6] at q6 k6
  have r6 := (HR.out.2.keeps hW).keep k6 (by have := HR.out.2.lt; simp; omega)
  have HW := Lib.hid (And.intro ((HR.out.1.then_ hW).trans k6 (fun x hx hlt => by have := HR.out.1.size; simp at hx; omega)) (And.intro r6 q6))
  unfold rcSet at hW6
  rw [hv5]
  clear hv5 hb5 ho h0 h1 hW ho5 M0 q6 k6 r6
  go_upto_region 2 with fail
  clear z0 z1 z2 z3 z4 g0 g1 g2 g3 g4
  try rw [hW6]
  clear hW6
  have r1 := HW.out.2.1
  have x0 := r1.cell 0
  have x1 := r1.cell 1
  have x2 := r1.cell 2
  have x3 := r1.cell 3
  have x4 := r1.cell 4
  have x5 := r1.cell 5
  have x6 := r1.cell 6
  have x7 := r1.cell 7
  have x8 := r1.cell 8
  simp only [List.getElem?_toArray, List.getElem?_cons_zero, List.getElem?_cons_succ] at x0 x1 x2 x3 x4 x5 x6 x7 x8
  clear r1
  go_wp2_with fail
  refine (C1.out _ (HM.out.keeps HW.out.1)).mono ?_
  rintro e w3 ⟨rfl, hk⟩
  clear x0 x1 x2 x3 x4 x5 x6 x7 x8
  rw [HT.out]
  cases ok with
  | false =>
   have HF := Lib.hid (show rcFits _ p = false from HF0.out)
   rw [if_neg (by simp)]
   have HK := Lib.hid (HW.out.1.then_ hk)
   clear hk
   go_wp2_with fail
   go_ret2
   exact ⟨by unfold rcKeyS rcKeyE; rw [HF.out]; rfl, HK.out⟩
  | true =>
   rw [if_pos rfl]
   have q3 := HW.out.2.2.keeps hk
   have r3 := HW.out.2.1.keeps hk
   have H3 := Lib.hid (And.intro (HW.out.1.then_ hk) (And.intro r3 q3))
   have y3 := q3.cell 3
   have y4 := q3.cell 4
   simp only [List.getElem?_toArray, List.getElem?_cons_zero, List.getElem?_cons_succ] at y3 y4
   have x0 := r3.cell 0
   have x1 := r3.cell 1
   have x2 := r3.cell 2
   have x3 := r3.cell 3
   have x4 := r3.cell 4
   have x5 := r3.cell 5
   have x6 := r3.cell 6
   have x7 := r3.cell 7
   have x8 := r3.cell 8
   simp only [List.getElem?_toArray, List.getElem?_cons_zero, List.getElem?_cons_succ] at x0 x1 x2 x3 x4 x5 x6 x7 x8
   clear q3 r3 hk
   have hL2 := HL3.out rfl
   go_wp2_with fail
   refine (rcWithin_any _ _ _ _).mono ?_
   rintro e w9 ⟨rfl, rfl⟩
   rw [hip]
   cases ip with
   | false =>
    have HF := Lib.hid (show rcFits _ p = false from HF0.out)
    go_wp2_with fail
    go_ret2
    exact ⟨by unfold rcKeyS rcKeyE; rw [HF.out]; rfl, H3.out.1⟩
   | true =>
    by_cases hp0 : p = 0
    ·subst hp0
     obtain rfl : z = true := by rw [← hz]; rfl
     have HF := Lib.hid (show rcFits _ 0 = true from HF0.out)
     clear hz
     go_wp2_with fail
     refine (CP.out _).mono ?_
     rintro e w5 ⟨v, rfl, ho, hk⟩
     obtain ⟨A, cc, rfl⟩ := OwnN.slice ho
     have q5 := H3.out.2.2.keeps hk
     clear y3 y4 x0 x1 x2 x3 x4 x5 x6 x7 x8 CP hr3
     have y4 := q5.cell 4
     simp only [List.getElem?_toArray, List.getElem?_cons_zero, List.getElem?_cons_succ] at y4
     have H5 := Lib.hid (And.intro (H3.out.1.then_ hk) (And.intro ho (And.intro hk.size H3.out.1.size)))
     clear q5 hk ho
     cases pl with
     | true =>
      go_wp2_with fail
      refine (kInt_any 0 _).mono ?_
      rintro e w6 ⟨rfl, hk6⟩
      obtain ⟨Wa, hWa⟩ : ∃ Wa, w6.alloc (.cells #[.int .i64 1, .int .i64 0, .float .f64 0, .string ⟨#[]⟩] 63) = Wa := ⟨_, rfl⟩
      have ra : Row Wa w6.heap.size 63 #[.int .i64 1, .int .i64 0, .float .f64 0, .string ⟨#[]⟩] := by rw [← hWa]; exact Row.new _ _ _
      have ka : Keeps w6 Wa [] := by rw [← hWa]; exact Keeps.alloc _ _
      have HLa := Lib.hid (show Lies Wa Wa.heap.size (some ⟨w6.heap.size, 0, none⟩) ([kInt 0].flatMap kpCells) from lies_of_row ra rfl)
      have HA := Lib.hid (And.intro ((H5.out.2.1.keeps hk6).keeps ka) ((H5.out.1.then_ hk6).then_ ka))
      have hbs : w3.heap.size ≤ Wa.heap.size := by have := H5.out.2.2.1; have := hk6.size; have := ka.size; omega
      have hbs0 : w.heap.size ≤ w3.heap.size := H5.out.2.2.2
      clear ra ka hk6 y4
      go_wp2_with (at_builtin; refine wpList_append_N elemPart encPart rfl (.tmp 35) (.tmp 38) rfl w3.heap.size (.slice A L.length cc) (some ⟨w6.heap.size, 0, none⟩) 1 1 L [kInt 0] rfl rfl rfl HA.out.1 HLa.out (by simp; omega) hbs ?_; intro A7 c7 w7 l7 hl7 hlen7 ho7 hk7 hb7; refine Hid.out ?_)
      refine Lib.hid ?_
      have hl7e : l7 = L ++ [kInt 0] := hl7.out
      have HK7 := Lib.hid (show Keeps w w7 [] from HA.out.2.trans hk7 fun g hg hlt => by
       have := (HA.out.1.rows g hg).1
       omega)
      have HLE := Lib.hid (HLL.out.trans (show (if _ then L ++ [kInt 0] else L) = l7 by rw [hl7e]; simp))
      have HKY := Lib.hid (keyRaw ho7 (by
       have := HKE.out HF.out
       rw [HLE.out] at this
       exact this) (HM.out.keeps HK7.out))
      clear hl7 hlen7 ho7 hk7 hb7 hl7e HA HLa hWa hbs hbs0
      go_wp2_with fail
      refine HKY.out.mono ?_
      rintro e w8 ⟨rfl, hk8⟩
      have HZ := Lib.hid (HK7.out.then_ hk8)
      clear hk8
      go_wp2_with fail
      go_ret2
      exact ⟨by unfold rcKeyS rcKeyE; rw [if_pos HF.out, if_pos HF.out, HLE.out]; rfl, HZ.out⟩
     | false =>
      have HK7 := Lib.hid H5.out.1
      have HLE := Lib.hid (HLL.out.trans (show (if _ then L ++ [kInt _] else L) = L by simp))
      have HKY := Lib.hid (keyRaw H5.out.2.1 (by
       have := HKE.out HF.out
       rw [HLE.out] at this
       exact this) (HM.out.keeps HK7.out))
      go_wp2_with fail
      refine HKY.out.mono ?_
      rintro e w8 ⟨rfl, hk8⟩
      have HZ := Lib.hid (HK7.out.then_ hk8)
      clear hk8
      go_wp2_with fail
      go_ret2
      exact ⟨by unfold rcKeyS rcKeyE; rw [if_pos HF.out, if_pos HF.out, HLE.out]; rfl, HZ.out⟩
    ·obtain rfl : z = false := by rw [← hz]; simpa using hp0
     have hpn : (p != 0) = true := by simpa using hp0
     cases pl with
     | false =>
      have HF := Lib.hid (show rcFits _ p = false from HF0.out)
      go_wp2_with fail
      go_ret2
      exact ⟨by unfold rcKeyS rcKeyE; rw [HF.out]; rfl, H3.out.1⟩
     | true =>
      have HF := Lib.hid (show rcFits _ p = true from HF0.out)
      go_wp2_with fail
      refine (CP.out _).mono ?_
      rintro e w5 ⟨v, rfl, ho, hk⟩
      obtain ⟨A, cc, rfl⟩ := OwnN.slice ho
      have q5 := H3.out.2.2.keeps hk
      clear y3 y4 x0 x1 x2 x3 x4 x5 x6 x7 x8 CP hr3
      have y4 := q5.cell 4
      simp only [List.getElem?_toArray, List.getElem?_cons_zero, List.getElem?_cons_succ] at y4
      have H5 := Lib.hid (And.intro (H3.out.1.then_ hk) (And.intro ho (And.intro hk.size H3.out.1.size)))
      clear q5 hk ho
      go_wp2_with fail
      refine (kInt_any p _).mono ?_
      rintro e w6 ⟨rfl, hk6⟩
      obtain ⟨Wa, hWa⟩ : ∃ Wa, w6.alloc (.cells #[.int .i64 1, .int .i64 p, .float .f64 0, .string ⟨#[]⟩] 63) = Wa := ⟨_, rfl⟩
      have ra : Row Wa w6.heap.size 63 #[.int .i64 1, .int .i64 p, .float .f64 0, .string ⟨#[]⟩] := by rw [← hWa]; exact Row.new _ _ _
      have ka : Keeps w6 Wa [] := by rw [← hWa]; exact Keeps.alloc _ _
      have HLa := Lib.hid (show Lies Wa Wa.heap.size (some ⟨w6.heap.size, 0, none⟩) ([kInt p].flatMap kpCells) from lies_of_row ra rfl)
      have HA := Lib.hid (And.intro ((H5.out.2.1.keeps hk6).keeps ka) ((H5.out.1.then_ hk6).then_ ka))
      have hbs : w3.heap.size ≤ Wa.heap.size := by have := H5.out.2.2.1; have := hk6.size; have := ka.size; omega
      have hbs0 : w.heap.size ≤ w3.heap.size := H5.out.2.2.2
      clear ra ka hk6 y4
      go_wp2_with (at_builtin; refine wpList_append_N elemPart encPart rfl (.tmp 35) (.tmp 38) rfl w3.heap.size (.slice A L.length cc) (some ⟨w6.heap.size, 0, none⟩) 1 1 L [kInt p] rfl rfl rfl HA.out.1 HLa.out (by simp; omega) hbs ?_; intro A7 c7 w7 l7 hl7 hlen7 ho7 hk7 hb7; refine Hid.out ?_)
      refine Lib.hid ?_
      have hl7e : l7 = L ++ [kInt p] := hl7.out
      have HK7 := Lib.hid (show Keeps w w7 [] from HA.out.2.trans hk7 fun g hg hlt => by
       have := (HA.out.1.rows g hg).1
       omega)
      have HLE := Lib.hid (HLL.out.trans (show (if _ then L ++ [kInt p] else L) = l7 by rw [hl7e]; simp))
      have HKY := Lib.hid (keyRaw ho7 (by
       have := HKE.out HF.out
       rw [HLE.out] at this
       exact this) (HM.out.keeps HK7.out))
      clear hl7 hlen7 ho7 hk7 hb7 hl7e HA HLa hWa hbs hbs0
      go_wp2_with fail
      refine HKY.out.mono ?_
      rintro e w8 ⟨rfl, hk8⟩
      have HZ := Lib.hid (HK7.out.then_ hk8)
      clear hk8
      go_wp2_with fail
      go_ret2
      exact ⟨by unfold rcKeyS rcKeyE; rw [if_pos HF.out, if_pos HF.out, HLE.out]; rfl, HZ.out⟩
end Go.Proofs.YtfglgeoookbppaaGreatDoor

namespace Go.Proofs.YtfglgeoookbppaaGreatDoor
open Go.RowKit Go.Shelf

def rcBegS (x : Rw) : List UInt8 := if rcOk x = true then kRaw (rcParts x.k x) else []
def rcBegE (x : Rw) : Int := if rcOk x = true then 0 else 2
set_option maxRecDepth 100000 in
set_option maxHeartbeats 4000000 in
theorem rcBegin_any (x : Rw) (w : World) (hx : x.Small) (hM : MaxL w) (hk1 : -9223372036854775808 ≤ x.k) (hk2 : x.k ≤ 9223372036854775807) : Calls Tryz.prog 12 #[rwV x] w (KyPost w (rcBegS x) (rcBegE x)) := by
 have C1 := Lib.hid (fun w h => rcCheck_any x w hx h hk1 hk2)
 have HM := Lib.hid hM
 have HS := Lib.hid hx
 obtain ⟨ok, hok⟩ : ∃ ok, rcOk x = ok := ⟨_, rfl⟩
 have HT := Lib.hid hok
 cases ok with
 | false =>
  clear hok
  obtain ⟨k, c, seq, id, t, b, q, r, s⟩ := x
  obtain ⟨W0, hW0⟩ : ∃ W0, w.alloc (.cells #[.int .i64 k, .string ⟨c.toArray⟩, .int .i64 seq, .int .i64 id, .string ⟨t.toArray⟩, .string ⟨b.toArray⟩, .int .i64 q, .bool r, .int .i64 s] 25) = W0 := ⟨_, rfl⟩
  have k0 : Keeps w W0 [] := by rw [← hW0]; exact Keeps.alloc _ _
  have r0 : Row W0 w.heap.size 25 #[.int .i64 k, .string ⟨c.toArray⟩, .int .i64 seq, .int .i64 id, .string ⟨t.toArray⟩, .string ⟨b.toArray⟩, .int .i64 q, .bool r, .int .i64 s] := by rw [← hW0]; exact Row.new _ _ _
  have HR := Lib.hid (And.intro k0 r0)
  have x0 := r0.cell 0
  have x1 := r0.cell 1
  have x2 := r0.cell 2
  have x3 := r0.cell 3
  have x4 := r0.cell 4
  have x5 := r0.cell 5
  have x6 := r0.cell 6
  have x7 := r0.cell 7
  have x8 := r0.cell 8
  simp only [List.getElem?_toArray, List.getElem?_cons_zero, List.getElem?_cons_succ] at x0 x1 x2 x3 x4 x5 x6 x7 x8
  clear k0 r0
  go_enter Tryz.func12, Tryz.ntmps12
  go_wp2_with fail
  refine (C1.out _ (HM.out.keeps HR.out.1)).mono ?_
  rintro e w3 ⟨rfl, hk⟩
  rw [HT.out, if_neg (by simp)]
  have HK := Lib.hid (HR.out.1.then_ hk)
  clear hk x0 x1 x2 x3 x4 x5 x6 x7 x8 hW0
  go_wp2_with fail
  go_ret2
  exact ⟨by unfold rcBegS rcBegE; rw [HT.out]; rfl, HK.out⟩
 | true =>
  have hi : rcIs x.k = true := by
   unfold rcOk at hok
   rw [Bool.and_eq_true] at hok
   exact hok.1
  have HP := Lib.hid (rc_parts hok).1
  obtain ⟨T, i1, i2, i3, pl, K⟩ := rcK hi
  have HO := Lib.hid K.of
  have CP := Lib.hid (fun w => K.pts x w hx)
  have hr3 := K.r3
  obtain ⟨L, hL⟩ : ∃ L, rcParts x.k x = L := ⟨_, rfl⟩
  have HLL := Lib.hid hL
  rw [hL] at CP HP
  clear hok hi hL K
  obtain ⟨k, c, seq, id, t, b, q, r, s⟩ := x
  simp only at hk1 hk2 HO
  obtain ⟨W0, hW0⟩ : ∃ W0, w.alloc (.cells #[.int .i64 k, .string ⟨c.toArray⟩, .int .i64 seq, .int .i64 id, .string ⟨t.toArray⟩, .string ⟨b.toArray⟩, .int .i64 q, .bool r, .int .i64 s] 25) = W0 := ⟨_, rfl⟩
  have k0 : Keeps w W0 [] := by rw [← hW0]; exact Keeps.alloc _ _
  have r0 : Row W0 w.heap.size 25 #[.int .i64 k, .string ⟨c.toArray⟩, .int .i64 seq, .int .i64 id, .string ⟨t.toArray⟩, .string ⟨b.toArray⟩, .int .i64 q, .bool r, .int .i64 s] := by rw [← hW0]; exact Row.new _ _ _
  have HR := Lib.hid (And.intro k0 r0)
  have x0 := r0.cell 0
  have x1 := r0.cell 1
  have x2 := r0.cell 2
  have x3 := r0.cell 3
  have x4 := r0.cell 4
  have x5 := r0.cell 5
  have x6 := r0.cell 6
  have x7 := r0.cell 7
  have x8 := r0.cell 8
  simp only [List.getElem?_toArray, List.getElem?_cons_zero, List.getElem?_cons_succ] at x0 x1 x2 x3 x4 x5 x6 x7 x8
  clear k0 r0
  go_enter Tryz.func12, Tryz.ntmps12
  go_wp2_with fail
  refine (C1.out _ (HM.out.keeps HR.out.1)).mono ?_
  rintro e w3 ⟨rfl, hk⟩
  rw [HT.out, if_pos rfl]
  replace HR := Lib.hid (And.intro (HR.out.1.then_ hk) (HR.out.2.keeps hk))
  clear hk x0 x1 x2 x3 x4 x5 x6 x7 x8 hW0
  go_upto_region 4 with fail
  have M0 := fun (W' : World) (hW : Keeps w3 W' []) => (HR.out.2.keeps hW)
  refine wp_region_keeps _ (by kernel_rfl) rfl (by kernel_rfl) ?_
  refine loose_has (fun v W => ∃ b, v = .map (some b) ∧ RcKinds W b) (fun W vals hW hkn φ' hφ => ?_) ?_
  ·simp only [knows] at hkn
   try simp only [and_true] at hkn
   clear hkn
   refine ⟨?_⟩
   simp only [fill]
   go_simp
   (with_reducible refine looseUpon_has hφ ?_; refine (rcKinds_any W).mono ?_; rintro e w2 ⟨b, rfl, h1, h2⟩; exact ⟨_, rfl, h2, b, rfl, h1⟩)
  simp only [addEnt]
  apply loose_is
  ·intro W vals hW hkn
   clear hkn
   refine ⟨?_⟩
   simp only [fill]
   go_simp
   first | exact ⟨Keeps.refl _ _, rfl⟩ | exact ⟨Keeps.alloc _ _, rfl⟩
  simp only [addEnt]
  apply loose_is
  ·intro W vals hW hkn
   simp only [knows] at hkn
   try simp only [and_true] at hkn
   clear hkn; have m0 := (M0 W hW).cell 0; simp only [List.getElem?_toArray, List.getElem?_cons_zero] at m0
   refine ⟨?_⟩
   simp only [fill]
   go_simp
   first | exact ⟨Keeps.refl _ _, rfl⟩ | exact ⟨Keeps.alloc _ _, rfl⟩
  simp only [addEnt]
  apply loose_is
  ·intro W vals hW hkn
   simp only [knows] at hkn
   try simp only [and_true] at hkn
   obtain ⟨W1, h0, h1, b2, hv, hb⟩ := hkn (by decide); have hlk := (hb.keep h1 (by simp)).look k hk1 hk2 false; rw [HO.out, if_neg (by simp)] at hlk; clear hb
   refine ⟨?_⟩
   simp only [fill]
   go_simp
   first | exact ⟨Keeps.refl _ _, rfl⟩ | exact ⟨Keeps.alloc _ _, rfl⟩
  simp only [addEnt]
  apply loose_is
  ·intro W vals hW hkn
   clear hkn
   refine ⟨?_⟩
   simp only [fill]
   go_simp
   first | exact ⟨Keeps.refl _ _, rfl⟩ | exact ⟨Keeps.alloc _ _, rfl⟩
  simp only [addEnt]
  apply loose_is
  ·intro W vals hW hkn
   simp only [knows] at hkn
   try simp only [and_true] at hkn
   clear hkn; have r1 := M0 W hW; have m0 := r1.cell 0; have m1 := r1.cell 1; have m2 := r1.cell 2; have m3 := r1.cell 3; have m4 := r1.cell 4; have m5 := r1.cell 5; have m6 := r1.cell 6; have m7 := r1.cell 7; have m8 := r1.cell 8; simp only [List.getElem?_toArray, List.getElem?_cons_zero, List.getElem?_cons_succ] at m0 m1 m2 m3 m4 m5 m6 m7 m8
   refine ⟨?_⟩
   simp only [fill]
   go_simp
   first | exact ⟨Keeps.refl _ _, rfl⟩ | exact ⟨Keeps.alloc _ _, rfl⟩
  simp only [addEnt]
  refine loose_has (fun v W' => ∃ A c, v = .slice A L.length c ∧ OwnN W' w3.heap.size 63 4 kpCells v L) (fun W vals hW hkn φ' hφ => ?_) ?_
  ·simp only [knows] at hkn
   try simp only [and_true] at hkn
   clear hkn
   refine ⟨?_⟩
   simp only [fill]
   go_simp
   (refine looseUpon_calls ?_; exact (CP.out W).mono (by rintro e w2 ⟨v, rfl, ho, hk⟩; obtain ⟨A, c, rfl⟩ := OwnN.slice ho; exact ⟨_, rfl, hk, hφ.out _ _ ⟨A, c, rfl, ownN_base ho hW.size⟩⟩))
  simp only [addEnt]
  apply loose_is
  ·intro W vals hW hkn
   simp only [knows] at hkn
   try simp only [and_true] at hkn
   obtain ⟨W1, h0, h1, A, c, hv, ho⟩ := hkn.1 (by decide)
   refine ⟨?_⟩
   simp only [fill]
   go_simp
   refine looseUpon_calls ?_
   exact (keyRaw (hv ▸ ho.keeps h1) (HP.out.up (by omega)) (HM.out.keeps (HR.out.1.then_ hW))).mono (by rintro e w2 ⟨rfl, hk⟩; exact ⟨_, rfl, hk, rfl⟩)
  simp only [addEnt]
  apply loose_is
  ·intro W vals hW hkn
   clear hkn
   refine ⟨?_⟩
   simp only [fill]
   go_simp
   first | exact ⟨Keeps.refl _ _, rfl⟩ | exact ⟨Keeps.alloc _ _, rfl⟩
  simp only [addEnt]
  apply loose_is
  ·intro W vals hW hkn
   clear hkn
   refine ⟨?_⟩
   simp only [fill]
   go_simp
   first | exact ⟨Keeps.refl _ _, rfl⟩ | exact ⟨Keeps.alloc _ _, rfl⟩
  simp only [addEnt]
  apply loose_is
  ·intro W vals hW hkn
   clear hkn
   refine ⟨?_⟩
   simp only [fill]
   go_simp
   first | exact ⟨Keeps.refl _ _, rfl⟩ | exact ⟨Keeps.alloc _ _, rfl⟩
  simp only [addEnt]
  apply loose_is
  ·intro W vals hW hkn
   clear hkn
   refine ⟨?_⟩
   simp only [fill]
   go_simp
   first | exact ⟨Keeps.refl _ _, rfl⟩ | exact ⟨Keeps.alloc _ _, rfl⟩
  simp only [addEnt]
  refine loose_nil (fun W vals hW hkn => ?_)
  simp only [knowsAll] at hkn
  try simp only [and_true] at hkn
  simp only [fill, Act.put, List.setIfInBounds_toArray, List.set_cons_succ, List.set_cons_zero]
  clear hkn
  have HZ := Lib.hid (HR.out.1.then_ hW)
  clear hW M0
  generalize vals 0 = v0
  go_wp2_with fail
  go_ret2
  exact ⟨by unfold rcBegS rcBegE; rw [HT.out, if_pos rfl, HLL.out]; rfl, HZ.out⟩
end Go.Proofs.YtfglgeoookbppaaGreatDoor
