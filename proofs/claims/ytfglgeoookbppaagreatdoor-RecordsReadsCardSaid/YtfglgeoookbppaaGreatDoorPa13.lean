/- Package keys: Check, Raw, Behind. Package keys: Raw, Behind. Package records, plain: the keys of rows that may be. -/
import Derived.Test.YtfglgeoookbppaaGreatDoorPa12
import Derived.Test.YtfglgeoookbppaaGreatDoorPa3

namespace Go.Proofs.YtfglgeoookbppaaGreatDoor
open Go.RowKit


theorem all_take {l : List KP} {j : Nat} (hj : j < l.length) (ha : (l.take j).all kMay = true) (h : kMay l[j] = true) : (l.take (j + 1)).all kMay = true := by
 rw [List.take_succ_eq_append_getElem hj, List.all_append, ha]
 simp [h]
theorem kErr_no {l : List KP} {j : Nat} (hj : j < l.length) (h : kMay l[j] = false) : kErr l = 2 := by
 unfold kErr
 rw [if_neg]
 intro ha
 have := List.all_eq_true.1 ha l[j] (List.getElem_mem _)
 rw [h] at this
 cases this

set_option maxRecDepth 100000 in
set_option maxHeartbeats 4000000 in
theorem kCheck_any (w : World) (A : Option Addr) (c : Nat) (l : List KP) (hok : ∀ p ∈ l, p.Ok) (hL : Lies w w.heap.size A (kFlat l)) (hM : MaxL w) (hl : l.length ≤ 100) (hs : ∀ p ∈ l, p.s.length ≤ 1000) :
  Calls Tryz.prog 78 #[.slice A l.length c] w fun e w' => e = .returned (.int .i64 (kErr l : Nat)) ∧ Keeps w w' [] := by
 have hsf := @run_store_float Tryz.prog
 go_enter Tryz.func78, Tryz.ntmps78
 go_wp2_with fail
 go_loopw [9] (fun i wr => ∃ j : Nat, j ≤ l.length ∧ i = .int .i64 j ∧ (l.take j).all kMay = true ∧ Keeps w wr []) (fun i _ => l.length - (intOf i).toNat)
 case atStart => exact ⟨0, by omega, rfl, rfl, Keeps.refl _ _⟩
 case round =>
  obtain ⟨j, hj, rfl, ha, hkp⟩ := hrel
  by_cases hjl : j < l.length
  ·obtain ⟨b, o, rfl, hb, hc⟩ := kpAt hL (Nat.le_refl _) hjl
   have hp := hok l[j] (List.getElem_mem _)
   obtain ⟨p, hpd⟩ : ∃ p, p = l[j] := ⟨_, rfl⟩
   rw [← hpd] at hc hp
   obtain ⟨c0, c1, c2, c3⟩ := hc wr hkp
   have HH := Lib.hid (And.intro hc (And.intro hp (And.intro hpd (And.intro ha (And.intro hkp hL)))))
   clear hc hp hpd ha hkp hL hok hs hM
   obtain ⟨k, n, f, s⟩ := p
   simp only [strV] at c0 c1 c2 c3
   go_wp2_with fail
   obtain ⟨W0, hW0⟩ : ∃ W', wr.alloc (.cells #[.int .i64 k, .int .i64 n, .float .f64 f, .string ⟨s.toArray⟩] 63) = W' := ⟨_, rfl⟩
   have hk0 : Keeps wr W0 [] := by rw [← hW0]; exact Keeps.alloc _ _
   have hr0 : Row W0 wr.heap.size 63 #[.int .i64 k, .int .i64 n, .float .f64 f, .string ⟨s.toArray⟩] := by rw [← hW0]; exact Row.new _ _ _
   rw [hW0]
   clear hW0 c0 c1 c2 c3
   obtain ⟨N, hN⟩ : ∃ N, wr.heap.size = N := ⟨_, rfl⟩
   rw [hN] at hr0 ⊢
   have H2 := Lib.hid (And.intro hk0 hr0)
   have M1 := fun (W : World) (hW : Keeps W0 W []) => (hr0.keep hW (by simp)).cell 0
   have M2 := fun (W : World) (hW : Keeps W0 W []) => (hr0.keep hW (by simp)).cell 1
   have M3 := fun (W : World) (hW : Keeps W0 W []) => (hr0.keep hW (by simp)).cell 2
   have M4 := fun (W : World) (hW : Keeps W0 W []) => (hr0.keep hW (by simp)).cell 3
   clear hN hk0
   rcases kind_cases k with rfl | rfl | rfl | hki
   ·skip
    have hkv : kOfKind 1 = .agg #[kFn 105, kFn 106, kFn 108, kFn 110] ∧ kIs 1 = true := by
     unfold kOfKind kIs
     first | exact ⟨rfl, rfl⟩ | simp [hki, kNone]
    have HKV := Lib.hid hkv
    clear hkv
    refine wp_region_fills (kO1) (kO2 (kFn 105) (kFn 106) (kFn 108) (kFn 110)) _ (by kernel_rfl) rfl (by kernel_rfl) ?_
    refine loose_has (fun v W => ∃ b, v = .map (some b) ∧ Kinds W b) (fun W vals hW hkn φ' hφ => ?_) ?_
    ·simp only [knows] at hkn
     try simp only [and_true] at hkn
     have hWF := Lib.hid hW
     replace hW := KeepsF.keeps hW
     clear hkn
     refine ⟨?_⟩
     simp only [fill]
     go_simp
     (with_reducible refine loosef_has hφ ?_; refine (kKinds_any W).mono ?_; rintro e w2 ⟨b, rfl, h1, h2⟩; exact ⟨_, rfl, h2, b, rfl, h1⟩)
    simp only [addEnt]
    apply loose_is
    ·intro W vals hW hkn
     clear hkn
     have hWF := Lib.hid hW
     replace hW := KeepsF.keeps hW
     refine ⟨?_⟩
     simp only [fill]
     go_simp
     first | exact ⟨KeepsF.refl _, rfl⟩ | exact ⟨KeepsF.of (Keeps.alloc _ _), rfl⟩
    simp only [addEnt]
    apply loose_is
    ·intro W vals hW hkn
     clear hkn
     have hWF := Lib.hid hW
     replace hW := KeepsF.keeps hW
     refine ⟨?_⟩
     simp only [fill]
     go_simp
     first | exact ⟨KeepsF.refl _, rfl⟩ | exact ⟨KeepsF.of (Keeps.alloc _ _), rfl⟩
    simp only [addEnt]
    apply loose_is
    ·intro W vals hW hkn
     simp only [knows] at hkn
     try simp only [and_true] at hkn
     have hWF := Lib.hid hW
     replace hW := KeepsF.keeps hW
     obtain ⟨W1, h0, h1, b2, hv, hb⟩ := hkn (by decide); have hlk := (hb.fills h1).look 1 HH.out.2.1.k1 HH.out.2.1.k2 true; rw [HKV.out.1, HKV.out.2, if_pos rfl] at hlk; clear hb
     refine ⟨?_⟩
     simp only [fill]
     go_simp
     first | exact ⟨KeepsF.refl _, rfl⟩ | exact ⟨KeepsF.of (Keeps.alloc _ _), rfl⟩
    simp only [addEnt]
    apply loose_is
    ·intro W vals hW hkn
     clear hkn
     have hWF := Lib.hid hW
     replace hW := KeepsF.keeps hW
     refine ⟨?_⟩
     simp only [fill]
     go_simp
     first | exact ⟨KeepsF.refl _, rfl⟩ | exact ⟨KeepsF.of (Keeps.alloc _ _), rfl⟩
    simp only [addEnt]
    apply loose_is
    ·intro W vals hW hkn
     clear hkn
     have hWF := Lib.hid hW
     replace hW := KeepsF.keeps hW
     refine ⟨?_⟩
     simp only [fill]
     go_simp
     first | exact ⟨KeepsF.refl _, rfl⟩ | exact ⟨KeepsF.of (Keeps.alloc _ _), rfl⟩
    simp only [addEnt]
    apply loose_is
    ·intro W vals hW hkn
     clear hkn
     have hWF := Lib.hid hW
     replace hW := KeepsF.keeps hW
     refine ⟨?_⟩
     simp only [fill]
     go_simp
     first | exact ⟨KeepsF.refl _, rfl⟩ | exact ⟨KeepsF.of (Keeps.alloc _ _), rfl⟩
    simp only [addEnt]
    refine loose_has (fun v W => ∃ b, v = .pointer (some ⟨b, 0, none⟩) ∧ W0.heap.size ≤ b ∧ (W.heap[b]? = some kO1 ∨ W.heap[b]? = some (kO2 (kFn 105) (kFn 106) (kFn 108) (kFn 110)))) (fun W vals hW hkn φ' hφ => ?_) ?_
    ·simp only [knows] at hkn
     try simp only [and_true] at hkn
     have hWF := Lib.hid hW
     replace hW := KeepsF.keeps hW
     clear hkn
     refine ⟨?_⟩
     simp only [fill]
     go_simp
     exact loosef_value hφ (.of (Keeps.alloc _ _)) ⟨_, rfl, hW.size, .inl (heap_alloc_new _ _)⟩
    simp only [addEnt]
    refine loose_had [5] (fun rd _ W => ∃ b, rd = [.pointer (some ⟨b, 0, none⟩)] ∧ W.heap[b]? = some (kO2 (kFn 105) (kFn 106) (kFn 108) (kFn 110))) (by kernel_rfl) (fun W vals hW hkn φ' hφ => ?_) ?_
    ·simp only [knows] at hkn
     try simp only [and_true] at hkn
     have hWF := Lib.hid hW
     replace hW := KeepsF.keeps hW
     obtain ⟨W1, h0, h1, b3, hv3, hb3, ho⟩ := hkn.1 (by decide); replace ho := h1.slot ho; obtain ⟨v1, v2, v3, v4, d1, d2, d3, d4, fr⟩ := kCell ho; have HQ := Lib.hid (kFill hb3 ho); have g0 := fr 0; have g1 := fr 1; have g2 := fr 2; have g3 := fr 3; clear fr ho
     refine ⟨?_⟩
     simp only [fill]
     go_simp
     exact ⟨HQ.out.1, hφ.out _ _ ⟨_, by simp [hv3], HQ.out.2⟩⟩
    simp only [addEnt]
    apply loose_is
    ·intro W vals hW hkn
     clear hkn
     have hWF := Lib.hid hW
     replace hW := KeepsF.keeps hW
     refine ⟨?_⟩
     simp only [fill]
     go_simp
     first | exact ⟨KeepsF.refl _, rfl⟩ | exact ⟨KeepsF.of (Keeps.alloc _ _), rfl⟩
    simp only [addEnt]
    refine loose_nil (fun W vals hW hkn => ?_)
    simp only [knowsAll] at hkn
    try simp only [and_true] at hkn
    simp only [fill, Act.put, List.setIfInBounds_toArray, List.set_cons_succ, List.set_cons_zero]
    obtain ⟨⟨_, W1, h0, h1, b5, hv5, ho⟩, _⟩ := hkn
    obtain hv5 : vals 5 = .pointer (some ⟨b5, 0, none⟩) := by simpa using hv5
    rw [hv5]
    have HW := Lib.hid (And.intro hW.keeps (show Row W b5 114 #[kFn 105, kFn 106, kFn 108, kFn 110] from h1.full ho))
    clear hW h0 h1 ho hv5 M1 M2 M3 M4
    generalize vals 14 = v14
    have r1 := HW.out.2.cell 0
    have r2 := H2.out.2.keeps HW.out.1
    simp at r1
    have d0 := r2.cell 0
    have d1 := r2.cell 1
    have d2 := r2.cell 2
    have d3 := r2.cell 3
    simp only [List.getElem?_toArray, List.getElem?_cons_zero, List.getElem?_cons_succ] at d0 d1 d2 d3
    go_wp2_with fail
    refine (kMayI_any ⟨1, n, f, s⟩ W).mono ?_
    rintro e w3 ⟨rfl, hk3⟩
    have HK := Lib.hid ((HH.out.2.2.2.2.1.trans H2.out.1 (by simp)).trans (HW.out.1.trans hk3 (by simp)) (by simp))
    clear hk3
    simp only
    obtain ⟨B, hB⟩ : ∃ B, (s.isEmpty && fz f) = B := ⟨_, rfl⟩
    have HB := Lib.hid (show kMay l[j] = B by rw [← HH.out.2.2.1, ← hB]; rfl)
    rw [hB]
    clear hB
    clear r2 d0 d1 d2 d3 r1
    cases B
    ·go_wp2_with fail
     go_ret
     exact ⟨by rw [kErr_no hjl HB.out]; rfl, HK.out⟩
    ·go_wp2_with fail
     exact ⟨⟨j + 1, by omega, by go_num, all_take hjl HH.out.2.2.2.1 HB.out, HK.out⟩, by simp [intOf]; omega⟩
   ·skip
    have hkv : kOfKind 2 = .agg #[kFn 112, kFn 113, kFn 115, kFn 118] ∧ kIs 2 = true := by
     unfold kOfKind kIs
     first | exact ⟨rfl, rfl⟩ | simp [hki, kNone]
    have HKV := Lib.hid hkv
    clear hkv
    refine wp_region_fills (kO1) (kO2 (kFn 112) (kFn 113) (kFn 115) (kFn 118)) _ (by kernel_rfl) rfl (by kernel_rfl) ?_
    refine loose_has (fun v W => ∃ b, v = .map (some b) ∧ Kinds W b) (fun W vals hW hkn φ' hφ => ?_) ?_
    ·simp only [knows] at hkn
     try simp only [and_true] at hkn
     have hWF := Lib.hid hW
     replace hW := KeepsF.keeps hW
     clear hkn
     refine ⟨?_⟩
     simp only [fill]
     go_simp
     (with_reducible refine loosef_has hφ ?_; refine (kKinds_any W).mono ?_; rintro e w2 ⟨b, rfl, h1, h2⟩; exact ⟨_, rfl, h2, b, rfl, h1⟩)
    simp only [addEnt]
    apply loose_is
    ·intro W vals hW hkn
     clear hkn
     have hWF := Lib.hid hW
     replace hW := KeepsF.keeps hW
     refine ⟨?_⟩
     simp only [fill]
     go_simp
     first | exact ⟨KeepsF.refl _, rfl⟩ | exact ⟨KeepsF.of (Keeps.alloc _ _), rfl⟩
    simp only [addEnt]
    apply loose_is
    ·intro W vals hW hkn
     clear hkn
     have hWF := Lib.hid hW
     replace hW := KeepsF.keeps hW
     refine ⟨?_⟩
     simp only [fill]
     go_simp
     first | exact ⟨KeepsF.refl _, rfl⟩ | exact ⟨KeepsF.of (Keeps.alloc _ _), rfl⟩
    simp only [addEnt]
    apply loose_is
    ·intro W vals hW hkn
     simp only [knows] at hkn
     try simp only [and_true] at hkn
     have hWF := Lib.hid hW
     replace hW := KeepsF.keeps hW
     obtain ⟨W1, h0, h1, b2, hv, hb⟩ := hkn (by decide); have hlk := (hb.fills h1).look 2 HH.out.2.1.k1 HH.out.2.1.k2 true; rw [HKV.out.1, HKV.out.2, if_pos rfl] at hlk; clear hb
     refine ⟨?_⟩
     simp only [fill]
     go_simp
     first | exact ⟨KeepsF.refl _, rfl⟩ | exact ⟨KeepsF.of (Keeps.alloc _ _), rfl⟩
    simp only [addEnt]
    apply loose_is
    ·intro W vals hW hkn
     clear hkn
     have hWF := Lib.hid hW
     replace hW := KeepsF.keeps hW
     refine ⟨?_⟩
     simp only [fill]
     go_simp
     first | exact ⟨KeepsF.refl _, rfl⟩ | exact ⟨KeepsF.of (Keeps.alloc _ _), rfl⟩
    simp only [addEnt]
    apply loose_is
    ·intro W vals hW hkn
     clear hkn
     have hWF := Lib.hid hW
     replace hW := KeepsF.keeps hW
     refine ⟨?_⟩
     simp only [fill]
     go_simp
     first | exact ⟨KeepsF.refl _, rfl⟩ | exact ⟨KeepsF.of (Keeps.alloc _ _), rfl⟩
    simp only [addEnt]
    apply loose_is
    ·intro W vals hW hkn
     clear hkn
     have hWF := Lib.hid hW
     replace hW := KeepsF.keeps hW
     refine ⟨?_⟩
     simp only [fill]
     go_simp
     first | exact ⟨KeepsF.refl _, rfl⟩ | exact ⟨KeepsF.of (Keeps.alloc _ _), rfl⟩
    simp only [addEnt]
    refine loose_has (fun v W => ∃ b, v = .pointer (some ⟨b, 0, none⟩) ∧ W0.heap.size ≤ b ∧ (W.heap[b]? = some kO1 ∨ W.heap[b]? = some (kO2 (kFn 112) (kFn 113) (kFn 115) (kFn 118)))) (fun W vals hW hkn φ' hφ => ?_) ?_
    ·simp only [knows] at hkn
     try simp only [and_true] at hkn
     have hWF := Lib.hid hW
     replace hW := KeepsF.keeps hW
     clear hkn
     refine ⟨?_⟩
     simp only [fill]
     go_simp
     exact loosef_value hφ (.of (Keeps.alloc _ _)) ⟨_, rfl, hW.size, .inl (heap_alloc_new _ _)⟩
    simp only [addEnt]
    refine loose_had [5] (fun rd _ W => ∃ b, rd = [.pointer (some ⟨b, 0, none⟩)] ∧ W.heap[b]? = some (kO2 (kFn 112) (kFn 113) (kFn 115) (kFn 118))) (by kernel_rfl) (fun W vals hW hkn φ' hφ => ?_) ?_
    ·simp only [knows] at hkn
     try simp only [and_true] at hkn
     have hWF := Lib.hid hW
     replace hW := KeepsF.keeps hW
     obtain ⟨W1, h0, h1, b3, hv3, hb3, ho⟩ := hkn.1 (by decide); replace ho := h1.slot ho; obtain ⟨v1, v2, v3, v4, d1, d2, d3, d4, fr⟩ := kCell ho; have HQ := Lib.hid (kFill hb3 ho); have g0 := fr 0; have g1 := fr 1; have g2 := fr 2; have g3 := fr 3; clear fr ho
     refine ⟨?_⟩
     simp only [fill]
     go_simp
     exact ⟨HQ.out.1, hφ.out _ _ ⟨_, by simp [hv3], HQ.out.2⟩⟩
    simp only [addEnt]
    apply loose_is
    ·intro W vals hW hkn
     clear hkn
     have hWF := Lib.hid hW
     replace hW := KeepsF.keeps hW
     refine ⟨?_⟩
     simp only [fill]
     go_simp
     first | exact ⟨KeepsF.refl _, rfl⟩ | exact ⟨KeepsF.of (Keeps.alloc _ _), rfl⟩
    simp only [addEnt]
    refine loose_nil (fun W vals hW hkn => ?_)
    simp only [knowsAll] at hkn
    try simp only [and_true] at hkn
    simp only [fill, Act.put, List.setIfInBounds_toArray, List.set_cons_succ, List.set_cons_zero]
    obtain ⟨⟨_, W1, h0, h1, b5, hv5, ho⟩, _⟩ := hkn
    obtain hv5 : vals 5 = .pointer (some ⟨b5, 0, none⟩) := by simpa using hv5
    rw [hv5]
    have HW := Lib.hid (And.intro hW.keeps (show Row W b5 114 #[kFn 112, kFn 113, kFn 115, kFn 118] from h1.full ho))
    clear hW h0 h1 ho hv5 M1 M2 M3 M4
    generalize vals 14 = v14
    have r1 := HW.out.2.cell 0
    have r2 := H2.out.2.keeps HW.out.1
    simp at r1
    have d0 := r2.cell 0
    have d1 := r2.cell 1
    have d2 := r2.cell 2
    have d3 := r2.cell 3
    simp only [List.getElem?_toArray, List.getElem?_cons_zero, List.getElem?_cons_succ] at d0 d1 d2 d3
    go_wp2_with fail
    refine (kMayF_any ⟨2, n, f, s⟩ W).mono ?_
    rintro e w3 ⟨rfl, hk3⟩
    have HK := Lib.hid ((HH.out.2.2.2.2.1.trans H2.out.1 (by simp)).trans (HW.out.1.trans hk3 (by simp)) (by simp))
    clear hk3
    simp only
    obtain ⟨B, hB⟩ : ∃ B, (s.isEmpty && n == 0) = B := ⟨_, rfl⟩
    have HB := Lib.hid (show kMay l[j] = B by rw [← HH.out.2.2.1, ← hB]; rfl)
    rw [hB]
    clear hB
    clear r2 d0 d1 d2 d3 r1
    cases B
    ·go_wp2_with fail
     go_ret
     exact ⟨by rw [kErr_no hjl HB.out]; rfl, HK.out⟩
    ·go_wp2_with fail
     exact ⟨⟨j + 1, by omega, by go_num, all_take hjl HH.out.2.2.2.1 HB.out, HK.out⟩, by simp [intOf]; omega⟩
   ·skip
    have hkv : kOfKind 3 = .agg #[kFn 120, kFn 121, kFn 123, kFn 124] ∧ kIs 3 = true := by
     unfold kOfKind kIs
     first | exact ⟨rfl, rfl⟩ | simp [hki, kNone]
    have HKV := Lib.hid hkv
    clear hkv
    refine wp_region_fills (kO1) (kO2 (kFn 120) (kFn 121) (kFn 123) (kFn 124)) _ (by kernel_rfl) rfl (by kernel_rfl) ?_
    refine loose_has (fun v W => ∃ b, v = .map (some b) ∧ Kinds W b) (fun W vals hW hkn φ' hφ => ?_) ?_
    ·simp only [knows] at hkn
     try simp only [and_true] at hkn
     have hWF := Lib.hid hW
     replace hW := KeepsF.keeps hW
     clear hkn
     refine ⟨?_⟩
     simp only [fill]
     go_simp
     (with_reducible refine loosef_has hφ ?_; refine (kKinds_any W).mono ?_; rintro e w2 ⟨b, rfl, h1, h2⟩; exact ⟨_, rfl, h2, b, rfl, h1⟩)
    simp only [addEnt]
    apply loose_is
    ·intro W vals hW hkn
     clear hkn
     have hWF := Lib.hid hW
     replace hW := KeepsF.keeps hW
     refine ⟨?_⟩
     simp only [fill]
     go_simp
     first | exact ⟨KeepsF.refl _, rfl⟩ | exact ⟨KeepsF.of (Keeps.alloc _ _), rfl⟩
    simp only [addEnt]
    apply loose_is
    ·intro W vals hW hkn
     clear hkn
     have hWF := Lib.hid hW
     replace hW := KeepsF.keeps hW
     refine ⟨?_⟩
     simp only [fill]
     go_simp
     first | exact ⟨KeepsF.refl _, rfl⟩ | exact ⟨KeepsF.of (Keeps.alloc _ _), rfl⟩
    simp only [addEnt]
    apply loose_is
    ·intro W vals hW hkn
     simp only [knows] at hkn
     try simp only [and_true] at hkn
     have hWF := Lib.hid hW
     replace hW := KeepsF.keeps hW
     obtain ⟨W1, h0, h1, b2, hv, hb⟩ := hkn (by decide); have hlk := (hb.fills h1).look 3 HH.out.2.1.k1 HH.out.2.1.k2 true; rw [HKV.out.1, HKV.out.2, if_pos rfl] at hlk; clear hb
     refine ⟨?_⟩
     simp only [fill]
     go_simp
     first | exact ⟨KeepsF.refl _, rfl⟩ | exact ⟨KeepsF.of (Keeps.alloc _ _), rfl⟩
    simp only [addEnt]
    apply loose_is
    ·intro W vals hW hkn
     clear hkn
     have hWF := Lib.hid hW
     replace hW := KeepsF.keeps hW
     refine ⟨?_⟩
     simp only [fill]
     go_simp
     first | exact ⟨KeepsF.refl _, rfl⟩ | exact ⟨KeepsF.of (Keeps.alloc _ _), rfl⟩
    simp only [addEnt]
    apply loose_is
    ·intro W vals hW hkn
     clear hkn
     have hWF := Lib.hid hW
     replace hW := KeepsF.keeps hW
     refine ⟨?_⟩
     simp only [fill]
     go_simp
     first | exact ⟨KeepsF.refl _, rfl⟩ | exact ⟨KeepsF.of (Keeps.alloc _ _), rfl⟩
    simp only [addEnt]
    apply loose_is
    ·intro W vals hW hkn
     clear hkn
     have hWF := Lib.hid hW
     replace hW := KeepsF.keeps hW
     refine ⟨?_⟩
     simp only [fill]
     go_simp
     first | exact ⟨KeepsF.refl _, rfl⟩ | exact ⟨KeepsF.of (Keeps.alloc _ _), rfl⟩
    simp only [addEnt]
    refine loose_has (fun v W => ∃ b, v = .pointer (some ⟨b, 0, none⟩) ∧ W0.heap.size ≤ b ∧ (W.heap[b]? = some kO1 ∨ W.heap[b]? = some (kO2 (kFn 120) (kFn 121) (kFn 123) (kFn 124)))) (fun W vals hW hkn φ' hφ => ?_) ?_
    ·simp only [knows] at hkn
     try simp only [and_true] at hkn
     have hWF := Lib.hid hW
     replace hW := KeepsF.keeps hW
     clear hkn
     refine ⟨?_⟩
     simp only [fill]
     go_simp
     exact loosef_value hφ (.of (Keeps.alloc _ _)) ⟨_, rfl, hW.size, .inl (heap_alloc_new _ _)⟩
    simp only [addEnt]
    refine loose_had [5] (fun rd _ W => ∃ b, rd = [.pointer (some ⟨b, 0, none⟩)] ∧ W.heap[b]? = some (kO2 (kFn 120) (kFn 121) (kFn 123) (kFn 124))) (by kernel_rfl) (fun W vals hW hkn φ' hφ => ?_) ?_
    ·simp only [knows] at hkn
     try simp only [and_true] at hkn
     have hWF := Lib.hid hW
     replace hW := KeepsF.keeps hW
     obtain ⟨W1, h0, h1, b3, hv3, hb3, ho⟩ := hkn.1 (by decide); replace ho := h1.slot ho; obtain ⟨v1, v2, v3, v4, d1, d2, d3, d4, fr⟩ := kCell ho; have HQ := Lib.hid (kFill hb3 ho); have g0 := fr 0; have g1 := fr 1; have g2 := fr 2; have g3 := fr 3; clear fr ho
     refine ⟨?_⟩
     simp only [fill]
     go_simp
     exact ⟨HQ.out.1, hφ.out _ _ ⟨_, by simp [hv3], HQ.out.2⟩⟩
    simp only [addEnt]
    apply loose_is
    ·intro W vals hW hkn
     clear hkn
     have hWF := Lib.hid hW
     replace hW := KeepsF.keeps hW
     refine ⟨?_⟩
     simp only [fill]
     go_simp
     first | exact ⟨KeepsF.refl _, rfl⟩ | exact ⟨KeepsF.of (Keeps.alloc _ _), rfl⟩
    simp only [addEnt]
    refine loose_nil (fun W vals hW hkn => ?_)
    simp only [knowsAll] at hkn
    try simp only [and_true] at hkn
    simp only [fill, Act.put, List.setIfInBounds_toArray, List.set_cons_succ, List.set_cons_zero]
    obtain ⟨⟨_, W1, h0, h1, b5, hv5, ho⟩, _⟩ := hkn
    obtain hv5 : vals 5 = .pointer (some ⟨b5, 0, none⟩) := by simpa using hv5
    rw [hv5]
    have HW := Lib.hid (And.intro hW.keeps (show Row W b5 114 #[kFn 120, kFn 121, kFn 123, kFn 124] from h1.full ho))
    clear hW h0 h1 ho hv5 M1 M2 M3 M4
    generalize vals 14 = v14
    have r1 := HW.out.2.cell 0
    have r2 := H2.out.2.keeps HW.out.1
    simp at r1
    have d0 := r2.cell 0
    have d1 := r2.cell 1
    have d2 := r2.cell 2
    have d3 := r2.cell 3
    simp only [List.getElem?_toArray, List.getElem?_cons_zero, List.getElem?_cons_succ] at d0 d1 d2 d3
    go_wp2_with fail
    refine (kMayT_any ⟨3, n, f, s⟩ W).mono ?_
    rintro e w3 ⟨rfl, hk3⟩
    have HK := Lib.hid ((HH.out.2.2.2.2.1.trans H2.out.1 (by simp)).trans (HW.out.1.trans hk3 (by simp)) (by simp))
    clear hk3
    simp only
    obtain ⟨B, hB⟩ : ∃ B, (n == 0 && fz f) = B := ⟨_, rfl⟩
    have HB := Lib.hid (show kMay l[j] = B by rw [← HH.out.2.2.1, ← hB]; rfl)
    rw [hB]
    clear hB
    clear r2 d0 d1 d2 d3 r1
    cases B
    ·go_wp2_with fail
     go_ret
     exact ⟨by rw [kErr_no hjl HB.out]; rfl, HK.out⟩
    ·go_wp2_with fail
     exact ⟨⟨j + 1, by omega, by go_num, all_take hjl HH.out.2.2.2.1 HB.out, HK.out⟩, by simp [intOf]; omega⟩
   ·skip
    have hkv : kOfKind k = .agg #[.nilFunc, .nilFunc, .nilFunc, .nilFunc] ∧ kIs k = false := by
     unfold kOfKind kIs
     first | exact ⟨rfl, rfl⟩ | simp [hki, kNone]
    have HKV := Lib.hid hkv
    clear hkv
    refine wp_region_fills (kO1) (kO2 (.nilFunc) (.nilFunc) (.nilFunc) (.nilFunc)) _ (by kernel_rfl) rfl (by kernel_rfl) ?_
    refine loose_has (fun v W => ∃ b, v = .map (some b) ∧ Kinds W b) (fun W vals hW hkn φ' hφ => ?_) ?_
    ·simp only [knows] at hkn
     try simp only [and_true] at hkn
     have hWF := Lib.hid hW
     replace hW := KeepsF.keeps hW
     clear hkn
     refine ⟨?_⟩
     simp only [fill]
     go_simp
     (with_reducible refine loosef_has hφ ?_; refine (kKinds_any W).mono ?_; rintro e w2 ⟨b, rfl, h1, h2⟩; exact ⟨_, rfl, h2, b, rfl, h1⟩)
    simp only [addEnt]
    apply loose_is
    ·intro W vals hW hkn
     clear hkn
     have hWF := Lib.hid hW
     replace hW := KeepsF.keeps hW
     refine ⟨?_⟩
     simp only [fill]
     go_simp
     first | exact ⟨KeepsF.refl _, rfl⟩ | exact ⟨KeepsF.of (Keeps.alloc _ _), rfl⟩
    simp only [addEnt]
    apply loose_is
    ·intro W vals hW hkn
     clear hkn
     have hWF := Lib.hid hW
     replace hW := KeepsF.keeps hW
     refine ⟨?_⟩
     simp only [fill]
     go_simp
     first | exact ⟨KeepsF.refl _, rfl⟩ | exact ⟨KeepsF.of (Keeps.alloc _ _), rfl⟩
    simp only [addEnt]
    apply loose_is
    ·intro W vals hW hkn
     simp only [knows] at hkn
     try simp only [and_true] at hkn
     have hWF := Lib.hid hW
     replace hW := KeepsF.keeps hW
     obtain ⟨W1, h0, h1, b2, hv, hb⟩ := hkn (by decide); have hlk := (hb.fills h1).look k HH.out.2.1.k1 HH.out.2.1.k2 true; rw [HKV.out.1, HKV.out.2, if_pos rfl] at hlk; clear hb
     refine ⟨?_⟩
     simp only [fill]
     go_simp
     first | exact ⟨KeepsF.refl _, rfl⟩ | exact ⟨KeepsF.of (Keeps.alloc _ _), rfl⟩
    simp only [addEnt]
    apply loose_is
    ·intro W vals hW hkn
     clear hkn
     have hWF := Lib.hid hW
     replace hW := KeepsF.keeps hW
     refine ⟨?_⟩
     simp only [fill]
     go_simp
     first | exact ⟨KeepsF.refl _, rfl⟩ | exact ⟨KeepsF.of (Keeps.alloc _ _), rfl⟩
    simp only [addEnt]
    apply loose_is
    ·intro W vals hW hkn
     clear hkn
     have hWF := Lib.hid hW
     replace hW := KeepsF.keeps hW
     refine ⟨?_⟩
     simp only [fill]
     go_simp
     first | exact ⟨KeepsF.refl _, rfl⟩ | exact ⟨KeepsF.of (Keeps.alloc _ _), rfl⟩
    simp only [addEnt]
    apply loose_is
    ·intro W vals hW hkn
     clear hkn
     have hWF := Lib.hid hW
     replace hW := KeepsF.keeps hW
     refine ⟨?_⟩
     simp only [fill]
     go_simp
     first | exact ⟨KeepsF.refl _, rfl⟩ | exact ⟨KeepsF.of (Keeps.alloc _ _), rfl⟩
    simp only [addEnt]
    refine loose_has (fun v W => ∃ b, v = .pointer (some ⟨b, 0, none⟩) ∧ W0.heap.size ≤ b ∧ (W.heap[b]? = some kO1 ∨ W.heap[b]? = some (kO2 (.nilFunc) (.nilFunc) (.nilFunc) (.nilFunc)))) (fun W vals hW hkn φ' hφ => ?_) ?_
    ·simp only [knows] at hkn
     try simp only [and_true] at hkn
     have hWF := Lib.hid hW
     replace hW := KeepsF.keeps hW
     clear hkn
     refine ⟨?_⟩
     simp only [fill]
     go_simp
     exact loosef_value hφ (.of (Keeps.alloc _ _)) ⟨_, rfl, hW.size, .inl (heap_alloc_new _ _)⟩
    simp only [addEnt]
    refine loose_had [5] (fun rd _ W => ∃ b, rd = [.pointer (some ⟨b, 0, none⟩)] ∧ W.heap[b]? = some (kO2 (.nilFunc) (.nilFunc) (.nilFunc) (.nilFunc))) (by kernel_rfl) (fun W vals hW hkn φ' hφ => ?_) ?_
    ·simp only [knows] at hkn
     try simp only [and_true] at hkn
     have hWF := Lib.hid hW
     replace hW := KeepsF.keeps hW
     obtain ⟨W1, h0, h1, b3, hv3, hb3, ho⟩ := hkn.1 (by decide); replace ho := h1.slot ho; obtain ⟨v1, v2, v3, v4, d1, d2, d3, d4, fr⟩ := kCell ho; have HQ := Lib.hid (kFill hb3 ho); have g0 := fr 0; have g1 := fr 1; have g2 := fr 2; have g3 := fr 3; clear fr ho
     refine ⟨?_⟩
     simp only [fill]
     go_simp
     exact ⟨HQ.out.1, hφ.out _ _ ⟨_, by simp [hv3], HQ.out.2⟩⟩
    simp only [addEnt]
    apply loose_is
    ·intro W vals hW hkn
     clear hkn
     have hWF := Lib.hid hW
     replace hW := KeepsF.keeps hW
     refine ⟨?_⟩
     simp only [fill]
     go_simp
     first | exact ⟨KeepsF.refl _, rfl⟩ | exact ⟨KeepsF.of (Keeps.alloc _ _), rfl⟩
    simp only [addEnt]
    refine loose_nil (fun W vals hW hkn => ?_)
    simp only [knowsAll] at hkn
    try simp only [and_true] at hkn
    simp only [fill, Act.put, List.setIfInBounds_toArray, List.set_cons_succ, List.set_cons_zero]
    obtain ⟨⟨_, W1, h0, h1, b5, hv5, ho⟩, _⟩ := hkn
    obtain hv5 : vals 5 = .pointer (some ⟨b5, 0, none⟩) := by simpa using hv5
    rw [hv5]
    have HW := Lib.hid (And.intro hW.keeps (show Row W b5 114 #[.nilFunc, .nilFunc, .nilFunc, .nilFunc] from h1.full ho))
    clear hW h0 h1 ho hv5 M1 M2 M3 M4
    generalize vals 14 = v14
    have r1 := HW.out.2.cell 0
    have r2 := H2.out.2.keeps HW.out.1
    simp at r1
    have d0 := r2.cell 0
    have d1 := r2.cell 1
    have d2 := r2.cell 2
    have d3 := r2.cell 3
    simp only [List.getElem?_toArray, List.getElem?_cons_zero, List.getElem?_cons_succ] at d0 d1 d2 d3
    have HKI := Lib.hid hki
    clear hki
    go_wp2_with fail
    go_ret
    refine ⟨?_, (HH.out.2.2.2.2.1.trans H2.out.1 (by simp)).trans HW.out.1 (by simp)⟩
    rw [kErr_no hjl (by rw [← HH.out.2.2.1]; simp [kMay, HKI.out])]
    rfl
  ·obtain rfl : j = l.length := by omega
   have HK := Lib.hid hkp
   rw [List.take_length] at ha
   have HA := Lib.hid (And.intro ha (And.intro hok (And.intro hs (kRaw_length hs))))
   have HL := Lib.hid (hL.keeps hkp)
   have HM := Lib.hid (hM.keeps hkp)
   clear hkp hok ha hL hM hs
   obtain ⟨N, hN⟩ : ∃ N, l.length = N := ⟨_, rfl⟩
   obtain ⟨B, hB⟩ : ∃ B, (kRaw l).length = B := ⟨_, rfl⟩
   have HE := Lib.hid (show kErr l = if N = 0 ∨ 4 < N then 2 else if 48 < B then 3 else 0 by unfold kErr; rw [if_pos HA.out.1, hN, hB])
   have HR := Lib.hid (show Calls Tryz.prog 79 #[.slice A N c] wr fun e w' => ∃ s : ByteArray, e = .returned (.string s) ∧ s.size = B ∧ Keeps wr w' [] by
    have := kRaw_any wr A c l HA.out.2.1 HA.out.1 HL.out HM.out hl HA.out.2.2.1
    rw [hN] at this
    exact this.mono (by rintro e w' ⟨rfl, hk⟩; exact ⟨_, rfl, by simp [ByteArray.size, hB], hk⟩))
   have HB := Lib.hid (show B ≤ 2010 * 100 by rw [← hB]; have := HA.out.2.2.2; omega)
   rw [hN] at hl ⊢
   clear hN hB hj hjl
   by_cases h0 : N = 0
   ·subst h0
    go_wp2_with fail
    go_ret
    exact ⟨by rw [HE.out]; rfl, HK.out⟩
   ·by_cases h4 : 4 < N
    ·have HE2 := Lib.hid (show kErr l = 2 by rw [HE.out, if_pos (.inr h4)])
     have hz : ((N : Int) == 0) = false := by simp; omega
     go_wp2_with fail
     go_ret
     exact ⟨by rw [HE2.out]; rfl, HK.out⟩
    ·have HE2 := Lib.hid (show kErr l = if 48 < B then 3 else 0 by rw [HE.out, if_neg (by omega)])
     have hz : ((N : Int) == 0) = false := by simp; omega
     go_wp2_with fail
     refine HR.out.mono ?_
     rintro e w3 ⟨s, rfl, hs, hk⟩
     have HK3 := Lib.hid hk
     clear hk
     by_cases h48 : 48 < B
     ·rw [if_pos h48] at HE2
      go_wp2_with fail
      go_ret
      exact ⟨by rw [HE2.out]; rfl, HK.out.trans HK3.out (by simp)⟩
     ·rw [if_neg h48] at HE2
      go_wp2_with fail
      go_ret
      exact ⟨by rw [HE2.out]; rfl, HK.out.trans HK3.out (by simp)⟩
end Go.Proofs.YtfglgeoookbppaaGreatDoor

namespace Go.Proofs.YtfglgeoookbppaaGreatDoor
open Go.RowKit

/-- What Check, Raw and the like ask of their parts. -/
structure KArg (w : World) (A : Option Addr) (l : List KP) : Prop where
 ok : ∀ p ∈ l, p.Ok
 lies : Lies w w.heap.size A (kFlat l)
 max : MaxL w
 len : l.length ≤ 100
 text : ∀ p ∈ l, p.s.length ≤ 1000
theorem KArg.keep {w w' : World} {A : Option Addr} {l : List KP} (h : KArg w A l) (hk : Keeps w w' []) : KArg w' A l := ⟨h.ok, h.lies.keeps hk, h.max.keeps hk, h.len, h.text⟩
theorem KArg.check {w : World} {A : Option Addr} {l : List KP} (h : KArg w A l) (c : Nat) : Calls Tryz.prog 78 #[.slice A l.length c] w fun e w' => e = .returned (.int .i64 (kErr l : Nat)) ∧ Keeps w w' [] :=
 kCheck_any w A c l h.ok h.lies h.max h.len h.text
theorem kErr_may {l : List KP} (h : kErr l = 0 ∨ kErr l = 3) : l.all kMay = true := by
 unfold kErr at h
 split at h
 ·assumption
 ·omega
/-- A key's bytes, if there are. -/
def kKey (l : List KP) : List UInt8 := if kErr l = 0 then kRaw l else []

set_option maxRecDepth 100000 in
set_option maxHeartbeats 1000000 in
theorem KArg.raw {w : World} {A : Option Addr} {l : List KP} (h : KArg w A l) (c : Nat) : Calls Tryz.prog 29 #[.slice A l.length c] w fun e w' => e = .returned (.tuple #[strV (kKey l), .int .i64 (kErr l : Nat)]) ∧ Keeps w w' [] := by
 have HC := Lib.hid (h.check c)
 by_cases h0 : kErr l = 0
 ·have HR := Lib.hid (show ∀ w', Keeps w w' [] → Calls Tryz.prog 79 #[.slice A l.length c] w' fun e w'' => e = .returned (strV (kRaw l)) ∧ Keeps w' w'' [] from fun w' hk => by
   have h := h.keep hk
   exact kRaw_any w' A c l h.ok (kErr_may (.inl h0)) h.lies h.max h.len h.text)
  have HK := Lib.hid (show kKey l = kRaw l from if_pos h0)
  have HE := Lib.hid h0
  clear h h0
  go_enter Tryz.func29, Tryz.ntmps29
  go_wp2_with fail
  refine HC.out.mono ?_
  rintro e w1 ⟨rfl, hk⟩
  have H1 := Lib.hid hk
  clear hk
  rw [HE.out]
  go_wp2_with fail
  refine (HR.out w1 H1.out).mono ?_
  rintro e w2 ⟨rfl, hk⟩
  have H2 := Lib.hid hk
  clear hk
  go_wp2_with fail
  go_ret2
  exact ⟨by rw [HK.out, HE.out]; rfl, H1.out.trans H2.out (by simp)⟩
 ·have HK := Lib.hid (show kKey l = [] from if_neg h0)
  have HE := Lib.hid (show (((kErr l : Nat) : Int) != 0) = true by simp [h0])
  clear h h0
  go_enter Tryz.func29, Tryz.ntmps29
  go_wp2_with fail
  refine HC.out.mono ?_
  rintro e w1 ⟨rfl, hk⟩
  have H1 := Lib.hid hk
  clear hk
  have he := HE.out
  go_wp2_with fail
  go_ret2
  exact ⟨by rw [HK.out]; rfl, H1.out⟩

end Go.Proofs.YtfglgeoookbppaaGreatDoor

namespace Go.Proofs.YtfglgeoookbppaaGreatDoor
open Go

theorem uRaw_nozero {r : Nat} (h : uMay r) : ∀ a ∈ uRaw r, a ≠ 0 := by
 intro a ha e
 subst e
 have h0 := h.1
 have h1 : r ≤ 1114111 := by have := h.2; omega
 have key : ∀ n : Nat, 0 < n → n < 256 → (0 : UInt8) ≠ u8 n := fun n hn hn2 e => by
  have := congrArg UInt8.toNat e
  rw [toNat_u8 hn2] at this
  simp at this
  omega
 unfold uRaw at ha
 split at ha
 ·simp only [List.mem_cons, List.not_mem_nil, or_false] at ha
  exact key _ (by omega) (by omega) ha
 ·split at ha
  ·simp only [List.mem_cons, List.not_mem_nil, or_false] at ha
   rcases ha with ha | ha <;> exact key _ (by omega) (by omega) ha
  ·split at ha
   ·simp only [List.mem_cons, List.not_mem_nil, or_false] at ha
    rcases ha with ha | ha | ha <;> exact key _ (by omega) (by omega) ha
   ·simp only [List.mem_cons, List.not_mem_nil, or_false] at ha
    rcases ha with ha | ha | ha | ha <;> exact key _ (by omega) (by omega) ha
theorem uGood_nozero : ∀ (n : Nat) (s : List UInt8), s.length ≤ n → uGood s = true → (0 : UInt8) ∉ s
 | 0, s, hn, _ => by
  rw [List.length_eq_zero_iff.1 (Nat.le_zero.1 hn)]
  simp
 | n + 1, s, hn, h => by
  by_cases hs : s = []
  ·rw [hs]; simp
  ·rw [uGood_step hs] at h
   by_cases h0 : uFirst s = 0
   ·rw [if_pos h0] at h; cases h
   ·rw [if_neg h0] at h
    have ih := uGood_nozero n (s.drop (uFirst s)) (by rw [List.length_drop]; omega) h
    obtain ⟨r, hr, e⟩ := uFirst_pos h0
    have hz := uRaw_nozero hr
    rw [e] at hz
    intro hm
    rw [← List.take_append_drop (uFirst s) s] at hm
    rcases List.mem_append.1 hm with h1 | h1
    ·exact hz 0 h1 rfl
    ·exact ih h1
theorem kEsc_plain {s : List UInt8} (h : (0 : UInt8) ∉ s) : kEsc s = s := by
 induction s with
 | nil => rfl
 | cons a s ih =>
  have h1 : ¬ a = 0 := fun e => h (by rw [e]; simp)
  have h2 : (0 : UInt8) ∉ s := fun e => h (List.mem_cons_of_mem _ e)
  simp [kEsc, h1, ih h2]
theorem kInt_ok {n : Int} (h1 : -9223372036854775808 ≤ n) (h2 : n ≤ 9223372036854775807) : (kInt n).Ok ∧ kMay (kInt n) = true ∧ (kInt n).s.length ≤ 23 ∧ (kPart (kInt n)).length = 9 := by
 refine ⟨⟨by show _ ≤ (1 : Int); omega, by show (1 : Int) ≤ _; omega, h1, h2, by show (0 : Nat) < _; omega⟩, by (show (([] : List UInt8).isEmpty && fz 0) = true; decide), by show (0 : Nat) ≤ 23; omega, ?_⟩
 show (toBE 8 _).length + 1 = 9
 rw [toBE_length]
theorem kText_ok {s : List UInt8} (h : rcClient s = true) : (kText s).Ok ∧ kMay (kText s) = true ∧ (kText s).s.length ≤ 23 ∧ (kPart (kText s)).length ≤ 26 := by
 unfold rcClient at h
 simp only [Bool.and_eq_true, decide_eq_true_eq] at h
 refine ⟨⟨by show _ ≤ (3 : Int); omega, by show (3 : Int) ≤ _; omega, by show _ ≤ (0 : Int); omega, by show (0 : Int) ≤ _; omega, by show (0 : Nat) < _; omega⟩, by (show ((0 : Int) == 0 && fz 0) = true; decide), h.2.1, ?_⟩
 show (kEsc s ++ [0, 1]).length + 1 ≤ 26
 rw [kEsc_plain (uGood_nozero _ s (Nat.le_refl _) h.2.2), List.length_append]
 have := h.2.1
 simp
 omega
theorem rcSum_ok (s : List UInt8) : (rcSum s).Ok ∧ kMay (rcSum s) = true ∧ (rcSum s).s.length ≤ 23 ∧ (kPart (rcSum s)).length = 9 :=
 kInt_ok (by omega) (by have := crcSum_lt s; omega)
/-- A list of parts that is a key. -/
structure KeyOk (l : List KP) (n : Nat) : Prop where
 ok : ∀ p ∈ l, p.Ok ∧ kMay p = true
 s : ∀ p ∈ l, p.s.length ≤ 23
 len : (kRaw l).length ≤ n
 ne : l ≠ []
 l : l.length ≤ 3
theorem KeyOk.err {l : List KP} (h : KeyOk l 48) : kErr l = 0 := by
 unfold kErr
 rw [if_pos (List.all_eq_true.2 fun p hp => (h.ok p hp).2), if_neg, if_neg]
 ·have := h.len; omega
 ·have := h.l
  have : l.length ≠ 0 := fun e => h.ne (List.length_eq_zero_iff.1 e)
  omega
theorem KeyOk.key {l : List KP} (h : KeyOk l 48) : kKey l = kRaw l := if_pos h.err
theorem KeyOk.up {l : List KP} {n m : Nat} (h : KeyOk l n) (hm : n ≤ m) : KeyOk l m := ⟨h.ok, h.s, Nat.le_trans h.len hm, h.ne, h.l⟩
theorem keyOk_text {c : List UInt8} (h : rcClient c = true) : KeyOk [kText c] 26 := by
 obtain ⟨h1, h2, h3, h4⟩ := kText_ok h
 exact ⟨fun p hp => by (rw [List.mem_singleton] at hp; rw [hp]; exact ⟨h1, h2⟩), fun p hp => by (rw [List.mem_singleton] at hp; rw [hp]; exact h3), by rw [kRaw_one]; exact h4, by simp, by simp⟩
theorem keyOk_sum (t : List UInt8) : KeyOk [rcSum t] 26 := by
 obtain ⟨h1, h2, h3, h4⟩ := rcSum_ok t
 exact ⟨fun p hp => by (rw [List.mem_singleton] at hp; rw [hp]; exact ⟨h1, h2⟩), fun p hp => by (rw [List.mem_singleton] at hp; rw [hp]; exact h3), by rw [kRaw_one, h4]; omega, by simp, by simp⟩
theorem KeyOk.more {l : List KP} {n : Nat} {a : Int} (h : KeyOk l n) (hl : l.length ≤ 2) (h1 : -9223372036854775808 ≤ a) (h2 : a ≤ 9223372036854775807) : KeyOk (l ++ [kInt a]) (n + 9) := by
 obtain ⟨g1, g2, g3, g4⟩ := kInt_ok h1 h2
 refine ⟨fun p hp => ?_, fun p hp => ?_, ?_, by simp, by rw [List.length_append]; simp; omega⟩
 ·rcases List.mem_append.1 hp with hp | hp
  ·exact h.ok p hp
  ·rw [List.mem_singleton] at hp; rw [hp]; exact ⟨g1, g2⟩
 ·rcases List.mem_append.1 hp with hp | hp
  ·exact h.s p hp
  ·rw [List.mem_singleton] at hp; rw [hp]; exact g3
 ·rw [kRaw_append, kRaw_one, List.length_append, g4]
  have := h.len
  omega
theorem inN_iff {n a b : Int} : inN n a b = true ↔ a ≤ n ∧ n ≤ b := by
 unfold inN
 simp
/-- The parts of a row that may be are a key. -/
theorem rc_parts {x : Rw} (h : rcOk x = true) : KeyOk (rcParts x.k x) 35 ∧ (rcParts x.k x).length ≤ 2 := by
 unfold rcOk at h
 simp only [Bool.and_eq_true] at h
 obtain ⟨h1, h2, _⟩ := h
 unfold rcIs at h1
 rw [inN_iff] at h1
 have e : x.k = 1 ∨ x.k = 2 ∨ x.k = 3 ∨ x.k = 4 ∨ x.k = 5 := by omega
 rcases e with e | e | e | e | e <;> rw [e] at h2 ⊢
 ·have hc : rcClient x.c = true := by
   have : (rcClient x.c && _) = true := h2
   rw [Bool.and_eq_true] at this
   exact this.1
  exact ⟨(keyOk_text hc).up (by omega), Nat.le_succ _⟩
 ·have hc : rcClient x.c = true := by
   have : (rcClient x.c && _) = true := h2
   rw [Bool.and_eq_true] at this
   exact this.1
  have hs := crcSum_lt x.t
  exact ⟨(keyOk_text hc).more (by simp) (a := (crcSum x.t : Nat)) (by omega) (by omega), Nat.le_refl _⟩
 ·have hc : rcClient x.c = true ∧ inN x.seq 0 4611686018427387904 = true := by
   have : (rcClient x.c && (inN x.seq 0 4611686018427387904 && _)) = true := h2
   rw [Bool.and_eq_true, Bool.and_eq_true] at this
   exact ⟨this.1, this.2.1⟩
  have hq := inN_iff.1 hc.2
  exact ⟨(keyOk_text hc.1).more (by simp) (a := x.seq) (by omega) (by omega), Nat.le_refl _⟩
 ·have hc : rcClient x.c = true ∧ inN x.id 1 65535 = true := by
   have : (rcClient x.c && inN x.id 1 65535) = true := h2
   rwa [Bool.and_eq_true] at this
  have hq := inN_iff.1 hc.2
  exact ⟨(keyOk_text hc.1).more (by simp) (a := x.id) (by omega) (by omega), Nat.le_refl _⟩
 ·exact ⟨(keyOk_sum x.t).up (by omega), Nat.le_succ _⟩
theorem rc_key {x : Rw} {p : Int} (h : rcFits x p = true) : KeyOk (rcKeyL x p) 48 := by
 unfold rcFits at h
 simp only [Bool.and_eq_true] at h
 obtain ⟨h1, h2⟩ := rc_parts h.1
 have hp := inN_iff.1 h.2.1
 unfold rcKeyL
 split
 ·exact (h1.more h2 (by omega) (by omega)).up (by omega)
 ·exact h1.up (by omega)
end Go.Proofs.YtfglgeoookbppaaGreatDoor
