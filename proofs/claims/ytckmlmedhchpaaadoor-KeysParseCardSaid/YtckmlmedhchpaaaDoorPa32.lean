/- Package keys: Compare. Package keys: Compare of lists. -/
import Derived.Test.YtckmlmedhchpaaaDoorPa27

namespace Go.Proofs.YtckmlmedhchpaaaDoor
open Go.RowKit

/-- How two parts stand. -/
def kCmp1 (p q : KP) : Int := if p.k = q.k then (if kIs p.k = true then cmpOne p q else 0) else cmpI p.k q.k
theorem cmpI_ne {a b : Int} (h : a ≠ b) : (cmpI a b != 0) = true := by
  unfold cmpI
  split
  · decide
  · split
    · decide
    · omega
theorem cmpI_eq (a : Int) : cmpI a a = 0 := by simp [cmpI]

set_option maxRecDepth 100000 in
set_option maxHeartbeats 4000000 in
theorem kCmp_1 (n : Int) (f : Nat) (s : List UInt8) (q : KP) (hp : (⟨1, n, f, s⟩ : KP).Ok) (hq : q.Ok) (w : World) : Calls Tryd.prog 33 #[kpV ⟨1, n, f, s⟩, kpV q] w fun e w' => e = .returned (.int .i64 (kCmp1 ⟨1, n, f, s⟩ q)) ∧ Keeps w w' [] := by
  have HO := Lib.hid (And.intro hp hq)
  have HH := Lib.hid (And.intro hp (And.intro hp hp))
  obtain ⟨k2, n2, f2, s2⟩ := q
  clear hp hq
  unfold kpV strV
  have hsf := @run_store_float Tryd.prog
  go_enter Tryd.func33, Tryd.ntmps33
  go_wp2_with fail
  obtain ⟨W1, hW1⟩ : ∃ W', w.alloc (.cells #[.int .i64 1, .int .i64 n, .float .f64 f, .string ⟨s.toArray⟩] 34) = W' := ⟨_, rfl⟩
  obtain ⟨W0, hW0⟩ : ∃ W', W1.alloc (.cells #[.int .i64 k2, .int .i64 n2, .float .f64 f2, .string ⟨s2.toArray⟩] 34) = W' := ⟨_, rfl⟩
  have hk0 : Keeps w W0 [] := by rw [← hW0, ← hW1]; exact (Keeps.alloc _ _).trans (Keeps.alloc _ _) (by simp)
  have hr1 : Row W0 w.heap.size 34 #[.int .i64 1, .int .i64 n, .float .f64 f, .string ⟨s.toArray⟩] := by rw [← hW0, ← hW1]; exact (Row.new _ _ _).alloc _
  have hr2 : Row W0 (w.heap.size + 1) 34 #[.int .i64 k2, .int .i64 n2, .float .f64 f2, .string ⟨s2.toArray⟩] := by
    have := Row.new W1 34 #[.int .i64 k2, .int .i64 n2, .float .f64 f2, .string ⟨s2.toArray⟩]
    rw [hW0] at this
    rw [show w.heap.size + 1 = W1.heap.size by rw [← hW1]; simp]
    exact this
  rw [hW1, hW0]
  clear hW0 hW1
  obtain ⟨N, hN⟩ : ∃ N, w.heap.size = N := ⟨_, rfl⟩
  obtain ⟨N2, hN2⟩ : ∃ N2, N + 1 = N2 := ⟨_, rfl⟩
  rw [hN, hN2] at hr2
  rw [hN] at hr1 ⊢
  rw [hN2]
  have H2 := Lib.hid (And.intro hk0 (And.intro hr1 hr2))
  have M1 := fun (W : World) (hW : Keeps W0 W []) => (hr1.keep hW (by simp)).cell 0
  have M2 := fun (W : World) (hW : Keeps W0 W []) => (hr1.keep hW (by simp)).cell 1
  have M3 := fun (W : World) (hW : Keeps W0 W []) => (hr1.keep hW (by simp)).cell 2
  have M4 := fun (W : World) (hW : Keeps W0 W []) => (hr1.keep hW (by simp)).cell 3
  clear hN hN2 hk0 hr1 hr2
  have hkv : kOfKind 1 = .agg #[kFn 35, kFn 36, kFn 38, kFn 40] ∧ kIs 1 = true := by
    unfold kOfKind kIs
    first | exact ⟨rfl, rfl⟩ | simp [hki, kNone]
  have HKV := Lib.hid hkv
  clear hkv
  refine wp_region_fills (kO1) (kO2 (kFn 35) (kFn 36) (kFn 38) (kFn 40)) _ (by kernel_rfl) rfl (by kernel_rfl) ?_
  refine loose_has (fun v W => ∃ b, v = .map (some b) ∧ Kinds W b) (fun W vals hW hkn φ' hφ => ?_) ?_
  · simp only [knows] at hkn
    try simp only [and_true] at hkn
    have hWF := Lib.hid hW
    replace hW := KeepsF.keeps hW
    clear hkn
    refine ⟨?_⟩
    simp only [fill]
    go_simp
    (with_reducible refine loosef_has hφ ?_; refine (kKinds_any W).mono ?_; rintro e w2 ⟨b, rfl, h1, h2⟩; exact ⟨_, rfl, h2, b, rfl, h1⟩)
  simp only [addEnt]
  apply loose_is
  · intro W vals hW hkn
    clear hkn
    have hWF := Lib.hid hW
    replace hW := KeepsF.keeps hW
    refine ⟨?_⟩
    simp only [fill]
    go_simp
    first | exact ⟨KeepsF.refl _, rfl⟩ | exact ⟨KeepsF.of (Keeps.alloc _ _), rfl⟩
  simp only [addEnt]
  apply loose_is
  · intro W vals hW hkn
    clear hkn
    have hWF := Lib.hid hW
    replace hW := KeepsF.keeps hW
    refine ⟨?_⟩
    simp only [fill]
    go_simp
    first | exact ⟨KeepsF.refl _, rfl⟩ | exact ⟨KeepsF.of (Keeps.alloc _ _), rfl⟩
  simp only [addEnt]
  apply loose_is
  · intro W vals hW hkn
    simp only [knows] at hkn
    try simp only [and_true] at hkn
    have hWF := Lib.hid hW
    replace hW := KeepsF.keeps hW
    obtain ⟨W1, h0, h1, b2, hv, hb⟩ := hkn (by decide); have hlk := (hb.fills h1).look 1 HH.out.2.1.k1 HH.out.2.1.k2 true; rw [HKV.out.1, HKV.out.2, if_pos rfl] at hlk; clear hb
    refine ⟨?_⟩
    simp only [fill]
    go_simp
    first | exact ⟨KeepsF.refl _, rfl⟩ | exact ⟨KeepsF.of (Keeps.alloc _ _), rfl⟩
  simp only [addEnt]
  apply loose_is
  · intro W vals hW hkn
    clear hkn
    have hWF := Lib.hid hW
    replace hW := KeepsF.keeps hW
    refine ⟨?_⟩
    simp only [fill]
    go_simp
    first | exact ⟨KeepsF.refl _, rfl⟩ | exact ⟨KeepsF.of (Keeps.alloc _ _), rfl⟩
  simp only [addEnt]
  apply loose_is
  · intro W vals hW hkn
    clear hkn
    have hWF := Lib.hid hW
    replace hW := KeepsF.keeps hW
    refine ⟨?_⟩
    simp only [fill]
    go_simp
    first | exact ⟨KeepsF.refl _, rfl⟩ | exact ⟨KeepsF.of (Keeps.alloc _ _), rfl⟩
  simp only [addEnt]
  apply loose_is
  · intro W vals hW hkn
    clear hkn
    have hWF := Lib.hid hW
    replace hW := KeepsF.keeps hW
    refine ⟨?_⟩
    simp only [fill]
    go_simp
    first | exact ⟨KeepsF.refl _, rfl⟩ | exact ⟨KeepsF.of (Keeps.alloc _ _), rfl⟩
  simp only [addEnt]
  refine loose_has (fun v W => ∃ b, v = .pointer (some ⟨b, 0, none⟩) ∧ W0.heap.size ≤ b ∧ (W.heap[b]? = some kO1 ∨ W.heap[b]? = some (kO2 (kFn 35) (kFn 36) (kFn 38) (kFn 40)))) (fun W vals hW hkn φ' hφ => ?_) ?_
  · simp only [knows] at hkn
    try simp only [and_true] at hkn
    have hWF := Lib.hid hW
    replace hW := KeepsF.keeps hW
    clear hkn
    refine ⟨?_⟩
    simp only [fill]
    go_simp
    exact loosef_value hφ (.of (Keeps.alloc _ _)) ⟨_, rfl, hW.size, .inl (heap_alloc_new _ _)⟩
  simp only [addEnt]
  refine loose_had [5] (fun rd _ W => ∃ b, rd = [.pointer (some ⟨b, 0, none⟩)] ∧ W.heap[b]? = some (kO2 (kFn 35) (kFn 36) (kFn 38) (kFn 40))) (by kernel_rfl) (fun W vals hW hkn φ' hφ => ?_) ?_
  · simp only [knows] at hkn
    try simp only [and_true] at hkn
    have hWF := Lib.hid hW
    replace hW := KeepsF.keeps hW
    obtain ⟨W1, h0, h1, b3, hv3, hb3, ho⟩ := hkn.1 (by decide); replace ho := h1.slot ho; obtain ⟨v1, v2, v3, v4, d1, d2, d3, d4, fr⟩ := kCell ho; have HQ := Lib.hid (kFill hb3 ho); have g0 := fr 0; have g1 := fr 1; have g2 := fr 2; have g3 := fr 3; clear fr ho
    refine ⟨?_⟩
    simp only [fill]
    go_simp
    exact ⟨HQ.out.1, hφ.out _ _ ⟨_, by simp [hv3], HQ.out.2⟩⟩
  simp only [addEnt]
  apply loose_is
  · intro W vals hW hkn
    clear hkn
    have hWF := Lib.hid hW
    replace hW := KeepsF.keeps hW
    refine ⟨?_⟩
    simp only [fill]
    go_simp
    first | exact ⟨KeepsF.refl _, rfl⟩ | exact ⟨KeepsF.of (Keeps.alloc _ _), rfl⟩
  simp only [addEnt]
  refine loose_nil (fun W vals hW hkn => ?_)
  simp only [knowsAll] at hkn
  try simp only [and_true] at hkn
  simp only [fill, Act.put, List.setIfInBounds_toArray, List.set_cons_succ, List.set_cons_zero]
  obtain ⟨⟨_, W1, h0, h1, b5, hv5, ho⟩, _⟩ := hkn
  obtain hv5 : vals 5 = .pointer (some ⟨b5, 0, none⟩) := by simpa using hv5
  rw [hv5]
  have HW := Lib.hid (And.intro hW.keeps (show Row W b5 55 #[kFn 35, kFn 36, kFn 38, kFn 40] from h1.full ho))
  clear hW h0 h1 ho hv5 M1 M2 M3 M4
  generalize vals 9 = v14
  have r1 := HW.out.2.cell 3
  have r2 := H2.out.2.1.keeps HW.out.1
  have r3 := H2.out.2.2.keeps HW.out.1
  simp at r1
  have d0 := r2.cell 0
  have d1 := r2.cell 1
  have d2 := r2.cell 2
  have d3 := r2.cell 3
  simp only [List.getElem?_toArray, List.getElem?_cons_zero, List.getElem?_cons_succ] at d0 d1 d2 d3
  have g0 := r3.cell 0
  have g1 := r3.cell 1
  have g2 := r3.cell 2
  have g3 := r3.cell 3
  simp only [List.getElem?_toArray, List.getElem?_cons_zero, List.getElem?_cons_succ] at g0 g1 g2 g3
  by_cases hkk : 1 = k2
  · subst hkk
    have HV := Lib.hid (show kCmp1 ⟨1, n, f, s⟩ ⟨1, n2, f2, s2⟩ = cmpI n n2 by simp [kCmp1, HKV.out.2, cmpOne])
    go_wp2_with (go_at_call 34; refine (cmpKind_any _ _ _).mono ?_; rintro e w' ⟨rfl, rfl⟩; rw [cmpI_eq])
    refine (kCmpI_any ⟨1, n, f, s⟩ ⟨1, n2, f2, s2⟩ HO.out.1 HO.out.2 W).mono ?_
    rintro e w3 ⟨rfl, hk3⟩
    have HK := Lib.hid ((H2.out.1.trans HW.out.1 (by simp)).trans hk3 (by simp))
    clear hk3
    go_wp2_with fail
    go_ret
    exact ⟨by rw [HV.out]; rfl, HK.out⟩
  · have HV := Lib.hid (show kCmp1 ⟨1, n, f, s⟩ ⟨k2, n2, f2, s2⟩ = cmpI 1 k2 by simp [kCmp1, hkk])
    have hc := cmpI_ne hkk
    have HKK := Lib.hid hkk
    clear hkk
    go_wp2_with (go_at_call 34; refine (cmpKind_any _ _ _).mono ?_; rintro e w' ⟨rfl, rfl⟩)
    go_ret
    exact ⟨by rw [HV.out]; rfl, H2.out.1.trans HW.out.1 (by simp)⟩
set_option maxRecDepth 100000 in
set_option maxHeartbeats 4000000 in
theorem kCmp_2 (n : Int) (f : Nat) (s : List UInt8) (q : KP) (hp : (⟨2, n, f, s⟩ : KP).Ok) (hq : q.Ok) (w : World) : Calls Tryd.prog 33 #[kpV ⟨2, n, f, s⟩, kpV q] w fun e w' => e = .returned (.int .i64 (kCmp1 ⟨2, n, f, s⟩ q)) ∧ Keeps w w' [] := by
  have HO := Lib.hid (And.intro hp hq)
  have HH := Lib.hid (And.intro hp (And.intro hp hp))
  obtain ⟨k2, n2, f2, s2⟩ := q
  clear hp hq
  unfold kpV strV
  have hsf := @run_store_float Tryd.prog
  go_enter Tryd.func33, Tryd.ntmps33
  go_wp2_with fail
  obtain ⟨W1, hW1⟩ : ∃ W', w.alloc (.cells #[.int .i64 2, .int .i64 n, .float .f64 f, .string ⟨s.toArray⟩] 34) = W' := ⟨_, rfl⟩
  obtain ⟨W0, hW0⟩ : ∃ W', W1.alloc (.cells #[.int .i64 k2, .int .i64 n2, .float .f64 f2, .string ⟨s2.toArray⟩] 34) = W' := ⟨_, rfl⟩
  have hk0 : Keeps w W0 [] := by rw [← hW0, ← hW1]; exact (Keeps.alloc _ _).trans (Keeps.alloc _ _) (by simp)
  have hr1 : Row W0 w.heap.size 34 #[.int .i64 2, .int .i64 n, .float .f64 f, .string ⟨s.toArray⟩] := by rw [← hW0, ← hW1]; exact (Row.new _ _ _).alloc _
  have hr2 : Row W0 (w.heap.size + 1) 34 #[.int .i64 k2, .int .i64 n2, .float .f64 f2, .string ⟨s2.toArray⟩] := by
    have := Row.new W1 34 #[.int .i64 k2, .int .i64 n2, .float .f64 f2, .string ⟨s2.toArray⟩]
    rw [hW0] at this
    rw [show w.heap.size + 1 = W1.heap.size by rw [← hW1]; simp]
    exact this
  rw [hW1, hW0]
  clear hW0 hW1
  obtain ⟨N, hN⟩ : ∃ N, w.heap.size = N := ⟨_, rfl⟩
  obtain ⟨N2, hN2⟩ : ∃ N2, N + 1 = N2 := ⟨_, rfl⟩
  rw [hN, hN2] at hr2
  rw [hN] at hr1 ⊢
  rw [hN2]
  have H2 := Lib.hid (And.intro hk0 (And.intro hr1 hr2))
  have M1 := fun (W : World) (hW : Keeps W0 W []) => (hr1.keep hW (by simp)).cell 0
  have M2 := fun (W : World) (hW : Keeps W0 W []) => (hr1.keep hW (by simp)).cell 1
  have M3 := fun (W : World) (hW : Keeps W0 W []) => (hr1.keep hW (by simp)).cell 2
  have M4 := fun (W : World) (hW : Keeps W0 W []) => (hr1.keep hW (by simp)).cell 3
  clear hN hN2 hk0 hr1 hr2
  have hkv : kOfKind 2 = .agg #[kFn 42, kFn 43, kFn 45, kFn 47] ∧ kIs 2 = true := by
    unfold kOfKind kIs
    first | exact ⟨rfl, rfl⟩ | simp [hki, kNone]
  have HKV := Lib.hid hkv
  clear hkv
  refine wp_region_fills (kO1) (kO2 (kFn 42) (kFn 43) (kFn 45) (kFn 47)) _ (by kernel_rfl) rfl (by kernel_rfl) ?_
  refine loose_has (fun v W => ∃ b, v = .map (some b) ∧ Kinds W b) (fun W vals hW hkn φ' hφ => ?_) ?_
  · simp only [knows] at hkn
    try simp only [and_true] at hkn
    have hWF := Lib.hid hW
    replace hW := KeepsF.keeps hW
    clear hkn
    refine ⟨?_⟩
    simp only [fill]
    go_simp
    (with_reducible refine loosef_has hφ ?_; refine (kKinds_any W).mono ?_; rintro e w2 ⟨b, rfl, h1, h2⟩; exact ⟨_, rfl, h2, b, rfl, h1⟩)
  simp only [addEnt]
  apply loose_is
  · intro W vals hW hkn
    clear hkn
    have hWF := Lib.hid hW
    replace hW := KeepsF.keeps hW
    refine ⟨?_⟩
    simp only [fill]
    go_simp
    first | exact ⟨KeepsF.refl _, rfl⟩ | exact ⟨KeepsF.of (Keeps.alloc _ _), rfl⟩
  simp only [addEnt]
  apply loose_is
  · intro W vals hW hkn
    clear hkn
    have hWF := Lib.hid hW
    replace hW := KeepsF.keeps hW
    refine ⟨?_⟩
    simp only [fill]
    go_simp
    first | exact ⟨KeepsF.refl _, rfl⟩ | exact ⟨KeepsF.of (Keeps.alloc _ _), rfl⟩
  simp only [addEnt]
  apply loose_is
  · intro W vals hW hkn
    simp only [knows] at hkn
    try simp only [and_true] at hkn
    have hWF := Lib.hid hW
    replace hW := KeepsF.keeps hW
    obtain ⟨W1, h0, h1, b2, hv, hb⟩ := hkn (by decide); have hlk := (hb.fills h1).look 2 HH.out.2.1.k1 HH.out.2.1.k2 true; rw [HKV.out.1, HKV.out.2, if_pos rfl] at hlk; clear hb
    refine ⟨?_⟩
    simp only [fill]
    go_simp
    first | exact ⟨KeepsF.refl _, rfl⟩ | exact ⟨KeepsF.of (Keeps.alloc _ _), rfl⟩
  simp only [addEnt]
  apply loose_is
  · intro W vals hW hkn
    clear hkn
    have hWF := Lib.hid hW
    replace hW := KeepsF.keeps hW
    refine ⟨?_⟩
    simp only [fill]
    go_simp
    first | exact ⟨KeepsF.refl _, rfl⟩ | exact ⟨KeepsF.of (Keeps.alloc _ _), rfl⟩
  simp only [addEnt]
  apply loose_is
  · intro W vals hW hkn
    clear hkn
    have hWF := Lib.hid hW
    replace hW := KeepsF.keeps hW
    refine ⟨?_⟩
    simp only [fill]
    go_simp
    first | exact ⟨KeepsF.refl _, rfl⟩ | exact ⟨KeepsF.of (Keeps.alloc _ _), rfl⟩
  simp only [addEnt]
  apply loose_is
  · intro W vals hW hkn
    clear hkn
    have hWF := Lib.hid hW
    replace hW := KeepsF.keeps hW
    refine ⟨?_⟩
    simp only [fill]
    go_simp
    first | exact ⟨KeepsF.refl _, rfl⟩ | exact ⟨KeepsF.of (Keeps.alloc _ _), rfl⟩
  simp only [addEnt]
  refine loose_has (fun v W => ∃ b, v = .pointer (some ⟨b, 0, none⟩) ∧ W0.heap.size ≤ b ∧ (W.heap[b]? = some kO1 ∨ W.heap[b]? = some (kO2 (kFn 42) (kFn 43) (kFn 45) (kFn 47)))) (fun W vals hW hkn φ' hφ => ?_) ?_
  · simp only [knows] at hkn
    try simp only [and_true] at hkn
    have hWF := Lib.hid hW
    replace hW := KeepsF.keeps hW
    clear hkn
    refine ⟨?_⟩
    simp only [fill]
    go_simp
    exact loosef_value hφ (.of (Keeps.alloc _ _)) ⟨_, rfl, hW.size, .inl (heap_alloc_new _ _)⟩
  simp only [addEnt]
  refine loose_had [5] (fun rd _ W => ∃ b, rd = [.pointer (some ⟨b, 0, none⟩)] ∧ W.heap[b]? = some (kO2 (kFn 42) (kFn 43) (kFn 45) (kFn 47))) (by kernel_rfl) (fun W vals hW hkn φ' hφ => ?_) ?_
  · simp only [knows] at hkn
    try simp only [and_true] at hkn
    have hWF := Lib.hid hW
    replace hW := KeepsF.keeps hW
    obtain ⟨W1, h0, h1, b3, hv3, hb3, ho⟩ := hkn.1 (by decide); replace ho := h1.slot ho; obtain ⟨v1, v2, v3, v4, d1, d2, d3, d4, fr⟩ := kCell ho; have HQ := Lib.hid (kFill hb3 ho); have g0 := fr 0; have g1 := fr 1; have g2 := fr 2; have g3 := fr 3; clear fr ho
    refine ⟨?_⟩
    simp only [fill]
    go_simp
    exact ⟨HQ.out.1, hφ.out _ _ ⟨_, by simp [hv3], HQ.out.2⟩⟩
  simp only [addEnt]
  apply loose_is
  · intro W vals hW hkn
    clear hkn
    have hWF := Lib.hid hW
    replace hW := KeepsF.keeps hW
    refine ⟨?_⟩
    simp only [fill]
    go_simp
    first | exact ⟨KeepsF.refl _, rfl⟩ | exact ⟨KeepsF.of (Keeps.alloc _ _), rfl⟩
  simp only [addEnt]
  refine loose_nil (fun W vals hW hkn => ?_)
  simp only [knowsAll] at hkn
  try simp only [and_true] at hkn
  simp only [fill, Act.put, List.setIfInBounds_toArray, List.set_cons_succ, List.set_cons_zero]
  obtain ⟨⟨_, W1, h0, h1, b5, hv5, ho⟩, _⟩ := hkn
  obtain hv5 : vals 5 = .pointer (some ⟨b5, 0, none⟩) := by simpa using hv5
  rw [hv5]
  have HW := Lib.hid (And.intro hW.keeps (show Row W b5 55 #[kFn 42, kFn 43, kFn 45, kFn 47] from h1.full ho))
  clear hW h0 h1 ho hv5 M1 M2 M3 M4
  generalize vals 9 = v14
  have r1 := HW.out.2.cell 3
  have r2 := H2.out.2.1.keeps HW.out.1
  have r3 := H2.out.2.2.keeps HW.out.1
  simp at r1
  have d0 := r2.cell 0
  have d1 := r2.cell 1
  have d2 := r2.cell 2
  have d3 := r2.cell 3
  simp only [List.getElem?_toArray, List.getElem?_cons_zero, List.getElem?_cons_succ] at d0 d1 d2 d3
  have g0 := r3.cell 0
  have g1 := r3.cell 1
  have g2 := r3.cell 2
  have g3 := r3.cell 3
  simp only [List.getElem?_toArray, List.getElem?_cons_zero, List.getElem?_cons_succ] at g0 g1 g2 g3
  by_cases hkk : 2 = k2
  · subst hkk
    have HV := Lib.hid (show kCmp1 ⟨2, n, f, s⟩ ⟨2, n2, f2, s2⟩ = cmpI (kOf f : Nat) (kOf f2 : Nat) by simp [kCmp1, HKV.out.2, cmpOne])
    go_wp2_with (go_at_call 34; refine (cmpKind_any _ _ _).mono ?_; rintro e w' ⟨rfl, rfl⟩; rw [cmpI_eq])
    refine (kCmpF_any ⟨2, n, f, s⟩ ⟨2, n2, f2, s2⟩ HO.out.1 HO.out.2 W).mono ?_
    rintro e w3 ⟨rfl, hk3⟩
    have HK := Lib.hid ((H2.out.1.trans HW.out.1 (by simp)).trans hk3 (by simp))
    clear hk3
    go_wp2_with fail
    go_ret
    exact ⟨by rw [HV.out]; rfl, HK.out⟩
  · have HV := Lib.hid (show kCmp1 ⟨2, n, f, s⟩ ⟨k2, n2, f2, s2⟩ = cmpI 2 k2 by simp [kCmp1, hkk])
    have hc := cmpI_ne hkk
    have HKK := Lib.hid hkk
    clear hkk
    go_wp2_with (go_at_call 34; refine (cmpKind_any _ _ _).mono ?_; rintro e w' ⟨rfl, rfl⟩)
    go_ret
    exact ⟨by rw [HV.out]; rfl, H2.out.1.trans HW.out.1 (by simp)⟩
set_option maxRecDepth 100000 in
set_option maxHeartbeats 4000000 in
theorem kCmp_3 (n : Int) (f : Nat) (s : List UInt8) (q : KP) (hp : (⟨3, n, f, s⟩ : KP).Ok) (hq : q.Ok) (w : World) : Calls Tryd.prog 33 #[kpV ⟨3, n, f, s⟩, kpV q] w fun e w' => e = .returned (.int .i64 (kCmp1 ⟨3, n, f, s⟩ q)) ∧ Keeps w w' [] := by
  have HO := Lib.hid (And.intro hp hq)
  have HH := Lib.hid (And.intro hp (And.intro hp hp))
  obtain ⟨k2, n2, f2, s2⟩ := q
  clear hp hq
  unfold kpV strV
  have hsf := @run_store_float Tryd.prog
  go_enter Tryd.func33, Tryd.ntmps33
  go_wp2_with fail
  obtain ⟨W1, hW1⟩ : ∃ W', w.alloc (.cells #[.int .i64 3, .int .i64 n, .float .f64 f, .string ⟨s.toArray⟩] 34) = W' := ⟨_, rfl⟩
  obtain ⟨W0, hW0⟩ : ∃ W', W1.alloc (.cells #[.int .i64 k2, .int .i64 n2, .float .f64 f2, .string ⟨s2.toArray⟩] 34) = W' := ⟨_, rfl⟩
  have hk0 : Keeps w W0 [] := by rw [← hW0, ← hW1]; exact (Keeps.alloc _ _).trans (Keeps.alloc _ _) (by simp)
  have hr1 : Row W0 w.heap.size 34 #[.int .i64 3, .int .i64 n, .float .f64 f, .string ⟨s.toArray⟩] := by rw [← hW0, ← hW1]; exact (Row.new _ _ _).alloc _
  have hr2 : Row W0 (w.heap.size + 1) 34 #[.int .i64 k2, .int .i64 n2, .float .f64 f2, .string ⟨s2.toArray⟩] := by
    have := Row.new W1 34 #[.int .i64 k2, .int .i64 n2, .float .f64 f2, .string ⟨s2.toArray⟩]
    rw [hW0] at this
    rw [show w.heap.size + 1 = W1.heap.size by rw [← hW1]; simp]
    exact this
  rw [hW1, hW0]
  clear hW0 hW1
  obtain ⟨N, hN⟩ : ∃ N, w.heap.size = N := ⟨_, rfl⟩
  obtain ⟨N2, hN2⟩ : ∃ N2, N + 1 = N2 := ⟨_, rfl⟩
  rw [hN, hN2] at hr2
  rw [hN] at hr1 ⊢
  rw [hN2]
  have H2 := Lib.hid (And.intro hk0 (And.intro hr1 hr2))
  have M1 := fun (W : World) (hW : Keeps W0 W []) => (hr1.keep hW (by simp)).cell 0
  have M2 := fun (W : World) (hW : Keeps W0 W []) => (hr1.keep hW (by simp)).cell 1
  have M3 := fun (W : World) (hW : Keeps W0 W []) => (hr1.keep hW (by simp)).cell 2
  have M4 := fun (W : World) (hW : Keeps W0 W []) => (hr1.keep hW (by simp)).cell 3
  clear hN hN2 hk0 hr1 hr2
  have hkv : kOfKind 3 = .agg #[kFn 49, kFn 50, kFn 52, kFn 53] ∧ kIs 3 = true := by
    unfold kOfKind kIs
    first | exact ⟨rfl, rfl⟩ | simp [hki, kNone]
  have HKV := Lib.hid hkv
  clear hkv
  refine wp_region_fills (kO1) (kO2 (kFn 49) (kFn 50) (kFn 52) (kFn 53)) _ (by kernel_rfl) rfl (by kernel_rfl) ?_
  refine loose_has (fun v W => ∃ b, v = .map (some b) ∧ Kinds W b) (fun W vals hW hkn φ' hφ => ?_) ?_
  · simp only [knows] at hkn
    try simp only [and_true] at hkn
    have hWF := Lib.hid hW
    replace hW := KeepsF.keeps hW
    clear hkn
    refine ⟨?_⟩
    simp only [fill]
    go_simp
    (with_reducible refine loosef_has hφ ?_; refine (kKinds_any W).mono ?_; rintro e w2 ⟨b, rfl, h1, h2⟩; exact ⟨_, rfl, h2, b, rfl, h1⟩)
  simp only [addEnt]
  apply loose_is
  · intro W vals hW hkn
    clear hkn
    have hWF := Lib.hid hW
    replace hW := KeepsF.keeps hW
    refine ⟨?_⟩
    simp only [fill]
    go_simp
    first | exact ⟨KeepsF.refl _, rfl⟩ | exact ⟨KeepsF.of (Keeps.alloc _ _), rfl⟩
  simp only [addEnt]
  apply loose_is
  · intro W vals hW hkn
    clear hkn
    have hWF := Lib.hid hW
    replace hW := KeepsF.keeps hW
    refine ⟨?_⟩
    simp only [fill]
    go_simp
    first | exact ⟨KeepsF.refl _, rfl⟩ | exact ⟨KeepsF.of (Keeps.alloc _ _), rfl⟩
  simp only [addEnt]
  apply loose_is
  · intro W vals hW hkn
    simp only [knows] at hkn
    try simp only [and_true] at hkn
    have hWF := Lib.hid hW
    replace hW := KeepsF.keeps hW
    obtain ⟨W1, h0, h1, b2, hv, hb⟩ := hkn (by decide); have hlk := (hb.fills h1).look 3 HH.out.2.1.k1 HH.out.2.1.k2 true; rw [HKV.out.1, HKV.out.2, if_pos rfl] at hlk; clear hb
    refine ⟨?_⟩
    simp only [fill]
    go_simp
    first | exact ⟨KeepsF.refl _, rfl⟩ | exact ⟨KeepsF.of (Keeps.alloc _ _), rfl⟩
  simp only [addEnt]
  apply loose_is
  · intro W vals hW hkn
    clear hkn
    have hWF := Lib.hid hW
    replace hW := KeepsF.keeps hW
    refine ⟨?_⟩
    simp only [fill]
    go_simp
    first | exact ⟨KeepsF.refl _, rfl⟩ | exact ⟨KeepsF.of (Keeps.alloc _ _), rfl⟩
  simp only [addEnt]
  apply loose_is
  · intro W vals hW hkn
    clear hkn
    have hWF := Lib.hid hW
    replace hW := KeepsF.keeps hW
    refine ⟨?_⟩
    simp only [fill]
    go_simp
    first | exact ⟨KeepsF.refl _, rfl⟩ | exact ⟨KeepsF.of (Keeps.alloc _ _), rfl⟩
  simp only [addEnt]
  apply loose_is
  · intro W vals hW hkn
    clear hkn
    have hWF := Lib.hid hW
    replace hW := KeepsF.keeps hW
    refine ⟨?_⟩
    simp only [fill]
    go_simp
    first | exact ⟨KeepsF.refl _, rfl⟩ | exact ⟨KeepsF.of (Keeps.alloc _ _), rfl⟩
  simp only [addEnt]
  refine loose_has (fun v W => ∃ b, v = .pointer (some ⟨b, 0, none⟩) ∧ W0.heap.size ≤ b ∧ (W.heap[b]? = some kO1 ∨ W.heap[b]? = some (kO2 (kFn 49) (kFn 50) (kFn 52) (kFn 53)))) (fun W vals hW hkn φ' hφ => ?_) ?_
  · simp only [knows] at hkn
    try simp only [and_true] at hkn
    have hWF := Lib.hid hW
    replace hW := KeepsF.keeps hW
    clear hkn
    refine ⟨?_⟩
    simp only [fill]
    go_simp
    exact loosef_value hφ (.of (Keeps.alloc _ _)) ⟨_, rfl, hW.size, .inl (heap_alloc_new _ _)⟩
  simp only [addEnt]
  refine loose_had [5] (fun rd _ W => ∃ b, rd = [.pointer (some ⟨b, 0, none⟩)] ∧ W.heap[b]? = some (kO2 (kFn 49) (kFn 50) (kFn 52) (kFn 53))) (by kernel_rfl) (fun W vals hW hkn φ' hφ => ?_) ?_
  · simp only [knows] at hkn
    try simp only [and_true] at hkn
    have hWF := Lib.hid hW
    replace hW := KeepsF.keeps hW
    obtain ⟨W1, h0, h1, b3, hv3, hb3, ho⟩ := hkn.1 (by decide); replace ho := h1.slot ho; obtain ⟨v1, v2, v3, v4, d1, d2, d3, d4, fr⟩ := kCell ho; have HQ := Lib.hid (kFill hb3 ho); have g0 := fr 0; have g1 := fr 1; have g2 := fr 2; have g3 := fr 3; clear fr ho
    refine ⟨?_⟩
    simp only [fill]
    go_simp
    exact ⟨HQ.out.1, hφ.out _ _ ⟨_, by simp [hv3], HQ.out.2⟩⟩
  simp only [addEnt]
  apply loose_is
  · intro W vals hW hkn
    clear hkn
    have hWF := Lib.hid hW
    replace hW := KeepsF.keeps hW
    refine ⟨?_⟩
    simp only [fill]
    go_simp
    first | exact ⟨KeepsF.refl _, rfl⟩ | exact ⟨KeepsF.of (Keeps.alloc _ _), rfl⟩
  simp only [addEnt]
  refine loose_nil (fun W vals hW hkn => ?_)
  simp only [knowsAll] at hkn
  try simp only [and_true] at hkn
  simp only [fill, Act.put, List.setIfInBounds_toArray, List.set_cons_succ, List.set_cons_zero]
  obtain ⟨⟨_, W1, h0, h1, b5, hv5, ho⟩, _⟩ := hkn
  obtain hv5 : vals 5 = .pointer (some ⟨b5, 0, none⟩) := by simpa using hv5
  rw [hv5]
  have HW := Lib.hid (And.intro hW.keeps (show Row W b5 55 #[kFn 49, kFn 50, kFn 52, kFn 53] from h1.full ho))
  clear hW h0 h1 ho hv5 M1 M2 M3 M4
  generalize vals 9 = v14
  have r1 := HW.out.2.cell 3
  have r2 := H2.out.2.1.keeps HW.out.1
  have r3 := H2.out.2.2.keeps HW.out.1
  simp at r1
  have d0 := r2.cell 0
  have d1 := r2.cell 1
  have d2 := r2.cell 2
  have d3 := r2.cell 3
  simp only [List.getElem?_toArray, List.getElem?_cons_zero, List.getElem?_cons_succ] at d0 d1 d2 d3
  have g0 := r3.cell 0
  have g1 := r3.cell 1
  have g2 := r3.cell 2
  have g3 := r3.cell 3
  simp only [List.getElem?_toArray, List.getElem?_cons_zero, List.getElem?_cons_succ] at g0 g1 g2 g3
  by_cases hkk : 3 = k2
  · subst hkk
    have HV := Lib.hid (show kCmp1 ⟨3, n, f, s⟩ ⟨3, n2, f2, s2⟩ = cmpS s s2 by simp [kCmp1, HKV.out.2, cmpOne])
    go_wp2_with (go_at_call 34; refine (cmpKind_any _ _ _).mono ?_; rintro e w' ⟨rfl, rfl⟩; rw [cmpI_eq])
    refine (kCmpT_any ⟨3, n, f, s⟩ ⟨3, n2, f2, s2⟩ HO.out.1 HO.out.2 W).mono ?_
    rintro e w3 ⟨rfl, hk3⟩
    have HK := Lib.hid ((H2.out.1.trans HW.out.1 (by simp)).trans hk3 (by simp))
    clear hk3
    go_wp2_with fail
    go_ret
    exact ⟨by rw [HV.out]; rfl, HK.out⟩
  · have HV := Lib.hid (show kCmp1 ⟨3, n, f, s⟩ ⟨k2, n2, f2, s2⟩ = cmpI 3 k2 by simp [kCmp1, hkk])
    have hc := cmpI_ne hkk
    have HKK := Lib.hid hkk
    clear hkk
    go_wp2_with (go_at_call 34; refine (cmpKind_any _ _ _).mono ?_; rintro e w' ⟨rfl, rfl⟩)
    go_ret
    exact ⟨by rw [HV.out]; rfl, H2.out.1.trans HW.out.1 (by simp)⟩
set_option maxRecDepth 100000 in
set_option maxHeartbeats 4000000 in
theorem kCmp_4 (k : Int) (hki : k ≠ 1 ∧ k ≠ 2 ∧ k ≠ 3) (n : Int) (f : Nat) (s : List UInt8) (q : KP) (hp : (⟨k, n, f, s⟩ : KP).Ok) (hq : q.Ok) (w : World) : Calls Tryd.prog 33 #[kpV ⟨k, n, f, s⟩, kpV q] w fun e w' => e = .returned (.int .i64 (kCmp1 ⟨k, n, f, s⟩ q)) ∧ Keeps w w' [] := by
  have HO := Lib.hid (And.intro hp hq)
  have HH := Lib.hid (And.intro hp (And.intro hp hp))
  obtain ⟨k2, n2, f2, s2⟩ := q
  clear hp hq
  unfold kpV strV
  have hsf := @run_store_float Tryd.prog
  go_enter Tryd.func33, Tryd.ntmps33
  go_wp2_with fail
  obtain ⟨W1, hW1⟩ : ∃ W', w.alloc (.cells #[.int .i64 k, .int .i64 n, .float .f64 f, .string ⟨s.toArray⟩] 34) = W' := ⟨_, rfl⟩
  obtain ⟨W0, hW0⟩ : ∃ W', W1.alloc (.cells #[.int .i64 k2, .int .i64 n2, .float .f64 f2, .string ⟨s2.toArray⟩] 34) = W' := ⟨_, rfl⟩
  have hk0 : Keeps w W0 [] := by rw [← hW0, ← hW1]; exact (Keeps.alloc _ _).trans (Keeps.alloc _ _) (by simp)
  have hr1 : Row W0 w.heap.size 34 #[.int .i64 k, .int .i64 n, .float .f64 f, .string ⟨s.toArray⟩] := by rw [← hW0, ← hW1]; exact (Row.new _ _ _).alloc _
  have hr2 : Row W0 (w.heap.size + 1) 34 #[.int .i64 k2, .int .i64 n2, .float .f64 f2, .string ⟨s2.toArray⟩] := by
    have := Row.new W1 34 #[.int .i64 k2, .int .i64 n2, .float .f64 f2, .string ⟨s2.toArray⟩]
    rw [hW0] at this
    rw [show w.heap.size + 1 = W1.heap.size by rw [← hW1]; simp]
    exact this
  rw [hW1, hW0]
  clear hW0 hW1
  obtain ⟨N, hN⟩ : ∃ N, w.heap.size = N := ⟨_, rfl⟩
  obtain ⟨N2, hN2⟩ : ∃ N2, N + 1 = N2 := ⟨_, rfl⟩
  rw [hN, hN2] at hr2
  rw [hN] at hr1 ⊢
  rw [hN2]
  have H2 := Lib.hid (And.intro hk0 (And.intro hr1 hr2))
  have M1 := fun (W : World) (hW : Keeps W0 W []) => (hr1.keep hW (by simp)).cell 0
  have M2 := fun (W : World) (hW : Keeps W0 W []) => (hr1.keep hW (by simp)).cell 1
  have M3 := fun (W : World) (hW : Keeps W0 W []) => (hr1.keep hW (by simp)).cell 2
  have M4 := fun (W : World) (hW : Keeps W0 W []) => (hr1.keep hW (by simp)).cell 3
  clear hN hN2 hk0 hr1 hr2
  have hkv : kOfKind k = .agg #[.nilFunc, .nilFunc, .nilFunc, .nilFunc] ∧ kIs k = false := by
    unfold kOfKind kIs
    first | exact ⟨rfl, rfl⟩ | simp [hki, kNone]
  have HKV := Lib.hid hkv
  clear hkv
  refine wp_region_fills (kO1) (kO2 (.nilFunc) (.nilFunc) (.nilFunc) (.nilFunc)) _ (by kernel_rfl) rfl (by kernel_rfl) ?_
  refine loose_has (fun v W => ∃ b, v = .map (some b) ∧ Kinds W b) (fun W vals hW hkn φ' hφ => ?_) ?_
  · simp only [knows] at hkn
    try simp only [and_true] at hkn
    have hWF := Lib.hid hW
    replace hW := KeepsF.keeps hW
    clear hkn
    refine ⟨?_⟩
    simp only [fill]
    go_simp
    (with_reducible refine loosef_has hφ ?_; refine (kKinds_any W).mono ?_; rintro e w2 ⟨b, rfl, h1, h2⟩; exact ⟨_, rfl, h2, b, rfl, h1⟩)
  simp only [addEnt]
  apply loose_is
  · intro W vals hW hkn
    clear hkn
    have hWF := Lib.hid hW
    replace hW := KeepsF.keeps hW
    refine ⟨?_⟩
    simp only [fill]
    go_simp
    first | exact ⟨KeepsF.refl _, rfl⟩ | exact ⟨KeepsF.of (Keeps.alloc _ _), rfl⟩
  simp only [addEnt]
  apply loose_is
  · intro W vals hW hkn
    clear hkn
    have hWF := Lib.hid hW
    replace hW := KeepsF.keeps hW
    refine ⟨?_⟩
    simp only [fill]
    go_simp
    first | exact ⟨KeepsF.refl _, rfl⟩ | exact ⟨KeepsF.of (Keeps.alloc _ _), rfl⟩
  simp only [addEnt]
  apply loose_is
  · intro W vals hW hkn
    simp only [knows] at hkn
    try simp only [and_true] at hkn
    have hWF := Lib.hid hW
    replace hW := KeepsF.keeps hW
    obtain ⟨W1, h0, h1, b2, hv, hb⟩ := hkn (by decide); have hlk := (hb.fills h1).look k HH.out.2.1.k1 HH.out.2.1.k2 true; rw [HKV.out.1, HKV.out.2, if_pos rfl] at hlk; clear hb
    refine ⟨?_⟩
    simp only [fill]
    go_simp
    first | exact ⟨KeepsF.refl _, rfl⟩ | exact ⟨KeepsF.of (Keeps.alloc _ _), rfl⟩
  simp only [addEnt]
  apply loose_is
  · intro W vals hW hkn
    clear hkn
    have hWF := Lib.hid hW
    replace hW := KeepsF.keeps hW
    refine ⟨?_⟩
    simp only [fill]
    go_simp
    first | exact ⟨KeepsF.refl _, rfl⟩ | exact ⟨KeepsF.of (Keeps.alloc _ _), rfl⟩
  simp only [addEnt]
  apply loose_is
  · intro W vals hW hkn
    clear hkn
    have hWF := Lib.hid hW
    replace hW := KeepsF.keeps hW
    refine ⟨?_⟩
    simp only [fill]
    go_simp
    first | exact ⟨KeepsF.refl _, rfl⟩ | exact ⟨KeepsF.of (Keeps.alloc _ _), rfl⟩
  simp only [addEnt]
  apply loose_is
  · intro W vals hW hkn
    clear hkn
    have hWF := Lib.hid hW
    replace hW := KeepsF.keeps hW
    refine ⟨?_⟩
    simp only [fill]
    go_simp
    first | exact ⟨KeepsF.refl _, rfl⟩ | exact ⟨KeepsF.of (Keeps.alloc _ _), rfl⟩
  simp only [addEnt]
  refine loose_has (fun v W => ∃ b, v = .pointer (some ⟨b, 0, none⟩) ∧ W0.heap.size ≤ b ∧ (W.heap[b]? = some kO1 ∨ W.heap[b]? = some (kO2 (.nilFunc) (.nilFunc) (.nilFunc) (.nilFunc)))) (fun W vals hW hkn φ' hφ => ?_) ?_
  · simp only [knows] at hkn
    try simp only [and_true] at hkn
    have hWF := Lib.hid hW
    replace hW := KeepsF.keeps hW
    clear hkn
    refine ⟨?_⟩
    simp only [fill]
    go_simp
    exact loosef_value hφ (.of (Keeps.alloc _ _)) ⟨_, rfl, hW.size, .inl (heap_alloc_new _ _)⟩
  simp only [addEnt]
  refine loose_had [5] (fun rd _ W => ∃ b, rd = [.pointer (some ⟨b, 0, none⟩)] ∧ W.heap[b]? = some (kO2 (.nilFunc) (.nilFunc) (.nilFunc) (.nilFunc))) (by kernel_rfl) (fun W vals hW hkn φ' hφ => ?_) ?_
  · simp only [knows] at hkn
    try simp only [and_true] at hkn
    have hWF := Lib.hid hW
    replace hW := KeepsF.keeps hW
    obtain ⟨W1, h0, h1, b3, hv3, hb3, ho⟩ := hkn.1 (by decide); replace ho := h1.slot ho; obtain ⟨v1, v2, v3, v4, d1, d2, d3, d4, fr⟩ := kCell ho; have HQ := Lib.hid (kFill hb3 ho); have g0 := fr 0; have g1 := fr 1; have g2 := fr 2; have g3 := fr 3; clear fr ho
    refine ⟨?_⟩
    simp only [fill]
    go_simp
    exact ⟨HQ.out.1, hφ.out _ _ ⟨_, by simp [hv3], HQ.out.2⟩⟩
  simp only [addEnt]
  apply loose_is
  · intro W vals hW hkn
    clear hkn
    have hWF := Lib.hid hW
    replace hW := KeepsF.keeps hW
    refine ⟨?_⟩
    simp only [fill]
    go_simp
    first | exact ⟨KeepsF.refl _, rfl⟩ | exact ⟨KeepsF.of (Keeps.alloc _ _), rfl⟩
  simp only [addEnt]
  refine loose_nil (fun W vals hW hkn => ?_)
  simp only [knowsAll] at hkn
  try simp only [and_true] at hkn
  simp only [fill, Act.put, List.setIfInBounds_toArray, List.set_cons_succ, List.set_cons_zero]
  obtain ⟨⟨_, W1, h0, h1, b5, hv5, ho⟩, _⟩ := hkn
  obtain hv5 : vals 5 = .pointer (some ⟨b5, 0, none⟩) := by simpa using hv5
  rw [hv5]
  have HW := Lib.hid (And.intro hW.keeps (show Row W b5 55 #[.nilFunc, .nilFunc, .nilFunc, .nilFunc] from h1.full ho))
  clear hW h0 h1 ho hv5 M1 M2 M3 M4
  generalize vals 9 = v14
  have r2 := H2.out.2.1.keeps HW.out.1
  have r3 := H2.out.2.2.keeps HW.out.1
  have d0 := r2.cell 0
  have d1 := r2.cell 1
  have d2 := r2.cell 2
  have d3 := r2.cell 3
  simp only [List.getElem?_toArray, List.getElem?_cons_zero, List.getElem?_cons_succ] at d0 d1 d2 d3
  have g0 := r3.cell 0
  have g1 := r3.cell 1
  have g2 := r3.cell 2
  have g3 := r3.cell 3
  simp only [List.getElem?_toArray, List.getElem?_cons_zero, List.getElem?_cons_succ] at g0 g1 g2 g3
  have HV := Lib.hid (show kCmp1 ⟨k, n, f, s⟩ ⟨k2, n2, f2, s2⟩ = cmpI k k2 by
    by_cases h : k = k2
    · subst h; simp [kCmp1, HKV.out.2, cmpI_eq]
    · simp [kCmp1, h])
  clear hki
  by_cases hc : (cmpI k k2 != 0) = true
  · go_wp2_with (go_at_call 34; refine (cmpKind_any _ _ _).mono ?_; rintro e w' ⟨rfl, rfl⟩)
    go_ret
    exact ⟨by rw [HV.out]; rfl, H2.out.1.trans HW.out.1 (by simp)⟩
  · have hc := eq_false_of_ne_true hc
    go_wp2_with (go_at_call 34; refine (cmpKind_any _ _ _).mono ?_; rintro e w' ⟨rfl, rfl⟩)
    go_ret
    exact ⟨by rw [HV.out]; rfl, H2.out.1.trans HW.out.1 (by simp)⟩
theorem kCmp_any (p q : KP) (hp : p.Ok) (hq : q.Ok) (w : World) : Calls Tryd.prog 33 #[kpV p, kpV q] w fun e w' => e = .returned (.int .i64 (kCmp1 p q)) ∧ Keeps w w' [] := by
  obtain ⟨k, n, f, s⟩ := p
  rcases kind_cases k with rfl | rfl | rfl | hki
  · exact kCmp_1 n f s q hp hq w
  · exact kCmp_2 n f s q hp hq w
  · exact kCmp_3 n f s q hp hq w
  · exact kCmp_4 k hki n f s q hp hq w
end Go.Proofs.YtckmlmedhchpaaaDoor

namespace Go.Proofs.YtckmlmedhchpaaaDoor
open Go.RowKit

/-- How two lists of parts stand. -/
def kCmp : List KP → List KP → Int
  | p :: a, q :: b => if kCmp1 p q = 0 then kCmp a b else kCmp1 p q
  | a, b => cmpI a.length b.length
theorem kCmp_step {a b : List KP} {j : Nat} (ha : j < a.length) (hb : j < b.length) : kCmp (a.drop j) (b.drop j) = if kCmp1 a[j] b[j] = 0 then kCmp (a.drop (j + 1)) (b.drop (j + 1)) else kCmp1 a[j] b[j] := by
  rw [List.drop_eq_getElem_cons ha, List.drop_eq_getElem_cons hb]
  rfl
theorem kCmp_end {a b : List KP} {j : Nat} (h : j ≤ a.length) (h' : j ≤ b.length) (hj : ¬ (j < a.length ∧ j < b.length)) : kCmp (a.drop j) (b.drop j) = cmpI a.length b.length := by
  have h1 : kCmp (a.drop j) (b.drop j) = cmpI (a.drop j).length (b.drop j).length := by
    rcases Nat.lt_or_ge j a.length with h1 | h1
    · have : b.drop j = [] := List.drop_eq_nil_of_le (by omega)
      rw [this]
      cases a.drop j <;> rfl
    · have : a.drop j = [] := List.drop_eq_nil_of_le (by omega)
      rw [this]
      rfl
  rw [h1, List.length_drop, List.length_drop]
  unfold cmpI
  split <;> split <;> first | rfl | omega | (split <;> first | rfl | omega)

set_option maxRecDepth 100000 in
set_option maxHeartbeats 4000000 in
theorem kUnlike_any (w : World) (A B : Option Addr) (ca cb : Nat) (a b : List KP) (hoa : ∀ p ∈ a, p.Ok) (hob : ∀ p ∈ b, p.Ok) (hA : Lies w w.heap.size A (kFlat a)) (hB : Lies w w.heap.size B (kFlat b))
    (hla : a.length ≤ 1000000) (_ : b.length ≤ 1000000) :
    Calls Tryd.prog 32 #[.slice A a.length ca, .slice B b.length cb, .func (.func 33) #[] #[]] w fun e w' => e = .returned (.int .i64 (kCmp a b)) ∧ Keeps w w' [] := by
  go_enter Tryd.func32, Tryd.ntmps32
  go_wp2_with fail
  obtain ⟨m, hm⟩ : ∃ m : Nat, m = min a.length b.length := ⟨_, rfl⟩
  rw [show min (a.length : Int) (b.length : Int) = (m : Int) by omega]
  have HM := Lib.hid hm
  clear hm
  go_loopw [14] (fun i wr => ∃ j : Nat, j ≤ m ∧ i = .int .i64 j ∧ Hid (kCmp a b = kCmp (a.drop j) (b.drop j)) ∧ Keeps w wr []) (fun i _ => m - (intOf i).toNat)
  case atStart => exact ⟨0, by omega, rfl, Lib.hid rfl, Keeps.refl _ _⟩
  case round =>
    obtain ⟨j, hj, rfl, HE, hkp⟩ := hrel
    by_cases hjm : j < m
    · have hja : j < a.length := by have := HM.out; omega
      have hjb : j < b.length := by have := HM.out; omega
      obtain ⟨b1, o1, rfl, hb1, hc1⟩ := kpAt hA (Nat.le_refl _) hja
      obtain ⟨b2, o2, rfl, hb2, hc2⟩ := kpAt hB (Nat.le_refl _) hjb
      have hp := hoa a[j] (List.getElem_mem _)
      have hq := hob b[j] (List.getElem_mem _)
      have HS := Lib.hid (kCmp_step hja hjb)
      obtain ⟨p, hpd⟩ : ∃ p, p = a[j] := ⟨_, rfl⟩
      obtain ⟨q, hqd⟩ : ∃ q, q = b[j] := ⟨_, rfl⟩
      rw [← hpd, ← hqd] at HS
      rw [← hpd] at hc1 hp
      rw [← hqd] at hc2 hq
      have HH := Lib.hid (And.intro hc1 (And.intro hc2 (And.intro hp (And.intro hq hkp))))
      clear hpd hqd hc1 hc2 hp hq hkp hoa hob hA hB
      go_wp2_with fail
      obtain ⟨k, n, f, s⟩ := p
      obtain ⟨k2, n2, f2, s2⟩ := q
      have M1 := fun (W : World) (hW : Keeps wr W []) => (HH.out.1 W (HH.out.2.2.2.2.trans hW (by simp))).1
      have M2 := fun (W : World) (hW : Keeps wr W []) => (HH.out.1 W (HH.out.2.2.2.2.trans hW (by simp))).2.1
      have M3 := fun (W : World) (hW : Keeps wr W []) => (HH.out.1 W (HH.out.2.2.2.2.trans hW (by simp))).2.2.1
      have M4 := fun (W : World) (hW : Keeps wr W []) => (HH.out.1 W (HH.out.2.2.2.2.trans hW (by simp))).2.2.2
      have L1 := fun (W : World) (hW : Keeps wr W []) => (HH.out.2.1 W (HH.out.2.2.2.2.trans hW (by simp))).1
      have L2 := fun (W : World) (hW : Keeps wr W []) => (HH.out.2.1 W (HH.out.2.2.2.2.trans hW (by simp))).2.1
      have L3 := fun (W : World) (hW : Keeps wr W []) => (HH.out.2.1 W (HH.out.2.2.2.2.trans hW (by simp))).2.2.1
      have L4 := fun (W : World) (hW : Keeps wr W []) => (HH.out.2.1 W (HH.out.2.2.2.2.trans hW (by simp))).2.2.2
      simp only [strV] at M4 L4
      refine wp_region_keeps _ (by kernel_rfl) rfl (by kernel_rfl) ?_
      apply loose_is
      · intro W vals hW hkn
        clear hkn
        refine ⟨?_⟩
        simp only [fill]
        go_simp
        first | exact ⟨Keeps.refl _ _, rfl⟩ | exact ⟨Keeps.alloc _ _, rfl⟩
      simp only [addEnt]
      apply loose_is
      · intro W vals hW hkn
        clear hkn
        refine ⟨?_⟩
        simp only [fill]
        go_simp
        first | exact ⟨Keeps.refl _ _, rfl⟩ | exact ⟨Keeps.alloc _ _, rfl⟩
      simp only [addEnt]
      apply loose_is
      · intro W vals hW hkn
        clear hkn
        refine ⟨?_⟩
        simp only [fill]
        go_simp
        first | exact ⟨Keeps.refl _ _, rfl⟩ | exact ⟨Keeps.alloc _ _, rfl⟩
      simp only [addEnt]
      apply loose_is
      · intro W vals hW hkn
        clear hkn
        refine ⟨?_⟩
        simp only [fill]
        go_simp
        first | exact ⟨Keeps.refl _ _, rfl⟩ | exact ⟨Keeps.alloc _ _, rfl⟩
      simp only [addEnt]
      apply loose_is
      · intro W vals hW hkn
        clear hkn
        refine ⟨?_⟩
        simp only [fill]
        go_simp
        first | exact ⟨Keeps.refl _ _, rfl⟩ | exact ⟨Keeps.alloc _ _, rfl⟩
      simp only [addEnt]
      apply loose_is
      · intro W vals hW hkn
        clear hkn
        refine ⟨?_⟩
        simp only [fill]
        go_simp
        first | exact ⟨Keeps.refl _ _, rfl⟩ | exact ⟨Keeps.alloc _ _, rfl⟩
      simp only [addEnt]
      apply loose_is
      · intro W vals hW hkn
        clear hkn
        refine ⟨?_⟩
        simp only [fill]
        go_simp
        first | exact ⟨Keeps.refl _ _, rfl⟩ | exact ⟨Keeps.alloc _ _, rfl⟩
      simp only [addEnt]
      apply loose_is
      · intro W vals hW hkn
        clear hkn
        refine ⟨?_⟩
        simp only [fill]
        go_simp
        first | exact ⟨Keeps.refl _ _, rfl⟩ | exact ⟨Keeps.alloc _ _, rfl⟩
      simp only [addEnt]
      apply loose_is
      · intro W vals hW hkn
        clear hkn
        refine ⟨?_⟩
        simp only [fill]
        go_simp
        first | exact ⟨Keeps.refl _ _, rfl⟩ | exact ⟨Keeps.alloc _ _, rfl⟩
      simp only [addEnt]
      apply loose_is
      · intro W vals hW hkn
        clear hkn
        refine ⟨?_⟩
        simp only [fill]
        go_simp
        refine looseUpon_calls ?_
        exact (kCmp_any ⟨k, n, f, s⟩ ⟨k2, n2, f2, s2⟩ HH.out.2.2.1 HH.out.2.2.2.1 W).mono (by rintro e w3 ⟨rfl, hk3⟩; exact ⟨_, rfl, hk3, rfl⟩)
      simp only [addEnt]
      apply loose_is
      · intro W vals hW hkn
        clear hkn
        refine ⟨?_⟩
        simp only [fill]
        go_simp
        first | exact ⟨Keeps.refl _ _, rfl⟩ | exact ⟨Keeps.alloc _ _, rfl⟩
      simp only [addEnt]
      refine loose_nil (fun W vals hW hkn => ?_)
      simp only [knowsAll] at hkn
      try simp only [and_true] at hkn
      simp only [fill, Act.put, List.setIfInBounds_toArray, List.set_cons_succ, List.set_cons_zero]
      have HK := Lib.hid (HH.out.2.2.2.2.trans hW (by simp))
      clear hW hkn M1 M2 M3 M4 L1 L2 L3 L4
      obtain ⟨c, hc⟩ : ∃ c, kCmp1 ⟨k, n, f, s⟩ ⟨k2, n2, f2, s2⟩ = c := ⟨_, rfl⟩
      rw [hc] at HS ⊢
      clear hc
      by_cases hc0 : c = 0
      · subst hc0
        rw [if_pos rfl] at HS
        go_wp2_with fail
        exact ⟨⟨j + 1, by omega, by go_num, Lib.hid (HE.out.trans HS.out), HK.out⟩, by simp [intOf]; omega⟩
      · rw [if_neg hc0] at HS
        have hc1 : (c != 0) = true := by simp [hc0]
        have HC := Lib.hid hc0
        clear hc0
        go_wp2_with fail
        go_ret
        exact ⟨by rw [HE.out, HS.out]; rfl, HK.out⟩
    · have HR := Lib.hid (show kCmp a b = cmpI a.length b.length by
        rw [HE.out]
        have := HM.out
        exact kCmp_end (by omega) (by omega) (by omega))
      have HK := Lib.hid hkp
      clear hkp hoa hob hA hB HE
      go_wp2_with (go_at_call 58; refine (cmpInt_any _ _ _).mono ?_; rintro e w' ⟨rfl, rfl⟩)
      go_ret
      exact ⟨by rw [HR.out]; rfl, HK.out⟩

set_option maxRecDepth 100000 in
set_option maxHeartbeats 1000000 in
theorem kCompare_any (w : World) (A B : Option Addr) (ca cb : Nat) (a b : List KP) (hoa : ∀ p ∈ a, p.Ok) (hob : ∀ p ∈ b, p.Ok) (hA : Lies w w.heap.size A (kFlat a)) (hB : Lies w w.heap.size B (kFlat b))
    (hla : a.length ≤ 1000000) (hlb : b.length ≤ 1000000) :
    Calls Tryd.prog 22 #[.slice A a.length ca, .slice B b.length cb] w fun e w' => e = .returned (.int .i64 (kCmp a b)) ∧ Keeps w w' [] := by
  have HC := Lib.hid (kUnlike_any w A B ca cb a b hoa hob hA hB hla hlb)
  clear hoa hob hA hB hla hlb
  go_enter Tryd.func22, Tryd.ntmps22
  go_wp2_with fail
  refine HC.out.mono ?_
  rintro e w1 ⟨rfl, hk⟩
  have H1 := Lib.hid hk
  clear hk
  go_wp2_with fail
  go_ret
  exact ⟨rfl, H1.out⟩
end Go.Proofs.YtckmlmedhchpaaaDoor
