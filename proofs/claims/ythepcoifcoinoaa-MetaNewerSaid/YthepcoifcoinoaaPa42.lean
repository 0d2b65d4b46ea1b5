/- The statement MetaNewer (layer 6): its walks. The statement MetaNewer (layer 6): the walk where both metas may be. -/
import Derived.Test.YthepcoifcoinoaaPa35

namespace Go.Proofs.Ythepcoifcoinoaa
open Go.RowKit

/-- Two boxes of metas, laid. -/
theorem two_metas (w : World) (c1 c2 : Array Value) :
    ∃ W, W = (w.alloc (.cells c1 49)).alloc (.cells c2 49) ∧ Row W w.heap.size 49 c1 ∧ Row W (w.heap.size + 1) 49 c2 ∧ Keeps w W [] := by
  refine ⟨_, rfl, (Row.new _ _ _).alloc _, ?_, (Keeps.alloc _ _).then_alloc _⟩
  have := Row.new (w.alloc (.cells c1 49)) 49 c2
  rwa [World.size_alloc] at this
theorem swap_put {W : World} {N : Nat} {a0 a1 a2 a3 b0 b1 b2 b3 : Value} (h1 : Row W N 49 #[a0, a1, a2, a3]) (h2 : Row W (N + 1) 49 #[b0, b1, b2, b3]) :
    ∃ W', W' = (((((((W.setCell ⟨N, 0, none⟩ b0).setCell ⟨N, 1, none⟩ b1).setCell ⟨N, 2, none⟩ b2).setCell ⟨N, 3, none⟩ b3).setCell ⟨N + 1, 0, none⟩ a0).setCell ⟨N + 1, 1, none⟩ a1).setCell ⟨N + 1, 2, none⟩ a2).setCell ⟨N + 1, 3, none⟩ a3 ∧
      Row W' N 49 #[b0, b1, b2, b3] ∧ Row W' (N + 1) 49 #[a0, a1, a2, a3] ∧ Keeps W W' [N, N + 1] := by
  obtain ⟨p1, k1⟩ := meta_put h1 b0 b1 b2 b3
  have p2 := row_far4 h2 (b := N) (by omega) b0 b1 b2 b3
  obtain ⟨q2, k2⟩ := meta_put p2 a0 a1 a2 a3
  have q1 := row_far4 p1 (b := N + 1) (by omega) a0 a1 a2 a3
  exact ⟨_, rfl, q1, q2, (k1.weaken (T := [N, N + 1]) (by simp)).trans k2 (by simp)⟩
theorem whereOf_bit (t : Int) : whereOf t = 0 ∨ whereOf t = 1 := by unfold whereOf; split <;> omega

set_option maxRecDepth 100000 in
set_option maxHeartbeats 4000000 in
theorem metaNewer_no1 (w : World) (t r f h t' r' f' h' : Int) (hok : metaOk t r f h = false) :
    Calls Try.prog 11 #[.agg #[.int .i64 t, .int .i64 r, .int .i64 f, .int .i64 h], .agg #[.int .i64 t', .int .i64 r', .int .i64 f', .int .i64 h']] w fun e w' => e = .returned (.bool true) ∧ Keeps w w' [] := by
  have HO := Lib.hid hok
  clear hok
  go_enter Try.func11, Try.ntmps11
  go_wp2_with fail
  obtain ⟨W, hW, q0, q1, k0⟩ := two_metas w #[.int .i64 t, .int .i64 r, .int .i64 f, .int .i64 h] #[.int .i64 t', .int .i64 r', .int .i64 f', .int .i64 h']
  rw [← hW]
  clear hW
  have H0 := Lib.hid (And.intro q0 (And.intro q1 k0))
  clear q0 q1 k0
  refine (mRaw_no t r f h W HO.out).mono ?_
  rintro e w1 ⟨rfl, hk1⟩
  have r1 := H0.out.2.1.keeps hk1
  have H1 := Lib.hid (H0.out.2.2.then_ hk1)
  have c0 := r1.cell 0
  have c1 := r1.cell 1
  have c2 := r1.cell 2
  have c3 := r1.cell 3
  simp only [List.getElem?_toArray, List.getElem?_cons_zero, List.getElem?_cons_succ] at c0 c1 c2 c3
  clear hk1 r1
  go_wp2_with fail
  cases hok' : metaOk t' r' f' h'
  · refine (mRaw_no t' r' f' h' w1 hok').mono ?_
    rintro e w2 ⟨rfl, hk2⟩
    have H2 := Lib.hid (H1.out.then_ hk2)
    clear hk2 hok' c0 c1 c2 c3
    go_wp2_with fail
    refine wp_region_keeps _ (by kernel_rfl) rfl (by kernel_rfl) ?_
    apply loose_is
    · intro W vals hW hkn
      clear hkn
      refine ⟨?_⟩
      simp only [fill]
      go_simp
      first | exact ⟨Keeps.refl _ _, rfl⟩ | exact ⟨Keeps.alloc _ _, rfl⟩
    simp only [addEnt]
    apply loose_is
    · intro W vals hW hkn
      clear hkn
      refine ⟨?_⟩
      simp only [fill]
      go_simp
      first | exact ⟨Keeps.refl _ _, rfl⟩ | exact ⟨Keeps.alloc _ _, rfl⟩
    simp only [addEnt]
    apply loose_is
    · intro W vals hW hkn
      clear hkn
      refine ⟨?_⟩
      simp only [fill]
      go_simp
      first | exact ⟨Keeps.refl _ _, rfl⟩ | exact ⟨Keeps.alloc _ _, rfl⟩
    simp only [addEnt]
    refine loose_off (fun vals => by kernel_rfl) ?_
    simp only [addEnt]
    refine loose_off (fun vals => by kernel_rfl) ?_
    simp only [addEnt]
    apply loose_is
    · intro W vals hW hkn
      clear hkn
      refine ⟨?_⟩
      simp only [fill]
      go_simp
      first | exact ⟨Keeps.refl _ _, rfl⟩ | exact ⟨Keeps.alloc _ _, rfl⟩
    simp only [addEnt]
    apply loose_is
    · intro W vals hW hkn
      clear hkn
      refine ⟨?_⟩
      simp only [fill]
      go_simp
      first | exact ⟨Keeps.refl _ _, rfl⟩ | exact ⟨Keeps.alloc _ _, rfl⟩
    simp only [addEnt]
    refine loose_off (fun vals => by kernel_rfl) ?_
    simp only [addEnt]
    refine loose_off (fun vals => by kernel_rfl) ?_
    simp only [addEnt]
    refine loose_off (fun vals => by kernel_rfl) ?_
    simp only [addEnt]
    refine loose_off (fun vals => by kernel_rfl) ?_
    simp only [addEnt]
    refine loose_off (fun vals => by kernel_rfl) ?_
    simp only [addEnt]
    refine loose_off (fun vals => by kernel_rfl) ?_
    simp only [addEnt]
    refine loose_off (fun vals => by kernel_rfl) ?_
    simp only [addEnt]
    apply loose_is
    · intro W vals hW hkn
      clear hkn
      refine ⟨?_⟩
      simp only [fill]
      go_simp
      first | exact ⟨Keeps.refl _ _, rfl⟩ | exact ⟨Keeps.alloc _ _, rfl⟩
    simp only [addEnt]
    refine loose_nil (fun W vals hW hkn => ?_)
    simp only [knowsAll] at hkn
    try simp only [and_true] at hkn
    simp only [fill, Act.put, List.setIfInBounds_toArray, List.set_cons_succ, List.set_cons_zero]
    have H3 := Lib.hid (H2.out.then_ hW)
    clear hW hkn
    go_wp2_with fail
    refine (known6_any _).mono ?_
    rintro e w5 ⟨rfl, hk5⟩
    have H5 := Lib.hid (H3.out.then_ hk5)
    clear hk5
    go_wp2
    go_ret
    exact ⟨rfl, H5.out⟩
  · refine (mRaw_yes t' r' f' h' w1 hok').mono ?_
    rintro e w2 ⟨b2, o2, cc2, rfl, _, hk2⟩
    have H2 := Lib.hid (H1.out.then_ hk2)
    clear hk2 hok' c0 c1 c2 c3
    go_wp2_with fail
    refine wp_region_keeps _ (by kernel_rfl) rfl (by kernel_rfl) ?_
    apply loose_is
    · intro W vals hW hkn
      clear hkn
      refine ⟨?_⟩
      simp only [fill]
      go_simp
      first | exact ⟨Keeps.refl _ _, rfl⟩ | exact ⟨Keeps.alloc _ _, rfl⟩
    simp only [addEnt]
    apply loose_is
    · intro W vals hW hkn
      clear hkn
      refine ⟨?_⟩
      simp only [fill]
      go_simp
      first | exact ⟨Keeps.refl _ _, rfl⟩ | exact ⟨Keeps.alloc _ _, rfl⟩
    simp only [addEnt]
    apply loose_is
    · intro W vals hW hkn
      clear hkn
      refine ⟨?_⟩
      simp only [fill]
      go_simp
      first | exact ⟨Keeps.refl _ _, rfl⟩ | exact ⟨Keeps.alloc _ _, rfl⟩
    simp only [addEnt]
    refine loose_off (fun vals => by kernel_rfl) ?_
    simp only [addEnt]
    refine loose_off (fun vals => by kernel_rfl) ?_
    simp only [addEnt]
    apply loose_is
    · intro W vals hW hkn
      clear hkn
      refine ⟨?_⟩
      simp only [fill]
      go_simp
      first | exact ⟨Keeps.refl _ _, rfl⟩ | exact ⟨Keeps.alloc _ _, rfl⟩
    simp only [addEnt]
    apply loose_is
    · intro W vals hW hkn
      clear hkn
      refine ⟨?_⟩
      simp only [fill]
      go_simp
      first | exact ⟨Keeps.refl _ _, rfl⟩ | exact ⟨Keeps.alloc _ _, rfl⟩
    simp only [addEnt]
    refine loose_off (fun vals => by kernel_rfl) ?_
    simp only [addEnt]
    refine loose_off (fun vals => by kernel_rfl) ?_
    simp only [addEnt]
    refine loose_off (fun vals => by kernel_rfl) ?_
    simp only [addEnt]
    refine loose_off (fun vals => by kernel_rfl) ?_
    simp only [addEnt]
    refine loose_off (fun vals => by kernel_rfl) ?_
    simp only [addEnt]
    refine loose_off (fun vals => by kernel_rfl) ?_
    simp only [addEnt]
    refine loose_off (fun vals => by kernel_rfl) ?_
    simp only [addEnt]
    apply loose_is
    · intro W vals hW hkn
      clear hkn
      refine ⟨?_⟩
      simp only [fill]
      go_simp
      first | exact ⟨Keeps.refl _ _, rfl⟩ | exact ⟨Keeps.alloc _ _, rfl⟩
    simp only [addEnt]
    refine loose_nil (fun W vals hW hkn => ?_)
    simp only [knowsAll] at hkn
    try simp only [and_true] at hkn
    simp only [fill, Act.put, List.setIfInBounds_toArray, List.set_cons_succ, List.set_cons_zero]
    have H3 := Lib.hid (H2.out.then_ hW)
    clear hW hkn
    go_wp2_with fail
    refine (known6_any _).mono ?_
    rintro e w5 ⟨rfl, hk5⟩
    have H5 := Lib.hid (H3.out.then_ hk5)
    clear hk5
    go_wp2
    go_ret
    exact ⟨rfl, H5.out⟩

set_option maxRecDepth 100000 in
set_option maxHeartbeats 4000000 in
theorem metaNewer_no2 (w : World) (t r f h t' r' f' h' : Int) (hok : metaOk t r f h = true) (hok' : metaOk t' r' f' h' = false) :
    Calls Try.prog 11 #[.agg #[.int .i64 t, .int .i64 r, .int .i64 f, .int .i64 h], .agg #[.int .i64 t', .int .i64 r', .int .i64 f', .int .i64 h']] w fun e w' => e = .returned (.bool true) ∧ Keeps w w' [] := by
  have HO := Lib.hid (And.intro hok hok')
  clear hok hok'
  go_enter Try.func11, Try.ntmps11
  go_wp2_with fail
  obtain ⟨W, hW, q0, q1, k0⟩ := two_metas w #[.int .i64 t, .int .i64 r, .int .i64 f, .int .i64 h] #[.int .i64 t', .int .i64 r', .int .i64 f', .int .i64 h']
  rw [← hW]
  clear hW
  have H0 := Lib.hid (And.intro q0 (And.intro q1 k0))
  clear q0 q1 k0
  refine (mRaw_yes t r f h W HO.out.1).mono ?_
  rintro e w1 ⟨b1, o1, cc1, rfl, _, hk1⟩
  have r1 := H0.out.2.1.keeps hk1
  have H1 := Lib.hid (H0.out.2.2.then_ hk1)
  have c0 := r1.cell 0
  have c1 := r1.cell 1
  have c2 := r1.cell 2
  have c3 := r1.cell 3
  simp only [List.getElem?_toArray, List.getElem?_cons_zero, List.getElem?_cons_succ] at c0 c1 c2 c3
  clear hk1 r1
  go_wp2_with fail
  refine (mRaw_no t' r' f' h' w1 HO.out.2).mono ?_
  rintro e w2 ⟨rfl, hk2⟩
  have H2 := Lib.hid (H1.out.then_ hk2)
  clear hk2 c0 c1 c2 c3
  go_wp2_with fail
  refine wp_region_keeps _ (by kernel_rfl) rfl (by kernel_rfl) ?_
  apply loose_is
  · intro W vals hW hkn
    clear hkn
    refine ⟨?_⟩
    simp only [fill]
    go_simp
    first | exact ⟨Keeps.refl _ _, rfl⟩ | exact ⟨Keeps.alloc _ _, rfl⟩
  simp only [addEnt]
  apply loose_is
  · intro W vals hW hkn
    clear hkn
    refine ⟨?_⟩
    simp only [fill]
    go_simp
    first | exact ⟨Keeps.refl _ _, rfl⟩ | exact ⟨Keeps.alloc _ _, rfl⟩
  simp only [addEnt]
  apply loose_is
  · intro W vals hW hkn
    clear hkn
    refine ⟨?_⟩
    simp only [fill]
    go_simp
    first | exact ⟨Keeps.refl _ _, rfl⟩ | exact ⟨Keeps.alloc _ _, rfl⟩
  simp only [addEnt]
  apply loose_is
  · intro W vals hW hkn
    clear hkn
    refine ⟨?_⟩
    simp only [fill]
    go_simp
    first | exact ⟨Keeps.refl _ _, rfl⟩ | exact ⟨Keeps.alloc _ _, rfl⟩
  simp only [addEnt]
  apply loose_is
  · intro W vals hW hkn
    clear hkn
    refine ⟨?_⟩
    simp only [fill]
    go_simp
    first | exact ⟨Keeps.refl _ _, rfl⟩ | exact ⟨Keeps.alloc _ _, rfl⟩
  simp only [addEnt]
  apply loose_is
  · intro W vals hW hkn
    clear hkn
    refine ⟨?_⟩
    simp only [fill]
    go_simp
    first | exact ⟨Keeps.refl _ _, rfl⟩ | exact ⟨Keeps.alloc _ _, rfl⟩
  simp only [addEnt]
  apply loose_is
  · intro W vals hW hkn
    clear hkn
    refine ⟨?_⟩
    simp only [fill]
    go_simp
    first | exact ⟨Keeps.refl _ _, rfl⟩ | exact ⟨Keeps.alloc _ _, rfl⟩
  simp only [addEnt]
  refine loose_off (fun vals => by kernel_rfl) ?_
  simp only [addEnt]
  refine loose_off (fun vals => by kernel_rfl) ?_
  simp only [addEnt]
  refine loose_off (fun vals => by kernel_rfl) ?_
  simp only [addEnt]
  refine loose_off (fun vals => by kernel_rfl) ?_
  simp only [addEnt]
  refine loose_off (fun vals => by kernel_rfl) ?_
  simp only [addEnt]
  refine loose_off (fun vals => by kernel_rfl) ?_
  simp only [addEnt]
  refine loose_off (fun vals => by kernel_rfl) ?_
  simp only [addEnt]
  apply loose_is
  · intro W vals hW hkn
    clear hkn
    refine ⟨?_⟩
    simp only [fill]
    go_simp
    first | exact ⟨Keeps.refl _ _, rfl⟩ | exact ⟨Keeps.alloc _ _, rfl⟩
  simp only [addEnt]
  refine loose_nil (fun W vals hW hkn => ?_)
  simp only [knowsAll] at hkn
  try simp only [and_true] at hkn
  simp only [fill, Act.put, List.setIfInBounds_toArray, List.set_cons_succ, List.set_cons_zero]
  have H3 := Lib.hid (H2.out.then_ hW)
  clear hW hkn
  go_wp2_with fail
  refine (known6_any _).mono ?_
  rintro e w5 ⟨rfl, hk5⟩
  have H5 := Lib.hid (H3.out.then_ hk5)
  clear hk5
  go_wp2
  go_ret
  exact ⟨rfl, H5.out⟩

/-- Which of two metas' bytes count, alone, together, the other way round. -/
theorem newer_facts {t r f h t' r' f' h' : Int} (hok : metaOk t r f h = true) (hok' : metaOk t' r' f' h' = true) (h0 : whereOf t = 0) (h1 : whereOf t' = 1) :
    (t < t' → mcV (metaRaw t r f h) (metaRaw t' r' f' h') = .agg #[.int .i64 t', .int .i64 r', .int .i64 f', .int .i64 h']) ∧ (¬ t < t' → mcV (metaRaw t r f h) (metaRaw t' r' f' h') = .agg #[.int .i64 t, .int .i64 r, .int .i64 f, .int .i64 h]) ∧ mcErr (metaRaw t r f h) (metaRaw t' r' f' h') = 0 ∧
    (mcV (metaRaw t r f h) [] = .agg #[.int .i64 t, .int .i64 r, .int .i64 f, .int .i64 h] ∧ mcErr (metaRaw t r f h) [] = 0) ∧ (mcV [] (metaRaw t' r' f' h') = .agg #[.int .i64 t', .int .i64 r', .int .i64 f', .int .i64 h'] ∧ mcErr [] (metaRaw t' r' f' h') = 0) ∧
    (mcV (metaRaw t' r' f' h') (metaRaw t r f h) = .agg #[.int .i64 0, .int .i64 0, .int .i64 0, .int .i64 0] ∧ mcErr (metaRaw t' r' f' h') (metaRaw t r f h) = 160) := by
  have e0 : mpErr 0 (metaRaw t r f h) = 0 := by rw [mpErr_raw hok 0 (by decide), if_pos h0]
  have e1 : mpErr 1 (metaRaw t' r' f' h') = 0 := by rw [mpErr_raw hok' 1 (by decide), if_pos h1]
  have n0 : mpErr 0 (metaRaw t' r' f' h') ≠ 0 := by rw [mpErr_raw hok' 0 (by decide), if_neg (by omega)]; decide
  have n1 : mpErr 1 (metaRaw t r f h) ≠ 0 := by rw [mpErr_raw hok 1 (by decide), if_neg (by omega)]; decide
  have z0 : mpErr 0 [] ≠ 0 := by rw [mpErr_short 0 (by decide)]; decide
  have z1 : mpErr 1 [] ≠ 0 := by rw [mpErr_short 1 (by decide)]; decide
  have t0 := (metaRaw_parts hok).2.2.2.2.1
  have t1 := (metaRaw_parts hok').2.2.2.2.1
  have hb := mc_both e0 e1
  rw [t0, t1, mAgg_raw hok, mAgg_raw hok'] at hb
  refine ⟨fun hl => by rw [hb.1, if_pos hl], fun hl => by rw [hb.1, if_neg hl], hb.2, ?_, ?_, ?_⟩
  · have := mc_left e0 z1; rwa [mAgg_raw hok] at this
  · have := mc_right z0 e1; rwa [mAgg_raw hok'] at this
  · have := mc_none n0 n1; exact this

end Go.Proofs.Ythepcoifcoinoaa

namespace Go.Proofs.Ythepcoifcoinoaa
open Go.RowKit

set_option maxRecDepth 100000 in
set_option maxHeartbeats 8000000 in
theorem metaNewer_yes (w : World) (t r f h t' r' f' h' : Int) (hok : metaOk t r f h = true) (hok' : metaOk t' r' f' h' = true) :
    Calls Try.prog 11 #[.agg #[.int .i64 t, .int .i64 r, .int .i64 f, .int .i64 h], .agg #[.int .i64 t', .int .i64 r', .int .i64 f', .int .i64 h']] w fun e w' => e = .returned (.bool true) ∧ Keeps w w' [] := by
  have HO := Lib.hid (And.intro hok hok')
  clear hok hok'
  go_enter Try.func11, Try.ntmps11
  go_wp2_with fail
  obtain ⟨W, hW, q0, q1, k0⟩ := two_metas w #[.int .i64 t, .int .i64 r, .int .i64 f, .int .i64 h] #[.int .i64 t', .int .i64 r', .int .i64 f', .int .i64 h']
  rw [← hW]
  clear hW
  have H0 := Lib.hid (And.intro q0 (And.intro q1 k0))
  clear q0 q1 k0
  refine (mRaw_yes t r f h W HO.out.1).mono ?_
  rintro e w1 ⟨b1, o1, cc1, rfl, hF1, hk1⟩
  have r1 := H0.out.2.1.keeps hk1
  have H1 := Lib.hid (And.intro (H0.out.2.2.then_ hk1) (And.intro (H0.out.1.keeps hk1) (And.intro r1 hF1)))
  have c0 := r1.cell 0
  have c1 := r1.cell 1
  have c2 := r1.cell 2
  have c3 := r1.cell 3
  simp only [List.getElem?_toArray, List.getElem?_cons_zero, List.getElem?_cons_succ] at c0 c1 c2 c3
  clear hk1 r1 hF1
  go_wp2_with fail
  refine (mRaw_yes t' r' f' h' w1 HO.out.2).mono ?_
  rintro e w2 ⟨b2, o2, cc2, rfl, hF2, hk2⟩
  have r1 := H1.out.2.1.keeps hk2
  have r2 := H1.out.2.2.1.keeps hk2
  have hlow := hF2.low
  have hlt := H1.out.2.2.2.lt
  have H2 := Lib.hid (And.intro (H1.out.1.then_ hk2) (And.intro r1 (And.intro r2 (And.intro (H1.out.2.2.2.keeps hk2) hF2))))
  have M1 := fun (W : World) (hW : Keeps w2 W []) => (r1.keep hW (by simp)).cell 0
  have M2 := fun (W : World) (hW : Keeps w2 W []) => (r1.keep hW (by simp)).cell 1
  have M3 := fun (W : World) (hW : Keeps w2 W []) => (r1.keep hW (by simp)).cell 2
  have M4 := fun (W : World) (hW : Keeps w2 W []) => (r1.keep hW (by simp)).cell 3
  have N1 := fun (W : World) (hW : Keeps w2 W []) => (r2.keep hW (by simp)).cell 0
  have N2 := fun (W : World) (hW : Keeps w2 W []) => (r2.keep hW (by simp)).cell 1
  have N3 := fun (W : World) (hW : Keeps w2 W []) => (r2.keep hW (by simp)).cell 2
  have N4 := fun (W : World) (hW : Keeps w2 W []) => (r2.keep hW (by simp)).cell 3
  clear hk2 c0 c1 c2 c3 r1 r2 hF2
  go_wp2_with fail
  by_cases hwe : whereOf t = whereOf t'
  · have HW := Lib.hid hwe
    clear hwe
    refine wp_region_keeps _ (by kernel_rfl) rfl (by kernel_rfl) ?_
    apply loose_is
    · intro W vals hW hkn
      clear hkn
      refine ⟨?_⟩
      simp only [fill]
      go_simp
      first | exact ⟨Keeps.refl _ _, rfl⟩ | exact ⟨Keeps.alloc _ _, rfl⟩
    simp only [addEnt]
    apply loose_is
    · intro W vals hW hkn
      clear hkn
      refine ⟨?_⟩
      simp only [fill]
      go_simp
      first | exact ⟨Keeps.refl _ _, rfl⟩ | exact ⟨Keeps.alloc _ _, rfl⟩
    simp only [addEnt]
    apply loose_is
    · intro W vals hW hkn
      clear hkn
      refine ⟨?_⟩
      simp only [fill]
      go_simp
      first | exact ⟨Keeps.refl _ _, rfl⟩ | exact ⟨Keeps.alloc _ _, rfl⟩
    simp only [addEnt]
    apply loose_is
    · intro W vals hW hkn
      clear hkn
      refine ⟨?_⟩
      simp only [fill]
      go_simp
      first | exact ⟨Keeps.refl _ _, rfl⟩ | exact ⟨Keeps.alloc _ _, rfl⟩
    simp only [addEnt]
    apply loose_is
    · intro W vals hW hkn
      clear hkn
      refine ⟨?_⟩
      simp only [fill]
      go_simp
      first | exact ⟨Keeps.refl _ _, rfl⟩ | exact ⟨Keeps.alloc _ _, rfl⟩
    simp only [addEnt]
    apply loose_is
    · intro W vals hW hkn
      clear hkn
      refine ⟨?_⟩
      simp only [fill]
      go_simp
      first | exact ⟨Keeps.refl _ _, rfl⟩ | exact ⟨Keeps.alloc _ _, rfl⟩
    simp only [addEnt]
    apply loose_is
    · intro W vals hW hkn
      clear hkn
      refine ⟨?_⟩
      simp only [fill]
      go_simp
      first | exact ⟨Keeps.refl _ _, rfl⟩ | exact ⟨Keeps.alloc _ _, rfl⟩
    simp only [addEnt]
    apply loose_is
    · intro W vals hW hkn
      clear hkn
      refine ⟨?_⟩
      simp only [fill]
      go_simp
      first | exact ⟨Keeps.refl _ _, rfl⟩ | exact ⟨Keeps.alloc _ _, rfl⟩
    simp only [addEnt]
    apply loose_is
    · intro W vals hW hkn
      clear hkn
      refine ⟨?_⟩
      simp only [fill]
      go_simp
      first | exact ⟨Keeps.refl _ _, rfl⟩ | exact ⟨Keeps.alloc _ _, rfl⟩
    simp only [addEnt]
    apply loose_is
    · intro W vals hW hkn
      clear hkn
      refine ⟨?_⟩
      simp only [fill]
      go_simp
      refine looseUpon_calls ?_
      refine (where_any _ _).mono ?_; rintro e w3 ⟨rfl, rfl⟩; rw [HW.out]; exact ⟨_, rfl, Keeps.refl _ _, rfl⟩
    simp only [addEnt]
    apply loose_is
    · intro W vals hW hkn
      clear hkn
      refine ⟨?_⟩
      simp only [fill]
      go_simp
      first | exact ⟨Keeps.refl _ _, rfl⟩ | exact ⟨Keeps.alloc _ _, rfl⟩
    simp only [addEnt]
    apply loose_is
    · intro W vals hW hkn
      clear hkn
      refine ⟨?_⟩
      simp only [fill]
      go_simp
      first | exact ⟨Keeps.refl _ _, rfl⟩ | exact ⟨Keeps.alloc _ _, rfl⟩
    simp only [addEnt]
    apply loose_is
    · intro W vals hW hkn
      clear hkn
      refine ⟨?_⟩
      simp only [fill]
      go_simp
      refine looseUpon_calls ?_
      refine (where_any _ _).mono ?_; rintro e w3 ⟨rfl, rfl⟩; exact ⟨_, rfl, Keeps.refl _ _, rfl⟩
    simp only [addEnt]
    apply loose_is
    · intro W vals hW hkn
      clear hkn
      refine ⟨?_⟩
      simp only [fill]
      go_simp
      first | exact ⟨Keeps.refl _ _, rfl⟩ | exact ⟨Keeps.alloc _ _, rfl⟩
    simp only [addEnt]
    apply loose_is
    · intro W vals hW hkn
      clear hkn
      refine ⟨?_⟩
      simp only [fill]
      go_simp
      first | exact ⟨Keeps.refl _ _, rfl⟩ | exact ⟨Keeps.alloc _ _, rfl⟩
    simp only [addEnt]
    refine loose_nil (fun W vals hW hkn => ?_)
    simp only [knowsAll] at hkn
    try simp only [and_true] at hkn
    simp only [fill, Act.put, List.setIfInBounds_toArray, List.set_cons_succ, List.set_cons_zero]
    clear M1 M2 M3 M4 N1 N2 N3 N4
    have H3 := Lib.hid (H2.out.1.then_ hW)
    clear hW hkn
    go_wp2_with fail
    refine (known6_any _).mono ?_
    rintro e w5 ⟨rfl, hk5⟩
    have H5 := Lib.hid (H3.out.then_ hk5)
    clear hk5
    go_wp2
    go_ret
    exact ⟨rfl, H5.out⟩
  · have hw1 : (whereOf t == whereOf t') = false := by simpa using hwe
    have HW := Lib.hid hwe
    clear hwe
    refine wp_region_keeps _ (by kernel_rfl) rfl (by kernel_rfl) ?_
    apply loose_is
    · intro W vals hW hkn
      clear hkn
      refine ⟨?_⟩
      simp only [fill]
      go_simp
      first | exact ⟨Keeps.refl _ _, rfl⟩ | exact ⟨Keeps.alloc _ _, rfl⟩
    simp only [addEnt]
    apply loose_is
    · intro W vals hW hkn
      clear hkn
      refine ⟨?_⟩
      simp only [fill]
      go_simp
      first | exact ⟨Keeps.refl _ _, rfl⟩ | exact ⟨Keeps.alloc _ _, rfl⟩
    simp only [addEnt]
    apply loose_is
    · intro W vals hW hkn
      clear hkn
      refine ⟨?_⟩
      simp only [fill]
      go_simp
      first | exact ⟨Keeps.refl _ _, rfl⟩ | exact ⟨Keeps.alloc _ _, rfl⟩
    simp only [addEnt]
    apply loose_is
    · intro W vals hW hkn
      clear hkn
      refine ⟨?_⟩
      simp only [fill]
      go_simp
      first | exact ⟨Keeps.refl _ _, rfl⟩ | exact ⟨Keeps.alloc _ _, rfl⟩
    simp only [addEnt]
    apply loose_is
    · intro W vals hW hkn
      clear hkn
      refine ⟨?_⟩
      simp only [fill]
      go_simp
      first | exact ⟨Keeps.refl _ _, rfl⟩ | exact ⟨Keeps.alloc _ _, rfl⟩
    simp only [addEnt]
    apply loose_is
    · intro W vals hW hkn
      clear hkn
      refine ⟨?_⟩
      simp only [fill]
      go_simp
      first | exact ⟨Keeps.refl _ _, rfl⟩ | exact ⟨Keeps.alloc _ _, rfl⟩
    simp only [addEnt]
    apply loose_is
    · intro W vals hW hkn
      clear hkn
      refine ⟨?_⟩
      simp only [fill]
      go_simp
      first | exact ⟨Keeps.refl _ _, rfl⟩ | exact ⟨Keeps.alloc _ _, rfl⟩
    simp only [addEnt]
    apply loose_is
    · intro W vals hW hkn
      clear hkn
      refine ⟨?_⟩
      simp only [fill]
      go_simp
      first | exact ⟨Keeps.refl _ _, rfl⟩ | exact ⟨Keeps.alloc _ _, rfl⟩
    simp only [addEnt]
    apply loose_is
    · intro W vals hW hkn
      clear hkn
      refine ⟨?_⟩
      simp only [fill]
      go_simp
      first | exact ⟨Keeps.refl _ _, rfl⟩ | exact ⟨Keeps.alloc _ _, rfl⟩
    simp only [addEnt]
    apply loose_is
    · intro W vals hW hkn
      clear hkn
      refine ⟨?_⟩
      simp only [fill]
      go_simp
      refine looseUpon_calls ?_
      refine (where_any _ _).mono ?_; rintro e w3 ⟨rfl, rfl⟩; skip; exact ⟨_, rfl, Keeps.refl _ _, rfl⟩
    simp only [addEnt]
    apply loose_is
    · intro W vals hW hkn
      clear hkn
      refine ⟨?_⟩
      simp only [fill]
      go_simp
      first | exact ⟨Keeps.refl _ _, rfl⟩ | exact ⟨Keeps.alloc _ _, rfl⟩
    simp only [addEnt]
    apply loose_is
    · intro W vals hW hkn
      clear hkn
      refine ⟨?_⟩
      simp only [fill]
      go_simp
      first | exact ⟨Keeps.refl _ _, rfl⟩ | exact ⟨Keeps.alloc _ _, rfl⟩
    simp only [addEnt]
    apply loose_is
    · intro W vals hW hkn
      clear hkn
      refine ⟨?_⟩
      simp only [fill]
      go_simp
      refine looseUpon_calls ?_
      refine (where_any _ _).mono ?_; rintro e w3 ⟨rfl, rfl⟩; exact ⟨_, rfl, Keeps.refl _ _, rfl⟩
    simp only [addEnt]
    apply loose_is
    · intro W vals hW hkn
      clear hkn
      refine ⟨?_⟩
      simp only [fill]
      go_simp
      first | exact ⟨Keeps.refl _ _, rfl⟩ | exact ⟨Keeps.alloc _ _, rfl⟩
    simp only [addEnt]
    apply loose_is
    · intro W vals hW hkn
      clear hkn
      refine ⟨?_⟩
      simp only [fill]
      go_simp
      first | exact ⟨Keeps.refl _ _, rfl⟩ | exact ⟨Keeps.alloc _ _, rfl⟩
    simp only [addEnt]
    refine loose_nil (fun W vals hW hkn => ?_)
    simp only [knowsAll] at hkn
    try simp only [and_true] at hkn
    simp only [fill, Act.put, List.setIfInBounds_toArray, List.set_cons_succ, List.set_cons_zero]
    have r1 := H2.out.2.1.keeps hW
    have r2 := H2.out.2.2.1.keeps hW
    have H3 := Lib.hid (And.intro (H2.out.1.then_ hW) (And.intro r1 (And.intro r2 (And.intro (H2.out.2.2.2.1.keeps hW) (H2.out.2.2.2.2.keeps hW)))))
    have c0 := r1.cell 0
    have c1 := r1.cell 1
    have c2 := r1.cell 2
    have c3 := r1.cell 3
    simp only [List.getElem?_toArray, List.getElem?_cons_zero, List.getElem?_cons_succ] at c0 c1 c2 c3
    have d0 := r2.cell 0
    have d1 := r2.cell 1
    have d2 := r2.cell 2
    have d3 := r2.cell 3
    simp only [List.getElem?_toArray, List.getElem?_cons_zero, List.getElem?_cons_succ] at d0 d1 d2 d3
    have g0 := r1.frozen 0
    have g1 := r1.frozen 1
    have g2 := r1.frozen 2
    have g3 := r1.frozen 3
    have k0 := r2.frozen 0
    have k1 := r2.frozen 1
    have k2 := r2.frozen 2
    have k3 := r2.frozen 3
    have hl1 := r1.lt
    have hl2 := r2.lt
    clear M1 M2 M3 M4 N1 N2 N3 N4 hW hkn r1 r2 hw1
    go_wp2_with fail
    refine (where_any _ _).mono ?_
    rintro e w3 ⟨rfl, rfl⟩
    rcases whereOf_bit t with h0 | h0
    · have h1 : whereOf t' = 1 := by
        have := HW.out
        rcases whereOf_bit t' with h | h <;> omega
      have HX := Lib.hid (And.intro HO.out.1 (And.intro HO.out.2 (And.intro h0 h1)))
      rw [h0]
      clear h0 h1
      have HN := Lib.hid (newer_facts HX.out.1 HX.out.2.1 HX.out.2.2.1 HX.out.2.2.2)
      go_upto_region 7 with (fail)
      have H4 := Lib.hid (And.intro H3.out.1 (And.intro H3.out.2.1 (And.intro H3.out.2.2.1 (And.intro H3.out.2.2.2.1 H3.out.2.2.2.2))))
      by_cases hlt : t < t'
      · have dl : decide (t < t') = true := by simpa using hlt
        have HV := Lib.hid (HN.out.1 (by omega))
        clear hlt
        clear c0 c1 c2 c3 d0 d1 d2 d3 g0 g1 g2 g3 k0 k1 k2 k3
        have y1 := H4.out.2.1
        have y2 := H4.out.2.2.1
        have c0 := y1.cell 0
        have c1 := y1.cell 1
        have c2 := y1.cell 2
        have c3 := y1.cell 3
        simp only [List.getElem?_toArray, List.getElem?_cons_zero, List.getElem?_cons_succ] at c0 c1 c2 c3
        have d0 := y2.cell 0
        have d1 := y2.cell 1
        have d2 := y2.cell 2
        have d3 := y2.cell 3
        simp only [List.getElem?_toArray, List.getElem?_cons_zero, List.getElem?_cons_succ] at d0 d1 d2 d3
        have qy1 := y1.lt
        have qy2 := y2.lt
        clear y1 y2
        go_wp2_with fail
        obtain ⟨W5, hW5⟩ : ∃ W', W.alloc (.cells #[.int .i64 t', .int .i64 r', .int .i64 f', .int .i64 h'] 49) = W' := ⟨_, rfl⟩
        have k5 : Keeps W W5 [] := by rw [← hW5]; exact Keeps.alloc _ _
        have r5 : Row W5 W.heap.size 49 #[.int .i64 t', .int .i64 r', .int .i64 f', .int .i64 h'] := by rw [← hW5]; exact Row.new _ _ _
        rw [hW5]
        clear hW5
        refine (mCounts_full W5 _ b1 o1 cc1 _ b2 o2 cc2 _ _ (H4.out.2.2.2.1.keeps k5) (H4.out.2.2.2.2.keeps k5)).mono ?_
        rintro e w6 ⟨rfl, hk6⟩
        rw [HV.out, HN.out.2.2.1]
        have H6 := Lib.hid (And.intro (k5.then_ hk6) (r5.keeps hk6))
        clear k5 r5 hk6 c0 c1 c2 c3 d0 d1 d2 d3
        go_wp2_with fail
        obtain ⟨W7, hW7⟩ : ∃ W', w6.alloc (.cells #[.int .i64 t', .int .i64 r', .int .i64 f', .int .i64 h'] 49) = W' := ⟨_, rfl⟩
        have k7 : Keeps w6 W7 [] := by rw [← hW7]; exact Keeps.alloc _ _
        have r7 : Row W7 w6.heap.size 49 #[.int .i64 t', .int .i64 r', .int .i64 f', .int .i64 h'] := by rw [← hW7]; exact Row.new _ _ _
        rw [hW7]
        clear hW7
        refine (mCounts_left W7 _ b1 o1 cc1 _ (H4.out.2.2.2.1.keeps (H6.out.1.then_ k7))).mono ?_
        rintro e w8 ⟨rfl, hk8⟩
        rw [HN.out.2.2.2.1.1, HN.out.2.2.2.1.2]
        have H8 := Lib.hid (And.intro (H6.out.1.then_ (k7.then_ hk8)) (And.intro (H6.out.2.keeps (k7.then_ hk8)) (r7.keeps hk8)))
        clear k7 r7 hk8
        go_wp2_with fail
        obtain ⟨W9, hW9⟩ : ∃ W', w8.alloc (.cells #[.int .i64 t, .int .i64 r, .int .i64 f, .int .i64 h] 49) = W' := ⟨_, rfl⟩
        have k9 : Keeps w8 W9 [] := by rw [← hW9]; exact Keeps.alloc _ _
        have r9 : Row W9 w8.heap.size 49 #[.int .i64 t, .int .i64 r, .int .i64 f, .int .i64 h] := by rw [← hW9]; exact Row.new _ _ _
        rw [hW9]
        clear hW9
        refine (mCounts_right W9 _ b2 o2 cc2 _ (H4.out.2.2.2.2.keeps (H8.out.1.then_ k9))).mono ?_
        rintro e w10 ⟨rfl, hk10⟩
        rw [HN.out.2.2.2.2.1.1, HN.out.2.2.2.2.1.2]
        have H10 := Lib.hid (And.intro (H8.out.1.then_ (k9.then_ hk10)) (And.intro (H8.out.2.1.keeps (k9.then_ hk10)) (And.intro (H8.out.2.2.keeps (k9.then_ hk10)) (r9.keeps hk10))))
        clear k9 r9 hk10
        go_wp2_with fail
        obtain ⟨W11, hW11⟩ : ∃ W', w10.alloc (.cells #[.int .i64 t', .int .i64 r', .int .i64 f', .int .i64 h'] 49) = W' := ⟨_, rfl⟩
        have k11 : Keeps w10 W11 [] := by rw [← hW11]; exact Keeps.alloc _ _
        have r11 : Row W11 w10.heap.size 49 #[.int .i64 t', .int .i64 r', .int .i64 f', .int .i64 h'] := by rw [← hW11]; exact Row.new _ _ _
        rw [hW11]
        clear hW11
        refine (mCounts_full W11 _ b2 o2 cc2 _ b1 o1 cc1 _ _ (H4.out.2.2.2.2.keeps (H10.out.1.then_ k11)) (H4.out.2.2.2.1.keeps (H10.out.1.then_ k11))).mono ?_
        rintro e w12 ⟨rfl, hk12⟩
        rw [HN.out.2.2.2.2.2.1, HN.out.2.2.2.2.2.2]
        have k12 := k11.then_ hk12
        have s9 := H10.out.2.1.keeps k12
        have s10 := H10.out.2.2.1.keeps k12
        have s12 := H10.out.2.2.2.keeps k12
        have s14 := r11.keeps hk12
        have sN := H4.out.2.1.keeps (H10.out.1.then_ k12)
        have sM := H4.out.2.2.1.keeps (H10.out.1.then_ k12)
        have xa0 := s9.cell 0
        have xa1 := s9.cell 1
        have xa2 := s9.cell 2
        have xa3 := s9.cell 3
        simp only [List.getElem?_toArray, List.getElem?_cons_zero, List.getElem?_cons_succ] at xa0 xa1 xa2 xa3
        have xb0 := s10.cell 0
        have xb1 := s10.cell 1
        have xb2 := s10.cell 2
        have xb3 := s10.cell 3
        simp only [List.getElem?_toArray, List.getElem?_cons_zero, List.getElem?_cons_succ] at xb0 xb1 xb2 xb3
        have xc0 := s12.cell 0
        have xc1 := s12.cell 1
        have xc2 := s12.cell 2
        have xc3 := s12.cell 3
        simp only [List.getElem?_toArray, List.getElem?_cons_zero, List.getElem?_cons_succ] at xc0 xc1 xc2 xc3
        have xd0 := s14.cell 0
        have xd1 := s14.cell 1
        have xd2 := s14.cell 2
        have xd3 := s14.cell 3
        simp only [List.getElem?_toArray, List.getElem?_cons_zero, List.getElem?_cons_succ] at xd0 xd1 xd2 xd3
        have xe0 := sN.cell 0
        have xe1 := sN.cell 1
        have xe2 := sN.cell 2
        have xe3 := sN.cell 3
        simp only [List.getElem?_toArray, List.getElem?_cons_zero, List.getElem?_cons_succ] at xe0 xe1 xe2 xe3
        have xf0 := sM.cell 0
        have xf1 := sM.cell 1
        have xf2 := sM.cell 2
        have xf3 := sM.cell 3
        simp only [List.getElem?_toArray, List.getElem?_cons_zero, List.getElem?_cons_succ] at xf0 xf1 xf2 xf3
        have l9 := s9.lt
        have l10 := s10.lt
        have l12 := s12.lt
        have l14 := s14.lt
        have lN := sN.lt
        have lM := sM.lt
        have H12 := Lib.hid (H4.out.1.then_ (H10.out.1.then_ k12))
        clear k11 r11 hk12 k12 s9 s10 s12 s14 sN sM
        go_wp2_with fail
        refine (known6_any _).mono ?_
        rintro e w13 ⟨rfl, hk13⟩
        have H13 := Lib.hid ((H12.out.then_alloc _).then_ hk13)
        clear hk13
        go_wp2
        go_ret
        exact ⟨rfl, H13.out⟩
      · have dl : decide (t < t') = false := by simpa using hlt
        have HV := Lib.hid (HN.out.2.1 (by omega))
        clear hlt
        clear c0 c1 c2 c3 d0 d1 d2 d3 g0 g1 g2 g3 k0 k1 k2 k3
        have y1 := H4.out.2.1
        have y2 := H4.out.2.2.1
        have c0 := y1.cell 0
        have c1 := y1.cell 1
        have c2 := y1.cell 2
        have c3 := y1.cell 3
        simp only [List.getElem?_toArray, List.getElem?_cons_zero, List.getElem?_cons_succ] at c0 c1 c2 c3
        have d0 := y2.cell 0
        have d1 := y2.cell 1
        have d2 := y2.cell 2
        have d3 := y2.cell 3
        simp only [List.getElem?_toArray, List.getElem?_cons_zero, List.getElem?_cons_succ] at d0 d1 d2 d3
        have qy1 := y1.lt
        have qy2 := y2.lt
        clear y1 y2
        go_wp2_with fail
        obtain ⟨W5, hW5⟩ : ∃ W', W.alloc (.cells #[.int .i64 t, .int .i64 r, .int .i64 f, .int .i64 h] 49) = W' := ⟨_, rfl⟩
        have k5 : Keeps W W5 [] := by rw [← hW5]; exact Keeps.alloc _ _
        have r5 : Row W5 W.heap.size 49 #[.int .i64 t, .int .i64 r, .int .i64 f, .int .i64 h] := by rw [← hW5]; exact Row.new _ _ _
        rw [hW5]
        clear hW5
        refine (mCounts_full W5 _ b1 o1 cc1 _ b2 o2 cc2 _ _ (H4.out.2.2.2.1.keeps k5) (H4.out.2.2.2.2.keeps k5)).mono ?_
        rintro e w6 ⟨rfl, hk6⟩
        rw [HV.out, HN.out.2.2.1]
        have H6 := Lib.hid (And.intro (k5.then_ hk6) (r5.keeps hk6))
        clear k5 r5 hk6 c0 c1 c2 c3 d0 d1 d2 d3
        go_wp2_with fail
        obtain ⟨W7, hW7⟩ : ∃ W', w6.alloc (.cells #[.int .i64 t, .int .i64 r, .int .i64 f, .int .i64 h] 49) = W' := ⟨_, rfl⟩
        have k7 : Keeps w6 W7 [] := by rw [← hW7]; exact Keeps.alloc _ _
        have r7 : Row W7 w6.heap.size 49 #[.int .i64 t, .int .i64 r, .int .i64 f, .int .i64 h] := by rw [← hW7]; exact Row.new _ _ _
        rw [hW7]
        clear hW7
        refine (mCounts_left W7 _ b1 o1 cc1 _ (H4.out.2.2.2.1.keeps (H6.out.1.then_ k7))).mono ?_
        rintro e w8 ⟨rfl, hk8⟩
        rw [HN.out.2.2.2.1.1, HN.out.2.2.2.1.2]
        have H8 := Lib.hid (And.intro (H6.out.1.then_ (k7.then_ hk8)) (And.intro (H6.out.2.keeps (k7.then_ hk8)) (r7.keeps hk8)))
        clear k7 r7 hk8
        go_wp2_with fail
        obtain ⟨W9, hW9⟩ : ∃ W', w8.alloc (.cells #[.int .i64 t, .int .i64 r, .int .i64 f, .int .i64 h] 49) = W' := ⟨_, rfl⟩
        have k9 : Keeps w8 W9 [] := by rw [← hW9]; exact Keeps.alloc _ _
        have r9 : Row W9 w8.heap.size 49 #[.int .i64 t, .int .i64 r, .int .i64 f, .int .i64 h] := by rw [← hW9]; exact Row.new _ _ _
        rw [hW9]
        clear hW9
        refine (mCounts_right W9 _ b2 o2 cc2 _ (H4.out.2.2.2.2.keeps (H8.out.1.then_ k9))).mono ?_
        rintro e w10 ⟨rfl, hk10⟩
        rw [HN.out.2.2.2.2.1.1, HN.out.2.2.2.2.1.2]
        have H10 := Lib.hid (And.intro (H8.out.1.then_ (k9.then_ hk10)) (And.intro (H8.out.2.1.keeps (k9.then_ hk10)) (And.intro (H8.out.2.2.keeps (k9.then_ hk10)) (r9.keeps hk10))))
        clear k9 r9 hk10
        go_wp2_with fail
        obtain ⟨W11, hW11⟩ : ∃ W', w10.alloc (.cells #[.int .i64 t', .int .i64 r', .int .i64 f', .int .i64 h'] 49) = W' := ⟨_, rfl⟩
        have k11 : Keeps w10 W11 [] := by rw [← hW11]; exact Keeps.alloc _ _
        have r11 : Row W11 w10.heap.size 49 #[.int .i64 t', .int .i64 r', .int .i64 f', .int .i64 h'] := by rw [← hW11]; exact Row.new _ _ _
        rw [hW11]
        clear hW11
        refine (mCounts_full W11 _ b2 o2 cc2 _ b1 o1 cc1 _ _ (H4.out.2.2.2.2.keeps (H10.out.1.then_ k11)) (H4.out.2.2.2.1.keeps (H10.out.1.then_ k11))).mono ?_
        rintro e w12 ⟨rfl, hk12⟩
        rw [HN.out.2.2.2.2.2.1, HN.out.2.2.2.2.2.2]
        have k12 := k11.then_ hk12
        have s9 := H10.out.2.1.keeps k12
        have s10 := H10.out.2.2.1.keeps k12
        have s12 := H10.out.2.2.2.keeps k12
        have s14 := r11.keeps hk12
        have sN := H4.out.2.1.keeps (H10.out.1.then_ k12)
        have sM := H4.out.2.2.1.keeps (H10.out.1.then_ k12)
        have xa0 := s9.cell 0
        have xa1 := s9.cell 1
        have xa2 := s9.cell 2
        have xa3 := s9.cell 3
        simp only [List.getElem?_toArray, List.getElem?_cons_zero, List.getElem?_cons_succ] at xa0 xa1 xa2 xa3
        have xb0 := s10.cell 0
        have xb1 := s10.cell 1
        have xb2 := s10.cell 2
        have xb3 := s10.cell 3
        simp only [List.getElem?_toArray, List.getElem?_cons_zero, List.getElem?_cons_succ] at xb0 xb1 xb2 xb3
        have xc0 := s12.cell 0
        have xc1 := s12.cell 1
        have xc2 := s12.cell 2
        have xc3 := s12.cell 3
        simp only [List.getElem?_toArray, List.getElem?_cons_zero, List.getElem?_cons_succ] at xc0 xc1 xc2 xc3
        have xd0 := s14.cell 0
        have xd1 := s14.cell 1
        have xd2 := s14.cell 2
        have xd3 := s14.cell 3
        simp only [List.getElem?_toArray, List.getElem?_cons_zero, List.getElem?_cons_succ] at xd0 xd1 xd2 xd3
        have xe0 := sN.cell 0
        have xe1 := sN.cell 1
        have xe2 := sN.cell 2
        have xe3 := sN.cell 3
        simp only [List.getElem?_toArray, List.getElem?_cons_zero, List.getElem?_cons_succ] at xe0 xe1 xe2 xe3
        have xf0 := sM.cell 0
        have xf1 := sM.cell 1
        have xf2 := sM.cell 2
        have xf3 := sM.cell 3
        simp only [List.getElem?_toArray, List.getElem?_cons_zero, List.getElem?_cons_succ] at xf0 xf1 xf2 xf3
        have l9 := s9.lt
        have l10 := s10.lt
        have l12 := s12.lt
        have l14 := s14.lt
        have lN := sN.lt
        have lM := sM.lt
        have H12 := Lib.hid (H4.out.1.then_ (H10.out.1.then_ k12))
        clear k11 r11 hk12 k12 s9 s10 s12 s14 sN sM
        go_wp2_with fail
        refine (known6_any _).mono ?_
        rintro e w13 ⟨rfl, hk13⟩
        have H13 := Lib.hid ((H12.out.then_alloc _).then_ hk13)
        clear hk13
        go_wp2
        go_ret
        exact ⟨rfl, H13.out⟩
    · have h1 : whereOf t' = 0 := by
        have := HW.out
        rcases whereOf_bit t' with h | h <;> omega
      have HX := Lib.hid (And.intro HO.out.1 (And.intro HO.out.2 (And.intro h0 h1)))
      rw [h0]
      clear h0 h1
      have HN := Lib.hid (newer_facts HX.out.2.1 HX.out.1 HX.out.2.2.2 HX.out.2.2.1)
      go_upto_region 7 with (fail)
      obtain ⟨Ws, hWs, z1, z2, kz⟩ := swap_put H3.out.2.1 H3.out.2.2.1
      rw [← hWs]
      clear hWs
      have lo1 := H3.out.2.2.2.1.low
      have lo2 := H3.out.2.2.2.2.low
      have lq := H0.out.2.1.lt
      have H4 := Lib.hid (And.intro (H3.out.1.trans kz (fun x hx hl => by simp at hx; omega)) (And.intro z1 (And.intro z2 (And.intro (H3.out.2.2.2.2.keep kz (by simp; omega)) (H3.out.2.2.2.1.keep kz (by simp; omega))))))
      clear z1 z2 kz lo1 lo2 lq
      by_cases hlt : t' < t
      · have dl : decide (t' < t) = true := by simpa using hlt
        have HV := Lib.hid (HN.out.1 (by omega))
        clear hlt
        clear c0 c1 c2 c3 d0 d1 d2 d3 g0 g1 g2 g3 k0 k1 k2 k3
        have y1 := H4.out.2.1
        have y2 := H4.out.2.2.1
        have c0 := y1.cell 0
        have c1 := y1.cell 1
        have c2 := y1.cell 2
        have c3 := y1.cell 3
        simp only [List.getElem?_toArray, List.getElem?_cons_zero, List.getElem?_cons_succ] at c0 c1 c2 c3
        have d0 := y2.cell 0
        have d1 := y2.cell 1
        have d2 := y2.cell 2
        have d3 := y2.cell 3
        simp only [List.getElem?_toArray, List.getElem?_cons_zero, List.getElem?_cons_succ] at d0 d1 d2 d3
        have qy1 := y1.lt
        have qy2 := y2.lt
        clear y1 y2
        go_wp2_with fail
        obtain ⟨W5, hW5⟩ : ∃ W', Ws.alloc (.cells #[.int .i64 t, .int .i64 r, .int .i64 f, .int .i64 h] 49) = W' := ⟨_, rfl⟩
        have k5 : Keeps Ws W5 [] := by rw [← hW5]; exact Keeps.alloc _ _
        have r5 : Row W5 Ws.heap.size 49 #[.int .i64 t, .int .i64 r, .int .i64 f, .int .i64 h] := by rw [← hW5]; exact Row.new _ _ _
        rw [hW5]
        clear hW5
        refine (mCounts_full W5 _ b2 o2 cc2 _ b1 o1 cc1 _ _ (H4.out.2.2.2.1.keeps k5) (H4.out.2.2.2.2.keeps k5)).mono ?_
        rintro e w6 ⟨rfl, hk6⟩
        rw [HV.out, HN.out.2.2.1]
        have H6 := Lib.hid (And.intro (k5.then_ hk6) (r5.keeps hk6))
        clear k5 r5 hk6 c0 c1 c2 c3 d0 d1 d2 d3
        go_wp2_with fail
        obtain ⟨W7, hW7⟩ : ∃ W', w6.alloc (.cells #[.int .i64 t, .int .i64 r, .int .i64 f, .int .i64 h] 49) = W' := ⟨_, rfl⟩
        have k7 : Keeps w6 W7 [] := by rw [← hW7]; exact Keeps.alloc _ _
        have r7 : Row W7 w6.heap.size 49 #[.int .i64 t, .int .i64 r, .int .i64 f, .int .i64 h] := by rw [← hW7]; exact Row.new _ _ _
        rw [hW7]
        clear hW7
        refine (mCounts_left W7 _ b2 o2 cc2 _ (H4.out.2.2.2.1.keeps (H6.out.1.then_ k7))).mono ?_
        rintro e w8 ⟨rfl, hk8⟩
        rw [HN.out.2.2.2.1.1, HN.out.2.2.2.1.2]
        have H8 := Lib.hid (And.intro (H6.out.1.then_ (k7.then_ hk8)) (And.intro (H6.out.2.keeps (k7.then_ hk8)) (r7.keeps hk8)))
        clear k7 r7 hk8
        go_wp2_with fail
        obtain ⟨W9, hW9⟩ : ∃ W', w8.alloc (.cells #[.int .i64 t', .int .i64 r', .int .i64 f', .int .i64 h'] 49) = W' := ⟨_, rfl⟩
        have k9 : Keeps w8 W9 [] := by rw [← hW9]; exact Keeps.alloc _ _
        have r9 : Row W9 w8.heap.size 49 #[.int .i64 t', .int .i64 r', .int .i64 f', .int .i64 h'] := by rw [← hW9]; exact Row.new _ _ _
        rw [hW9]
        clear hW9
        refine (mCounts_right W9 _ b1 o1 cc1 _ (H4.out.2.2.2.2.keeps (H8.out.1.then_ k9))).mono ?_
        rintro e w10 ⟨rfl, hk10⟩
        rw [HN.out.2.2.2.2.1.1, HN.out.2.2.2.2.1.2]
        have H10 := Lib.hid (And.intro (H8.out.1.then_ (k9.then_ hk10)) (And.intro (H8.out.2.1.keeps (k9.then_ hk10)) (And.intro (H8.out.2.2.keeps (k9.then_ hk10)) (r9.keeps hk10))))
        clear k9 r9 hk10
        go_wp2_with fail
        obtain ⟨W11, hW11⟩ : ∃ W', w10.alloc (.cells #[.int .i64 t, .int .i64 r, .int .i64 f, .int .i64 h] 49) = W' := ⟨_, rfl⟩
        have k11 : Keeps w10 W11 [] := by rw [← hW11]; exact Keeps.alloc _ _
        have r11 : Row W11 w10.heap.size 49 #[.int .i64 t, .int .i64 r, .int .i64 f, .int .i64 h] := by rw [← hW11]; exact Row.new _ _ _
        rw [hW11]
        clear hW11
        refine (mCounts_full W11 _ b1 o1 cc1 _ b2 o2 cc2 _ _ (H4.out.2.2.2.2.keeps (H10.out.1.then_ k11)) (H4.out.2.2.2.1.keeps (H10.out.1.then_ k11))).mono ?_
        rintro e w12 ⟨rfl, hk12⟩
        rw [HN.out.2.2.2.2.2.1, HN.out.2.2.2.2.2.2]
        have k12 := k11.then_ hk12
        have s9 := H10.out.2.1.keeps k12
        have s10 := H10.out.2.2.1.keeps k12
        have s12 := H10.out.2.2.2.keeps k12
        have s14 := r11.keeps hk12
        have sN := H4.out.2.1.keeps (H10.out.1.then_ k12)
        have sM := H4.out.2.2.1.keeps (H10.out.1.then_ k12)
        have xa0 := s9.cell 0
        have xa1 := s9.cell 1
        have xa2 := s9.cell 2
        have xa3 := s9.cell 3
        simp only [List.getElem?_toArray, List.getElem?_cons_zero, List.getElem?_cons_succ] at xa0 xa1 xa2 xa3
        have xb0 := s10.cell 0
        have xb1 := s10.cell 1
        have xb2 := s10.cell 2
        have xb3 := s10.cell 3
        simp only [List.getElem?_toArray, List.getElem?_cons_zero, List.getElem?_cons_succ] at xb0 xb1 xb2 xb3
        have xc0 := s12.cell 0
        have xc1 := s12.cell 1
        have xc2 := s12.cell 2
        have xc3 := s12.cell 3
        simp only [List.getElem?_toArray, List.getElem?_cons_zero, List.getElem?_cons_succ] at xc0 xc1 xc2 xc3
        have xd0 := s14.cell 0
        have xd1 := s14.cell 1
        have xd2 := s14.cell 2
        have xd3 := s14.cell 3
        simp only [List.getElem?_toArray, List.getElem?_cons_zero, List.getElem?_cons_succ] at xd0 xd1 xd2 xd3
        have xe0 := sN.cell 0
        have xe1 := sN.cell 1
        have xe2 := sN.cell 2
        have xe3 := sN.cell 3
        simp only [List.getElem?_toArray, List.getElem?_cons_zero, List.getElem?_cons_succ] at xe0 xe1 xe2 xe3
        have xf0 := sM.cell 0
        have xf1 := sM.cell 1
        have xf2 := sM.cell 2
        have xf3 := sM.cell 3
        simp only [List.getElem?_toArray, List.getElem?_cons_zero, List.getElem?_cons_succ] at xf0 xf1 xf2 xf3
        have l9 := s9.lt
        have l10 := s10.lt
        have l12 := s12.lt
        have l14 := s14.lt
        have lN := sN.lt
        have lM := sM.lt
        have H12 := Lib.hid (H4.out.1.then_ (H10.out.1.then_ k12))
        clear k11 r11 hk12 k12 s9 s10 s12 s14 sN sM
        go_wp2_with fail
        refine (known6_any _).mono ?_
        rintro e w13 ⟨rfl, hk13⟩
        have H13 := Lib.hid ((H12.out.then_alloc _).then_ hk13)
        clear hk13
        go_wp2
        go_ret
        exact ⟨rfl, H13.out⟩
      · have dl : decide (t' < t) = false := by simpa using hlt
        have HV := Lib.hid (HN.out.2.1 (by omega))
        clear hlt
        clear c0 c1 c2 c3 d0 d1 d2 d3 g0 g1 g2 g3 k0 k1 k2 k3
        have y1 := H4.out.2.1
        have y2 := H4.out.2.2.1
        have c0 := y1.cell 0
        have c1 := y1.cell 1
        have c2 := y1.cell 2
        have c3 := y1.cell 3
        simp only [List.getElem?_toArray, List.getElem?_cons_zero, List.getElem?_cons_succ] at c0 c1 c2 c3
        have d0 := y2.cell 0
        have d1 := y2.cell 1
        have d2 := y2.cell 2
        have d3 := y2.cell 3
        simp only [List.getElem?_toArray, List.getElem?_cons_zero, List.getElem?_cons_succ] at d0 d1 d2 d3
        have qy1 := y1.lt
        have qy2 := y2.lt
        clear y1 y2
        go_wp2_with fail
        obtain ⟨W5, hW5⟩ : ∃ W', Ws.alloc (.cells #[.int .i64 t', .int .i64 r', .int .i64 f', .int .i64 h'] 49) = W' := ⟨_, rfl⟩
        have k5 : Keeps Ws W5 [] := by rw [← hW5]; exact Keeps.alloc _ _
        have r5 : Row W5 Ws.heap.size 49 #[.int .i64 t', .int .i64 r', .int .i64 f', .int .i64 h'] := by rw [← hW5]; exact Row.new _ _ _
        rw [hW5]
        clear hW5
        refine (mCounts_full W5 _ b2 o2 cc2 _ b1 o1 cc1 _ _ (H4.out.2.2.2.1.keeps k5) (H4.out.2.2.2.2.keeps k5)).mono ?_
        rintro e w6 ⟨rfl, hk6⟩
        rw [HV.out, HN.out.2.2.1]
        have H6 := Lib.hid (And.intro (k5.then_ hk6) (r5.keeps hk6))
        clear k5 r5 hk6 c0 c1 c2 c3 d0 d1 d2 d3
        go_wp2_with fail
        obtain ⟨W7, hW7⟩ : ∃ W', w6.alloc (.cells #[.int .i64 t', .int .i64 r', .int .i64 f', .int .i64 h'] 49) = W' := ⟨_, rfl⟩
        have k7 : Keeps w6 W7 [] := by rw [← hW7]; exact Keeps.alloc _ _
        have r7 : Row W7 w6.heap.size 49 #[.int .i64 t', .int .i64 r', .int .i64 f', .int .i64 h'] := by rw [← hW7]; exact Row.new _ _ _
        rw [hW7]
        clear hW7
        refine (mCounts_left W7 _ b2 o2 cc2 _ (H4.out.2.2.2.1.keeps (H6.out.1.then_ k7))).mono ?_
        rintro e w8 ⟨rfl, hk8⟩
        rw [HN.out.2.2.2.1.1, HN.out.2.2.2.1.2]
        have H8 := Lib.hid (And.intro (H6.out.1.then_ (k7.then_ hk8)) (And.intro (H6.out.2.keeps (k7.then_ hk8)) (r7.keeps hk8)))
        clear k7 r7 hk8
        go_wp2_with fail
        obtain ⟨W9, hW9⟩ : ∃ W', w8.alloc (.cells #[.int .i64 t', .int .i64 r', .int .i64 f', .int .i64 h'] 49) = W' := ⟨_, rfl⟩
        have k9 : Keeps w8 W9 [] := by rw [← hW9]; exact Keeps.alloc _ _
        have r9 : Row W9 w8.heap.size 49 #[.int .i64 t', .int .i64 r', .int .i64 f', .int .i64 h'] := by rw [← hW9]; exact Row.new _ _ _
        rw [hW9]
        clear hW9
        refine (mCounts_right W9 _ b1 o1 cc1 _ (H4.out.2.2.2.2.keeps (H8.out.1.then_ k9))).mono ?_
        rintro e w10 ⟨rfl, hk10⟩
        rw [HN.out.2.2.2.2.1.1, HN.out.2.2.2.2.1.2]
        have H10 := Lib.hid (And.intro (H8.out.1.then_ (k9.then_ hk10)) (And.intro (H8.out.2.1.keeps (k9.then_ hk10)) (And.intro (H8.out.2.2.keeps (k9.then_ hk10)) (r9.keeps hk10))))
        clear k9 r9 hk10
        go_wp2_with fail
        obtain ⟨W11, hW11⟩ : ∃ W', w10.alloc (.cells #[.int .i64 t, .int .i64 r, .int .i64 f, .int .i64 h] 49) = W' := ⟨_, rfl⟩
        have k11 : Keeps w10 W11 [] := by rw [← hW11]; exact Keeps.alloc _ _
        have r11 : Row W11 w10.heap.size 49 #[.int .i64 t, .int .i64 r, .int .i64 f, .int .i64 h] := by rw [← hW11]; exact Row.new _ _ _
        rw [hW11]
        clear hW11
        refine (mCounts_full W11 _ b1 o1 cc1 _ b2 o2 cc2 _ _ (H4.out.2.2.2.2.keeps (H10.out.1.then_ k11)) (H4.out.2.2.2.1.keeps (H10.out.1.then_ k11))).mono ?_
        rintro e w12 ⟨rfl, hk12⟩
        rw [HN.out.2.2.2.2.2.1, HN.out.2.2.2.2.2.2]
        have k12 := k11.then_ hk12
        have s9 := H10.out.2.1.keeps k12
        have s10 := H10.out.2.2.1.keeps k12
        have s12 := H10.out.2.2.2.keeps k12
        have s14 := r11.keeps hk12
        have sN := H4.out.2.1.keeps (H10.out.1.then_ k12)
        have sM := H4.out.2.2.1.keeps (H10.out.1.then_ k12)
        have xa0 := s9.cell 0
        have xa1 := s9.cell 1
        have xa2 := s9.cell 2
        have xa3 := s9.cell 3
        simp only [List.getElem?_toArray, List.getElem?_cons_zero, List.getElem?_cons_succ] at xa0 xa1 xa2 xa3
        have xb0 := s10.cell 0
        have xb1 := s10.cell 1
        have xb2 := s10.cell 2
        have xb3 := s10.cell 3
        simp only [List.getElem?_toArray, List.getElem?_cons_zero, List.getElem?_cons_succ] at xb0 xb1 xb2 xb3
        have xc0 := s12.cell 0
        have xc1 := s12.cell 1
        have xc2 := s12.cell 2
        have xc3 := s12.cell 3
        simp only [List.getElem?_toArray, List.getElem?_cons_zero, List.getElem?_cons_succ] at xc0 xc1 xc2 xc3
        have xd0 := s14.cell 0
        have xd1 := s14.cell 1
        have xd2 := s14.cell 2
        have xd3 := s14.cell 3
        simp only [List.getElem?_toArray, List.getElem?_cons_zero, List.getElem?_cons_succ] at xd0 xd1 xd2 xd3
        have xe0 := sN.cell 0
        have xe1 := sN.cell 1
        have xe2 := sN.cell 2
        have xe3 := sN.cell 3
        simp only [List.getElem?_toArray, List.getElem?_cons_zero, List.getElem?_cons_succ] at xe0 xe1 xe2 xe3
        have xf0 := sM.cell 0
        have xf1 := sM.cell 1
        have xf2 := sM.cell 2
        have xf3 := sM.cell 3
        simp only [List.getElem?_toArray, List.getElem?_cons_zero, List.getElem?_cons_succ] at xf0 xf1 xf2 xf3
        have l9 := s9.lt
        have l10 := s10.lt
        have l12 := s12.lt
        have l14 := s14.lt
        have lN := sN.lt
        have lM := sM.lt
        have H12 := Lib.hid (H4.out.1.then_ (H10.out.1.then_ k12))
        clear k11 r11 hk12 k12 s9 s10 s12 s14 sN sM
        go_wp2_with fail
        refine (known6_any _).mono ?_
        rintro e w13 ⟨rfl, hk13⟩
        have H13 := Lib.hid ((H12.out.then_alloc _).then_ hk13)
        clear hk13
        go_wp2
        go_ret
        exact ⟨rfl, H13.out⟩

theorem metaNewer_came (w : World) (t r f h t' r' f' h' : Int) :
    Calls Try.prog 11 #[.agg #[.int .i64 t, .int .i64 r, .int .i64 f, .int .i64 h], .agg #[.int .i64 t', .int .i64 r', .int .i64 f', .int .i64 h']] w fun e w' => e = .returned (.bool true) ∧ Keeps w w' [] := by
  cases hok : metaOk t r f h
  · exact metaNewer_no1 w t r f h t' r' f' h' hok
  · cases hok' : metaOk t' r' f' h'
    · exact metaNewer_no2 w t r f h t' r' f' h' hok hok'
    · exact metaNewer_yes w t r f h t' r' f' h' hok hok'
end Go.Proofs.Ythepcoifcoinoaa
