/- Package space: copies; Undo; Copy. Package space: Same. Package space: New. Package space: Lasts. Package space: Take. Package space: the operations at a space made since a world. Layer 7: the statements' own 'known'. Package space: a space that is not there. The statement SpaceNil (layer 7): its walk. -/
import Derived.Test.YtanbdkfkkochgaaPa16
import Derived.Test.YtanbdkfkkochgaaPa11

namespace Go.Proofs.Ytanbdkfkkochgaa
open Go.RowKit Go.Maps Go.Shelf

set_option maxRecDepth 100000 in
set_option maxHeartbeats 1000000 in
theorem spCopied_any {w : World} {b : Nat} {f : Int → Option Value} (h : PMap w b f) (n : Int) :
    Calls Try.prog 27 #[.agg #[.int .i64 n, .map (some b)]] w fun e w' => ∃ b', e = .returned (.agg #[.int .i64 n, .map (some b')]) ∧ PMap w' b' f ∧ w.heap.size ≤ b' ∧ Keeps w w' [] := by
  have H := Lib.hid h
  clear h
  go_enter Try.func27, Try.ntmps27
  go_wp2_with fail
  obtain ⟨W0, hW0⟩ : ∃ W0, (w.alloc (.cells #[.int .i64 n, .map (some b)] 57)).alloc (.cells #[.int .i64 0, .map none] 57) = W0 := ⟨_, rfl⟩
  have r1 : Row W0 w.heap.size 57 #[.int .i64 n, .map (some b)] := by rw [← hW0]; exact (Row.new _ _ _).alloc _
  have r2 : Row W0 (w.heap.size + 1) 57 #[.int .i64 0, .map none] := by
    rw [← hW0]
    have := Row.new (w.alloc (.cells #[.int .i64 n, .map (some b)] 57)) 57 #[.int .i64 0, .map none]
    rwa [World.size_alloc] at this
  have k0 : Keeps w W0 [] := by rw [← hW0]; exact (Keeps.alloc _ _).then_alloc _
  rw [hW0]
  have HR := Lib.hid (And.intro r2 k0)
  have HP := Lib.hid (H.out.keep k0 (by simp))
  have M1 := fun (W : World) (hW : Keeps W0 W []) => (r1.keeps hW).cell 0
  have M2 := fun (W : World) (hW : Keeps W0 W []) => (r1.keeps hW).cell 1
  simp only [List.getElem?_toArray, List.getElem?_cons_zero, List.getElem?_cons_succ] at M1 M2
  clear hW0 r1 r2 k0
  refine wp_region_tail KeepsAll _ 5 (by kernel_rfl) rfl (by kernel_rfl) (fun _ => Keeps.refl _ _) (fun _ _ _ h k => h.trans k (by simp)) (Keeps.drew _) ?_
  simp only [List.take_succ_cons, List.take_zero, List.drop_succ_cons, List.drop_zero]
  apply loose_is
  · intro W vals hW hkn
    clear hkn
    refine ⟨?_⟩
    simp only [fill]
    go_simp
    first | exact ⟨Keeps.refl _ _, rfl⟩ | exact ⟨Keeps.alloc _ _, rfl⟩
  simp only [addEnt]
  apply loose_is
  · intro W vals hW hkn
    clear hkn
    refine ⟨?_⟩
    simp only [fill]
    go_simp
    first | exact ⟨Keeps.refl _ _, rfl⟩ | exact ⟨Keeps.alloc _ _, rfl⟩
  simp only [addEnt]
  apply loose_is
  · intro W vals hW hkn
    clear hkn
    refine ⟨?_⟩
    simp only [fill]
    go_simp
    first | exact ⟨Keeps.refl _ _, rfl⟩ | exact ⟨Keeps.alloc _ _, rfl⟩
  simp only [addEnt]
  apply loose_is
  · intro W vals hW hkn
    clear hkn
    refine ⟨?_⟩
    simp only [fill]
    go_simp
    first | exact ⟨Keeps.refl _ _, rfl⟩ | exact ⟨Keeps.alloc _ _, rfl⟩
  simp only [addEnt]
  refine loose_has (fun v W => ∃ b', v = .map (some b') ∧ PMap W b' f ∧ W0.heap.size ≤ b') (fun W vals hW hkn φ' hφ => ?_) ?_
  · simp only [knows] at hkn
    try simp only [and_true] at hkn
    clear hkn
    refine ⟨?_⟩
    simp only [fill]
    go_simp
    (with_reducible refine looseUpon_has hφ ?_; refine (mapsClone_any (HP.out.keep hW (by simp))).mono ?_; rintro e w2 ⟨o, rfl, rfl, hp⟩; exact ⟨_, rfl, Keeps.alloc _ _, _, rfl, hp, hW.size⟩)
  simp only [addEnt]
  refine loose_nil (fun W vals hW hkn => ?_)
  simp only [knowsAll] at hkn
  try simp only [and_true] at hkn
  simp only [fill, Act.put, List.setIfInBounds_toArray, List.set_cons_succ, List.set_cons_zero]
  obtain ⟨W1, h0, h1, b', hv, hp, hb⟩ := hkn
  have hr := HR.out.1.keeps hW
  have d0 := hr.cell 0
  have d1 := hr.cell 1
  have g0 := hr.frozen 0
  have g1 := hr.frozen 1
  simp only [List.getElem?_toArray, List.getElem?_cons_zero, List.getElem?_cons_succ] at d0 d1
  have HZ := Lib.hid (And.intro (hp.keep h1 (by simp)) (And.intro hb (And.intro hW hr)))
  rw [hv]
  clear hv hp hb h0 h1 hW hr M1 M2
  go_wp2_with fail
  obtain ⟨W9, hW9⟩ : ∃ W9, (W.setCell ⟨w.heap.size + 1, 0, none⟩ (.int .i64 n)).setCell ⟨w.heap.size + 1, 1, none⟩ (.map (some b')) = W9 := ⟨_, rfl⟩
  have r9 : Row W9 (w.heap.size + 1) 57 #[.int .i64 n, .map (some b')] := by rw [← hW9]; exact (HZ.out.2.2.2.store 0 _).store 1 _
  have k9 : Keeps W W9 [w.heap.size + 1] := by rw [← hW9]; exact (Keeps.setCell _ _ _).trans (Keeps.setCell _ _ _) (by simp)
  rw [hW9]
  have e0 := r9.cell 0
  have e1 := r9.cell 1
  simp at e0 e1
  refine bodyPost_ret (v := .agg #[.int .i64 n, .map (some b')]) (by simp [results, Try.results27, go_sem, e0, e1]) rfl ⟨b', rfl, HZ.out.1.keep k9 ?_, ?_, ?_⟩
  · have := IMap.ne_row HZ.out.1 HZ.out.2.2.2
    simpa using this
  · have h1 := HZ.out.2.1
    have h2 := HR.out.2.size
    omega
  · exact (HR.out.2.trans HZ.out.2.2.1 (by simp)).trans k9 (fun x hx hlt => by simp at hx; omega)
set_option maxRecDepth 100000 in
set_option maxHeartbeats 1000000 in
theorem spUndo_any {w : World} {s m1 m2 most : Nat} {L M : List Nat} (h : SpAt w s m1 m2 most L M) :
    Calls Try.prog 14 #[.pointer (some ⟨s, 0, none⟩)] w fun e w' => e = .returned (.int .i64 0) ∧ ∃ n1, SpPost w w' s m1 m2 most M M n1 m2 := by
  have HN := Lib.hid (spNone_any h)
  have H := Lib.hid h
  have HC := Lib.hid (spCopied_any h.p2 (M.length : Nat))
  have c0 := h.row.cell 0
  have c1 := h.row.cell 1
  have c2 := h.row.cell 2
  have c3 := h.row.cell 3
  have c4 := h.row.cell 4
  simp only [List.getElem?_toArray, List.getElem?_cons_zero, List.getElem?_cons_succ] at c0 c1 c2 c3 c4
  clear h
  go_enter Try.func14, Try.ntmps14
  go_wp2_with fail
  refine HN.out.mono ?_
  rintro e w' ⟨rfl, rfl⟩
  go_wp2_with fail
  refine HC.out.mono ?_
  rintro e w1 ⟨b', rfl, hp, hb, hk⟩
  have HZ := Lib.hid (And.intro (H.out.keeps hk) (And.intro hp (And.intro hb hk)))
  have hr := H.out.row.keeps hk
  have g0 := hr.frozen 0
  have g1 := hr.frozen 1
  have d0 := hr.cell 0
  have d1 := hr.cell 1
  have d2 := hr.cell 2
  have d3 := hr.cell 3
  have d4 := hr.cell 4
  simp only [List.getElem?_toArray, List.getElem?_cons_zero, List.getElem?_cons_succ] at d0 d1 d2 d3 d4
  clear hp hb hk hr c0 c1 c2 c3 c4
  go_wp2_with fail
  go_ret
  have hrow := (HZ.out.1.row.store 0 (.int .i64 (M.length : Nat))).store 1 (.map (some b'))
  have k9 : Keeps w1 ((w1.setCell ⟨s, 0, none⟩ (.int .i64 (M.length : Nat))).setCell ⟨s, 1, none⟩ (.map (some b'))) [s] := (Keeps.setCell _ _ _).trans (Keeps.setCell _ _ _) (by simp)
  have hns := IMap.ne_row HZ.out.2.1 HZ.out.1.row
  have hn2 := IMap.ne_row H.out.p2 H.out.row
  refine ⟨rfl, b', ⟨hrow, HZ.out.2.1.keep k9 (by simpa using hns), HZ.out.1.p2.keep k9 (by simpa using hn2), ?_, H.out.ok2, H.out.ok2, H.out.le2, H.out.le2, H.out.le⟩, (HZ.out.2.2.2.weaken (by simp)).trans k9 (by simp), .inr HZ.out.2.2.1, .inl rfl⟩
  have h1 := H.out.p2.lt
  have h2 := HZ.out.2.2.1
  omega
/-- Another space that stands alike, of blocks of the call's own. -/
structure SpNew (w w' : World) (s n1 n2 most : Nat) (L M : List Nat) : Prop where
  at_ : SpAt w' s n1 n2 most L M
  h : Keeps w w' []
  f0 : w.heap.size ≤ s
  f1 : w.heap.size ≤ n1
  f2 : w.heap.size ≤ n2
set_option maxRecDepth 100000 in
set_option maxHeartbeats 1000000 in
theorem spCopy_any {w : World} {s m1 m2 most : Nat} {L M : List Nat} (h : SpAt w s m1 m2 most L M) :
    Calls Try.prog 23 #[.pointer (some ⟨s, 0, none⟩)] w fun e w' => ∃ s' n1 n2, e = .returned (.pointer (some ⟨s', 0, none⟩)) ∧ SpNew w w' s' n1 n2 most L M := by
  have HN := Lib.hid (spNone_any h)
  have H := Lib.hid h
  clear h
  go_enter Try.func23, Try.ntmps23
  go_wp2_with fail
  refine HN.out.mono ?_
  rintro e w' ⟨rfl, rfl⟩
  go_wp2_with fail
  have M1 := fun (W : World) (hW : Keeps w W []) => (H.out.row.keeps hW).cell 0
  have M2 := fun (W : World) (hW : Keeps w W []) => (H.out.row.keeps hW).cell 1
  have M3 := fun (W : World) (hW : Keeps w W []) => (H.out.row.keeps hW).cell 2
  have M4 := fun (W : World) (hW : Keeps w W []) => (H.out.row.keeps hW).cell 3
  have M5 := fun (W : World) (hW : Keeps w W []) => (H.out.row.keeps hW).cell 4
  simp only [List.getElem?_toArray, List.getElem?_cons_zero, List.getElem?_cons_succ] at M1 M2 M3 M4 M5
  refine wp_region_tailW KeepsAll _ 14 (by kernel_rfl) rfl (by kernel_rfl) (fun _ => Keeps.refl _ _) (fun _ _ _ h k => h.trans k (by simp)) (Keeps.drew _) ?_
  simp only [List.take_succ_cons, List.take_zero, List.drop_succ_cons, List.drop_zero]
  apply loosew_is
  · intro W vals hW hkn
    clear hkn
    refine ⟨?_⟩
    simp only [fill]
    go_simp
    first | exact ⟨Keeps.refl _ _, rfl⟩ | exact ⟨Keeps.alloc _ _, rfl⟩
  simp only [addEnt]
  apply loosew_is
  · intro W vals hW hkn
    clear hkn
    refine ⟨?_⟩
    simp only [fill]
    go_simp
    first | exact ⟨Keeps.refl _ _, rfl⟩ | exact ⟨Keeps.alloc _ _, rfl⟩
  simp only [addEnt]
  apply loosew_is
  · intro W vals hW hkn
    clear hkn
    refine ⟨?_⟩
    simp only [fill]
    go_simp
    first | exact ⟨Keeps.refl _ _, rfl⟩ | exact ⟨Keeps.alloc _ _, rfl⟩
  simp only [addEnt]
  apply loosew_is
  · intro W vals hW hkn
    clear hkn
    refine ⟨?_⟩
    simp only [fill]
    go_simp
    first | exact ⟨Keeps.refl _ _, rfl⟩ | exact ⟨Keeps.alloc _ _, rfl⟩
  simp only [addEnt]
  refine loosew_had [] (fun _ v W => ∃ b, v = .agg #[.int .i64 (L.length : Nat), .map (some b)] ∧ PMap W b (spF L) ∧ w.heap.size ≤ b) (by kernel_rfl) (fun W vals hW hkn φ' hφ => ?_) ?_
  · simp only [knows] at hkn
    try simp only [and_true] at hkn
    clear hkn
    refine ⟨?_⟩
    simp only [fill]
    go_simp
    (with_reducible refine looseUpon_has hφ ?_; refine (spCopied_any (H.out.p1.keep hW (by simp)) _).mono ?_; rintro e w2 ⟨b, rfl, hp, hb, hk⟩; exact ⟨_, rfl, hk, b, rfl, hp, Nat.le_trans hW.size hb⟩)
  simp only [addEnt]
  apply loosew_is
  · intro W vals hW hkn
    clear hkn
    refine ⟨?_⟩
    simp only [fill]
    go_simp
    first | exact ⟨Keeps.refl _ _, rfl⟩ | exact ⟨Keeps.alloc _ _, rfl⟩
  simp only [addEnt]
  apply loosew_is
  · intro W vals hW hkn
    clear hkn
    refine ⟨?_⟩
    simp only [fill]
    go_simp
    first | exact ⟨Keeps.refl _ _, rfl⟩ | exact ⟨Keeps.alloc _ _, rfl⟩
  simp only [addEnt]
  apply loosew_is
  · intro W vals hW hkn
    clear hkn
    refine ⟨?_⟩
    simp only [fill]
    go_simp
    first | exact ⟨Keeps.refl _ _, rfl⟩ | exact ⟨Keeps.alloc _ _, rfl⟩
  simp only [addEnt]
  apply loosew_is
  · intro W vals hW hkn
    clear hkn
    refine ⟨?_⟩
    simp only [fill]
    go_simp
    first | exact ⟨Keeps.refl _ _, rfl⟩ | exact ⟨Keeps.alloc _ _, rfl⟩
  simp only [addEnt]
  refine loosew_had [9] (fun rd v W => ∃ b b9, rd = [.agg #[.int .i64 (L.length : Nat), .map (some b9)]] ∧ v = .agg #[.int .i64 (M.length : Nat), .map (some b)] ∧ PMap W b (spF M) ∧ w.heap.size ≤ b ∧ b9 ≠ b) (by kernel_rfl) (fun W vals hW hkn φ' hφ => ?_) ?_
  · simp only [knows] at hkn
    try simp only [and_true] at hkn
    obtain ⟨W1, h0, h1, b9, hv9, hp9, hb9⟩ := hkn (by decide); have H9 := Lib.hid (And.intro hv9 (Nat.lt_of_lt_of_le hp9.lt h1.size)); clear hkn hv9 hp9 hb9 h0 h1
    refine ⟨?_⟩
    simp only [fill]
    go_simp
    (with_reducible refine looseUpon_has hφ ?_; refine (spCopied_any (H.out.p2.keep hW (by simp)) _).mono ?_; rintro e w2 ⟨b, rfl, hp, hb, hk⟩; exact ⟨_, rfl, hk, b, b9, by simp [H9.out.1], rfl, hp, Nat.le_trans hW.size hb, by have := H9.out.2; omega⟩)
  simp only [addEnt]
  apply loosew_is
  · intro W vals hW hkn
    clear hkn
    refine ⟨?_⟩
    simp only [fill]
    go_simp
    first | exact ⟨Keeps.refl _ _, rfl⟩ | exact ⟨Keeps.alloc _ _, rfl⟩
  simp only [addEnt]
  apply loosew_is
  · intro W vals hW hkn
    clear hkn
    refine ⟨?_⟩
    simp only [fill]
    go_simp
    first | exact ⟨Keeps.refl _ _, rfl⟩ | exact ⟨Keeps.alloc _ _, rfl⟩
  simp only [addEnt]
  apply loosew_is
  · intro W vals hW hkn
    clear hkn
    refine ⟨?_⟩
    simp only [fill]
    go_simp
    first | exact ⟨Keeps.refl _ _, rfl⟩ | exact ⟨Keeps.alloc _ _, rfl⟩
  simp only [addEnt]
  apply loosew_is
  · intro W vals hW hkn
    clear hkn
    refine ⟨?_⟩
    simp only [fill]
    go_simp
    first | exact ⟨Keeps.refl _ _, rfl⟩ | exact ⟨Keeps.alloc _ _, rfl⟩
  simp only [addEnt]
  refine loosew_nil (fun W vals hW hkn => ?_)
  simp only [knowsAll] at hkn
  try simp only [and_true] at hkn
  simp only [fill, Act.put, List.setIfInBounds_toArray, List.set_cons_succ, List.set_cons_zero]
  obtain ⟨⟨W1, g1, g2, n2, b9, e9, hv14, hp2, hb2, hne⟩, W3, g3, g4, n1, hv9, hp1, hb1⟩ := hkn
  have hn : b9 = n1 := by
    have e : vals 9 = .agg #[.int .i64 (L.length : Nat), .map (some b9)] := by simpa using e9
    rw [hv9] at e
    simpa using e.symm
  rw [hv9, hv14]
  have HZ := Lib.hid (And.intro (hp1.keep g4 (by simp)) (And.intro (hp2.keep g2 (by simp)) (And.intro hb1 (And.intro hb2 (And.intro (show n1 ≠ n2 by rw [← hn]; exact hne) (show Keeps w W [] from hW))))))
  clear g1 g2 e9 hv14 hp2 hb2 hne g3 g4 hv9 hp1 hb1 hn hW M1 M2 M3 M4 M5
  go_wp2_with fail
  go_ret
  have ka : Keeps W (W.alloc (.cells #[.int .i64 (L.length : Nat), .map (some n1), .int .i64 (M.length : Nat), .map (some n2), .int .i64 (most : Nat)] 59)) [] := Keeps.alloc _ _
  exact ⟨_, n1, n2, rfl, ⟨Row.new _ _ _, HZ.out.1.keep ka (by simp), HZ.out.2.1.keep ka (by simp), HZ.out.2.2.2.2.1, H.out.ok1, H.out.ok2, H.out.le1, H.out.le2, H.out.le⟩, HZ.out.2.2.2.2.2.trans ka (by simp), HZ.out.2.2.2.2.2.size, HZ.out.2.2.1, HZ.out.2.2.2.1⟩
end Go.Proofs.Ytanbdkfkkochgaa

namespace Go.Proofs.Ytanbdkfkkochgaa
open Go.RowKit Go.Maps Go.Shelf

set_option maxRecDepth 100000 in
set_option maxHeartbeats 1000000 in
theorem spStSame_any {w : World} {b c : Nat} {L M : List Nat} (h1 : PMap w b (spF L)) (h2 : PMap w c (spF M)) (o1 : SpOk L) (o2 : SpOk M) :
    Calls Try.prog 38 #[.agg #[.int .i64 (L.length : Nat), .map (some b)], .agg #[.int .i64 (M.length : Nat), .map (some c)]] w fun e w' => e = .returned (.bool (decide (L = M))) ∧ Keeps w w' [] := by
  have HE := Lib.hid (fun W (hk : Keeps w W []) => mapsEqual_any (h1.keep hk (by simp)) (h2.keep hk (by simp)) (spF_ints L) (spF_ints M))
  have HI := Lib.hid (And.intro o1 o2)
  clear h1 h2 o1 o2
  by_cases hl : L.length = M.length
  · have hb : ((L.length : Int) == (M.length : Int)) = true := by simp [hl]
    have HL := Lib.hid hl
    clear hl
    go_enter Try.func38, Try.ntmps38
    go_wp2_with fail
    refine (HE.out _ ((Keeps.alloc _ _).then_alloc _)).mono ?_
    rintro e w1 ⟨r, rfl, hr, hk⟩
    have H1 := Lib.hid (And.intro hr ((((Keeps.alloc _ _).then_alloc _).trans hk (by simp) : Keeps w w1 [])))
    clear hr hk
    go_wp2_with fail
    go_ret
    refine ⟨?_, H1.out.2⟩
    have : r = decide (L = M) := by
      rw [Bool.eq_iff_iff, decide_eq_true_eq, H1.out.1]
      exact ⟨fun h => spF_inj HI.out.1 HI.out.2 HL.out h, fun h => by rw [h]⟩
    rw [← this]
    rfl
  · have hb : ((L.length : Int) == (M.length : Int)) = false := by simp; omega
    have HL := Lib.hid (show decide (L = M) = false by simpa using fun h => hl (by rw [h]))
    clear hl
    go_enter Try.func38, Try.ntmps38
    go_wp2_with fail
    go_ret
    exact ⟨by rw [HL.out]; rfl, (Keeps.alloc _ _).then_alloc _⟩
set_option maxRecDepth 100000 in
set_option maxHeartbeats 2000000 in
theorem spSame_any {w : World} {s m1 m2 most t k1 k2 most' : Nat} {L M L' M' : List Nat} (h : SpAt w s m1 m2 most L M) (h' : SpAt w t k1 k2 most' L' M') :
    Calls Try.prog 24 #[.pointer (some ⟨s, 0, none⟩), .pointer (some ⟨t, 0, none⟩)] w fun e w' => e = .returned (.bool (decide (most = most' ∧ L = L' ∧ M = M'))) ∧ Keeps w w' [] := by
  have HN := Lib.hid (spNone_any h)
  have HN' := Lib.hid (spNone_any h')
  have H := Lib.hid h
  have H' := Lib.hid h'
  have h1 := fun (W : World) (hk : Keeps w W []) => spStSame_any (h.p1.keep hk (by simp)) (h'.p1.keep hk (by simp)) h.ok1 h'.ok1
  have h2 := fun (W : World) (hk : Keeps w W []) => spStSame_any (h.p2.keep hk (by simp)) (h'.p2.keep hk (by simp)) h.ok2 h'.ok2
  have HD := Lib.hid (show decide (most = most' ∧ L = L' ∧ M = M') = (decide (most = most') && (decide (L = L') && decide (M = M'))) by rw [Bool.decide_and, Bool.decide_and])
  have hmb : ((most : Int) == (most' : Int)) = decide (most = most') := by
    rw [Bool.eq_iff_iff]; simp; omega
  obtain ⟨B0, hB0⟩ : ∃ B, decide (most = most') = B := ⟨_, rfl⟩
  obtain ⟨B1, hB1⟩ : ∃ B, decide (L = L') = B := ⟨_, rfl⟩
  obtain ⟨B2, hB2⟩ : ∃ B, decide (M = M') = B := ⟨_, rfl⟩
  rw [hB0] at hmb HD
  rw [hB1] at h1 HD
  rw [hB2] at h2 HD
  have HS1 := Lib.hid h1
  have HS2 := Lib.hid h2
  have M0 := fun (W : World) (hW : Keeps w W []) => (H.out.row.keeps hW).cell 0
  have M1 := fun (W : World) (hW : Keeps w W []) => (H.out.row.keeps hW).cell 1
  have M2 := fun (W : World) (hW : Keeps w W []) => (H.out.row.keeps hW).cell 2
  have M3 := fun (W : World) (hW : Keeps w W []) => (H.out.row.keeps hW).cell 3
  have M4 := fun (W : World) (hW : Keeps w W []) => (H.out.row.keeps hW).cell 4
  have N0 := fun (W : World) (hW : Keeps w W []) => (H'.out.row.keeps hW).cell 0
  have N1 := fun (W : World) (hW : Keeps w W []) => (H'.out.row.keeps hW).cell 1
  have N2 := fun (W : World) (hW : Keeps w W []) => (H'.out.row.keeps hW).cell 2
  have N3 := fun (W : World) (hW : Keeps w W []) => (H'.out.row.keeps hW).cell 3
  have N4 := fun (W : World) (hW : Keeps w W []) => (H'.out.row.keeps hW).cell 4
  simp only [List.getElem?_toArray, List.getElem?_cons_zero, List.getElem?_cons_succ] at M0 M1 M2 M3 M4 N0 N1 N2 N3 N4
  clear h h' h1 h2 hB0 hB1 hB2
  go_enter Try.func24, Try.ntmps24
  go_wp2_with fail
  refine HN.out.mono ?_
  rintro e w' ⟨rfl, rfl⟩
  go_wp2_with fail
  refine HN'.out.mono ?_
  rintro e w' ⟨rfl, rfl⟩
  go_wp2_with fail
  refine wp_region_keeps _ (by kernel_rfl) rfl (by kernel_rfl) ?_
  apply loose_is
  · intro W vals hW hkn
    clear hkn
    refine ⟨?_⟩
    simp only [fill]
    go_simp
    first | exact ⟨Keeps.refl _ _, rfl⟩ | exact ⟨Keeps.alloc _ _, rfl⟩
  simp only [addEnt]
  apply loose_is
  · intro W vals hW hkn
    clear hkn
    refine ⟨?_⟩
    simp only [fill]
    go_simp
    first | exact ⟨Keeps.refl _ _, rfl⟩ | exact ⟨Keeps.alloc _ _, rfl⟩
  simp only [addEnt]
  apply loose_is
  · intro W vals hW hkn
    clear hkn
    refine ⟨?_⟩
    simp only [fill]
    go_simp
    first | exact ⟨Keeps.refl _ _, rfl⟩ | exact ⟨Keeps.alloc _ _, rfl⟩
  simp only [addEnt]
  apply loose_is
  · intro W vals hW hkn
    clear hkn
    refine ⟨?_⟩
    simp only [fill]
    go_simp
    first | exact ⟨Keeps.refl _ _, rfl⟩ | exact ⟨Keeps.alloc _ _, rfl⟩
  simp only [addEnt]
  apply loose_is
  · intro W vals hW hkn
    clear hkn
    refine ⟨?_⟩
    simp only [fill]
    go_simp
    first | exact ⟨Keeps.refl _ _, rfl⟩ | exact ⟨Keeps.alloc _ _, rfl⟩
  simp only [addEnt]
  apply loose_is
  · intro W vals hW hkn
    clear hkn
    refine ⟨?_⟩
    simp only [fill]
    go_simp
    first | exact ⟨Keeps.refl _ _, rfl⟩ | exact ⟨Keeps.alloc _ _, rfl⟩
  simp only [addEnt]
  apply loose_is
  · intro W vals hW hkn
    clear hkn
    refine ⟨?_⟩
    simp only [fill]
    go_simp
    first | exact ⟨Keeps.refl _ _, rfl⟩ | exact ⟨Keeps.alloc _ _, rfl⟩
  simp only [addEnt]
  apply loose_is
  · intro W vals hW hkn
    clear hkn
    refine ⟨?_⟩
    simp only [fill]
    go_simp
    first | exact ⟨Keeps.refl _ _, rfl⟩ | exact ⟨Keeps.alloc _ _, rfl⟩
  simp only [addEnt]
  apply loose_is
  · intro W vals hW hkn
    clear hkn
    refine ⟨?_⟩
    simp only [fill]
    go_simp
    first | exact ⟨Keeps.refl _ _, rfl⟩ | exact ⟨Keeps.alloc _ _, rfl⟩
  simp only [addEnt]
  apply loose_is
  · intro W vals hW hkn
    clear hkn
    refine ⟨?_⟩
    simp only [fill]
    go_simp
    first | exact ⟨Keeps.refl _ _, rfl⟩ | exact ⟨Keeps.alloc _ _, rfl⟩
  simp only [addEnt]
  cases B0
  · skip
    refine loose_off (fun vals => by kernel_rfl) ?_
    simp only [addEnt]
    refine loose_off (fun vals => by kernel_rfl) ?_
    simp only [addEnt]
    refine loose_off (fun vals => by kernel_rfl) ?_
    simp only [addEnt]
    refine loose_off (fun vals => by kernel_rfl) ?_
    simp only [addEnt]
    refine loose_off (fun vals => by kernel_rfl) ?_
    simp only [addEnt]
    refine loose_off (fun vals => by kernel_rfl) ?_
    simp only [addEnt]
    refine loose_off (fun vals => by kernel_rfl) ?_
    simp only [addEnt]
    refine loose_off (fun vals => by kernel_rfl) ?_
    simp only [addEnt]
    refine loose_off (fun vals => by kernel_rfl) ?_
    simp only [addEnt]
    apply loose_is
    · intro W vals hW hkn
      clear hkn
      refine ⟨?_⟩
      simp only [fill]
      go_simp
      first | exact ⟨Keeps.refl _ _, rfl⟩ | exact ⟨Keeps.alloc _ _, rfl⟩
    simp only [addEnt]
    apply loose_is
    · intro W vals hW hkn
      clear hkn
      refine ⟨?_⟩
      simp only [fill]
      go_simp
      first | exact ⟨Keeps.refl _ _, rfl⟩ | exact ⟨Keeps.alloc _ _, rfl⟩
    simp only [addEnt]
    refine loose_off (fun vals => by kernel_rfl) ?_
    simp only [addEnt]
    refine loose_off (fun vals => by kernel_rfl) ?_
    simp only [addEnt]
    refine loose_off (fun vals => by kernel_rfl) ?_
    simp only [addEnt]
    refine loose_off (fun vals => by kernel_rfl) ?_
    simp only [addEnt]
    refine loose_off (fun vals => by kernel_rfl) ?_
    simp only [addEnt]
    refine loose_off (fun vals => by kernel_rfl) ?_
    simp only [addEnt]
    refine loose_off (fun vals => by kernel_rfl) ?_
    simp only [addEnt]
    refine loose_off (fun vals => by kernel_rfl) ?_
    simp only [addEnt]
    refine loose_off (fun vals => by kernel_rfl) ?_
    simp only [addEnt]
    apply loose_is
    · intro W vals hW hkn
      clear hkn
      refine ⟨?_⟩
      simp only [fill]
      go_simp
      first | exact ⟨Keeps.refl _ _, rfl⟩ | exact ⟨Keeps.alloc _ _, rfl⟩
    simp only [addEnt]
    apply loose_is
    · intro W vals hW hkn
      clear hkn
      refine ⟨?_⟩
      simp only [fill]
      go_simp
      first | exact ⟨Keeps.refl _ _, rfl⟩ | exact ⟨Keeps.alloc _ _, rfl⟩
    simp only [addEnt]
    refine loose_nil (fun W vals hW hkn => ?_)
    simp only [knowsAll] at hkn
    try simp only [and_true] at hkn
    simp only [fill, Act.put, List.setIfInBounds_toArray, List.set_cons_succ, List.set_cons_zero]
    clear hkn
    have HW := Lib.hid hW
    clear hW M0 M1 M2 M3 M4 N0 N1 N2 N3 N4
    go_wp2_with fail
    go_ret
    exact ⟨by rw [HD.out]; rfl, HW.out⟩
  · skip
    apply loose_is
    · intro W vals hW hkn
      clear hkn
      refine ⟨?_⟩
      simp only [fill]
      go_simp
      first | exact ⟨Keeps.refl _ _, rfl⟩ | exact ⟨Keeps.alloc _ _, rfl⟩
    simp only [addEnt]
    apply loose_is
    · intro W vals hW hkn
      clear hkn
      refine ⟨?_⟩
      simp only [fill]
      go_simp
      first | exact ⟨Keeps.refl _ _, rfl⟩ | exact ⟨Keeps.alloc _ _, rfl⟩
    simp only [addEnt]
    apply loose_is
    · intro W vals hW hkn
      clear hkn
      refine ⟨?_⟩
      simp only [fill]
      go_simp
      first | exact ⟨Keeps.refl _ _, rfl⟩ | exact ⟨Keeps.alloc _ _, rfl⟩
    simp only [addEnt]
    apply loose_is
    · intro W vals hW hkn
      clear hkn
      refine ⟨?_⟩
      simp only [fill]
      go_simp
      first | exact ⟨Keeps.refl _ _, rfl⟩ | exact ⟨Keeps.alloc _ _, rfl⟩
    simp only [addEnt]
    apply loose_is
    · intro W vals hW hkn
      clear hkn
      refine ⟨?_⟩
      simp only [fill]
      go_simp
      first | exact ⟨Keeps.refl _ _, rfl⟩ | exact ⟨Keeps.alloc _ _, rfl⟩
    simp only [addEnt]
    apply loose_is
    · intro W vals hW hkn
      clear hkn
      refine ⟨?_⟩
      simp only [fill]
      go_simp
      first | exact ⟨Keeps.refl _ _, rfl⟩ | exact ⟨Keeps.alloc _ _, rfl⟩
    simp only [addEnt]
    apply loose_is
    · intro W vals hW hkn
      clear hkn
      refine ⟨?_⟩
      simp only [fill]
      go_simp
      first | exact ⟨Keeps.refl _ _, rfl⟩ | exact ⟨Keeps.alloc _ _, rfl⟩
    simp only [addEnt]
    apply loose_is
    · intro W vals hW hkn
      clear hkn
      refine ⟨?_⟩
      simp only [fill]
      go_simp
      first | exact ⟨Keeps.refl _ _, rfl⟩ | exact ⟨Keeps.alloc _ _, rfl⟩
    simp only [addEnt]
    apply loose_is
    · intro W vals hW hkn
      clear hkn
      refine ⟨?_⟩
      simp only [fill]
      go_simp
      refine looseUpon_calls ?_
      exact (HS1.out W hW).mono (by rintro e w3 ⟨rfl, hk⟩; exact ⟨_, rfl, hk, rfl⟩)
    simp only [addEnt]
    apply loose_is
    · intro W vals hW hkn
      clear hkn
      refine ⟨?_⟩
      simp only [fill]
      go_simp
      first | exact ⟨Keeps.refl _ _, rfl⟩ | exact ⟨Keeps.alloc _ _, rfl⟩
    simp only [addEnt]
    apply loose_is
    · intro W vals hW hkn
      clear hkn
      refine ⟨?_⟩
      simp only [fill]
      go_simp
      first | exact ⟨Keeps.refl _ _, rfl⟩ | exact ⟨Keeps.alloc _ _, rfl⟩
    simp only [addEnt]
    cases B1
    · skip
      refine loose_off (fun vals => by kernel_rfl) ?_
      simp only [addEnt]
      refine loose_off (fun vals => by kernel_rfl) ?_
      simp only [addEnt]
      refine loose_off (fun vals => by kernel_rfl) ?_
      simp only [addEnt]
      refine loose_off (fun vals => by kernel_rfl) ?_
      simp only [addEnt]
      refine loose_off (fun vals => by kernel_rfl) ?_
      simp only [addEnt]
      refine loose_off (fun vals => by kernel_rfl) ?_
      simp only [addEnt]
      refine loose_off (fun vals => by kernel_rfl) ?_
      simp only [addEnt]
      refine loose_off (fun vals => by kernel_rfl) ?_
      simp only [addEnt]
      refine loose_off (fun vals => by kernel_rfl) ?_
      simp only [addEnt]
      apply loose_is
      · intro W vals hW hkn
        clear hkn
        refine ⟨?_⟩
        simp only [fill]
        go_simp
        first | exact ⟨Keeps.refl _ _, rfl⟩ | exact ⟨Keeps.alloc _ _, rfl⟩
      simp only [addEnt]
      apply loose_is
      · intro W vals hW hkn
        clear hkn
        refine ⟨?_⟩
        simp only [fill]
        go_simp
        first | exact ⟨Keeps.refl _ _, rfl⟩ | exact ⟨Keeps.alloc _ _, rfl⟩
      simp only [addEnt]
      refine loose_nil (fun W vals hW hkn => ?_)
      simp only [knowsAll] at hkn
      try simp only [and_true] at hkn
      simp only [fill, Act.put, List.setIfInBounds_toArray, List.set_cons_succ, List.set_cons_zero]
      clear hkn
      have HW := Lib.hid hW
      clear hW M0 M1 M2 M3 M4 N0 N1 N2 N3 N4
      go_wp2_with fail
      go_ret
      exact ⟨by rw [HD.out]; rfl, HW.out⟩
    · skip
      apply loose_is
      · intro W vals hW hkn
        clear hkn
        refine ⟨?_⟩
        simp only [fill]
        go_simp
        first | exact ⟨Keeps.refl _ _, rfl⟩ | exact ⟨Keeps.alloc _ _, rfl⟩
      simp only [addEnt]
      apply loose_is
      · intro W vals hW hkn
        clear hkn
        refine ⟨?_⟩
        simp only [fill]
        go_simp
        first | exact ⟨Keeps.refl _ _, rfl⟩ | exact ⟨Keeps.alloc _ _, rfl⟩
      simp only [addEnt]
      apply loose_is
      · intro W vals hW hkn
        clear hkn
        refine ⟨?_⟩
        simp only [fill]
        go_simp
        first | exact ⟨Keeps.refl _ _, rfl⟩ | exact ⟨Keeps.alloc _ _, rfl⟩
      simp only [addEnt]
      apply loose_is
      · intro W vals hW hkn
        clear hkn
        refine ⟨?_⟩
        simp only [fill]
        go_simp
        first | exact ⟨Keeps.refl _ _, rfl⟩ | exact ⟨Keeps.alloc _ _, rfl⟩
      simp only [addEnt]
      apply loose_is
      · intro W vals hW hkn
        clear hkn
        refine ⟨?_⟩
        simp only [fill]
        go_simp
        first | exact ⟨Keeps.refl _ _, rfl⟩ | exact ⟨Keeps.alloc _ _, rfl⟩
      simp only [addEnt]
      apply loose_is
      · intro W vals hW hkn
        clear hkn
        refine ⟨?_⟩
        simp only [fill]
        go_simp
        first | exact ⟨Keeps.refl _ _, rfl⟩ | exact ⟨Keeps.alloc _ _, rfl⟩
      simp only [addEnt]
      apply loose_is
      · intro W vals hW hkn
        clear hkn
        refine ⟨?_⟩
        simp only [fill]
        go_simp
        first | exact ⟨Keeps.refl _ _, rfl⟩ | exact ⟨Keeps.alloc _ _, rfl⟩
      simp only [addEnt]
      apply loose_is
      · intro W vals hW hkn
        clear hkn
        refine ⟨?_⟩
        simp only [fill]
        go_simp
        first | exact ⟨Keeps.refl _ _, rfl⟩ | exact ⟨Keeps.alloc _ _, rfl⟩
      simp only [addEnt]
      apply loose_is
      · intro W vals hW hkn
        clear hkn
        refine ⟨?_⟩
        simp only [fill]
        go_simp
        refine looseUpon_calls ?_
        exact (HS2.out W hW).mono (by rintro e w3 ⟨rfl, hk⟩; exact ⟨_, rfl, hk, rfl⟩)
      simp only [addEnt]
      apply loose_is
      · intro W vals hW hkn
        clear hkn
        refine ⟨?_⟩
        simp only [fill]
        go_simp
        first | exact ⟨Keeps.refl _ _, rfl⟩ | exact ⟨Keeps.alloc _ _, rfl⟩
      simp only [addEnt]
      apply loose_is
      · intro W vals hW hkn
        clear hkn
        refine ⟨?_⟩
        simp only [fill]
        go_simp
        first | exact ⟨Keeps.refl _ _, rfl⟩ | exact ⟨Keeps.alloc _ _, rfl⟩
      simp only [addEnt]
      refine loose_nil (fun W vals hW hkn => ?_)
      simp only [knowsAll] at hkn
      try simp only [and_true] at hkn
      simp only [fill, Act.put, List.setIfInBounds_toArray, List.set_cons_succ, List.set_cons_zero]
      clear hkn
      have HW := Lib.hid hW
      clear hW M0 M1 M2 M3 M4 N0 N1 N2 N3 N4
      go_wp2_with fail
      go_ret
      exact ⟨by rw [HD.out]; rfl, HW.out⟩
end Go.Proofs.Ytanbdkfkkochgaa

namespace Go.Proofs.Ytanbdkfkkochgaa
open Go.RowKit Go.Maps Go.Shelf

def baseL (high : Nat) : List Nat := 0 :: 0 :: List.replicate (high - 2) 1
def risesB (last high : Int) : List Int → Bool
  | [] => true
  | n :: r => decide (last < n) && decide (n < high) && risesB n high r
def spNewL (most high : Int) (free : List Int) : Option (List Nat) := if 2 ≤ most ∧ most ≤ 4096 ∧ 2 ≤ high ∧ high ≤ most ∧ risesB 1 high free = true then some (setAll (baseL high.toNat) free 4) else none
theorem baseL_length (n : Nat) (h : 2 ≤ n) : (baseL n).length = n := by simp [baseL]; omega
theorem baseL_ok (n : Nat) (h : 2 ≤ n) (h2 : n ≤ 4096) : SpOk (baseL n) := by
  refine ⟨by rw [baseL_length n h]; exact h, by rw [baseL_length n h]; exact h2, rfl, rfl, fun m h1 hm => ?_⟩
  rw [baseL_length n h] at hm
  obtain ⟨k, rfl⟩ : ∃ k, m = k + 2 := ⟨m - 2, by omega⟩
  have : (baseL n).getD (k + 2) 0 = 1 := by
    show (List.replicate (n - 2) 1).getD k 0 = 1
    rw [List.getD_eq_getElem?_getD, List.getElem?_replicate, if_pos (by omega)]; rfl
  omega
theorem baseL_none (n : Nat) (x : Int) : spF (baseL n) x = none := by
  unfold spF
  rw [if_pos]
  unfold codeAt
  split
  · obtain ⟨k, hk⟩ : ∃ k, x.toNat = k := ⟨_, rfl⟩
    rw [hk]
    rcases k with _ | _ | k
    · exact Nat.zero_le _
    · exact Nat.zero_le _
    · show (List.replicate (n - 2) 1).getD k 0 ≤ 1
      rw [List.getD_eq_getElem?_getD, List.getElem?_replicate]
      split <;> simp
  · omega
/-- While the free ones are laid. -/
structure NewAt (w wr : World) (high : Nat) (free : List Int) (k : Nat) (ll : Int) : Prop where
  r : risesB 1 high free = risesB ll high (free.drop k)
  l1 : 1 ≤ ll
  row : Row wr (w.heap.size + 1) 57 #[.int .i64 (high : Nat), .map (some w.heap.size)]
  m : PMap wr w.heap.size (spF (setAll (baseL high) (free.take k) 4))
  ok : SpOk (setAll (baseL high) (free.take k) 4)
  h : Keeps w wr []
/-- What New answers. -/
def SpMade (w : World) (most : Int) (o : Option (List Nat)) (e : Ending) (w' : World) : Prop := match o with
  | none => e = .returned (.tuple #[.pointer none, .int .i64 2]) ∧ Keeps w w' []
  | some L => ∃ s n1 n2, e = .returned (.tuple #[.pointer (some ⟨s, 0, none⟩), .int .i64 0]) ∧ SpNew w w' s n1 n2 most.toNat L L
set_option maxRecDepth 100000 in
set_option maxHeartbeats 2000000 in
theorem spNew_bad (w : World) (most high : Int) (A : Option Addr) (n c : Nat) (h : ¬ (2 ≤ most ∧ most ≤ 4096 ∧ 2 ≤ high ∧ high ≤ most)) :
    Calls Try.prog 10 #[.int .i64 most, .int .i64 high, .slice A n c] w fun e w' => e = .returned (.tuple #[.pointer none, .int .i64 2]) ∧ Keeps w w' [] := by
  by_cases h1 : most < 2
  · clear h
    go_enter Try.func10, Try.ntmps10
    go_wp2_with fail
    go_ret2
    exact ⟨rfl, Keeps.refl _ _⟩
  · by_cases h2 : most > 4096
    · clear h
      go_enter Try.func10, Try.ntmps10
      go_wp2_with fail
      go_ret2
      exact ⟨rfl, Keeps.refl _ _⟩
    · by_cases h3 : high < 2
      · clear h
        go_enter Try.func10, Try.ntmps10
        go_wp2_with fail
        go_ret2
        exact ⟨rfl, Keeps.refl _ _⟩
      · have h4 : high > most := by omega
        clear h
        go_enter Try.func10, Try.ntmps10
        go_wp2_with fail
        go_ret2
        exact ⟨rfl, Keeps.refl _ _⟩
set_option maxRecDepth 100000 in
set_option maxHeartbeats 4000000 in
theorem spNew_ok (w : World) (most high : Nat) (A : Option Addr) (c : Nat) (free : List Int) (hA : Lies w w.heap.size A (free.map (Value.int .i64))) (h1 : 2 ≤ high) (h2 : high ≤ most) (h3 : most ≤ 4096) (hl : free.length ≤ 1000000) :
    Calls Try.prog 10 #[.int .i64 (most : Int), .int .i64 (high : Int), .slice A free.length c] w (SpMade w most (if risesB 1 high free = true then some (setAll (baseL high) free 4) else none)) := by
  obtain ⟨O, hO⟩ : ∃ O, (if risesB 1 high free = true then some (setAll (baseL high) free 4) else none) = O := ⟨_, rfl⟩
  rw [hO]
  have HO := Lib.hid hO
  clear hO
  have hmm := @run_makeMap Try.prog
  have HA := Lib.hid hA
  have hI : (2 : Int) ≤ (high : Int) ∧ (high : Int) ≤ (most : Int) ∧ (most : Int) ≤ 4096 := by omega
  obtain ⟨hI1, hI2, hI3⟩ := hI
  have d1 : ¬ ((most : Int) < 2) := by omega
  have d2 : ¬ ((most : Int) > 4096) := by omega
  have d3 : ¬ ((high : Int) < 2) := by omega
  have d4 : ¬ ((high : Int) > (most : Int)) := by omega
  have d5 : decide (most < high) = false := by simpa using h2
  clear hA
  go_enter Try.func10, Try.ntmps10
  go_wp2_with fail
  go_loopw [9, 32] (fun la i wr => ∃ (k : Nat) (ll : Int), k ≤ free.length ∧ i = .int .i64 k ∧ la = .int .i64 ll ∧ Hid (NewAt w wr high free k ll)) (fun _ i _ => free.length - (intOf i).toNat)
  case atStart =>
    refine ⟨0, 1, by omega, rfl, rfl, Lib.hid ⟨rfl, by omega, ?_, ?_, baseL_ok high h1 (by omega), (Keeps.alloc _ _).then_alloc _⟩⟩
    · have := Row.new (w.alloc (.map #[] 0)) 57 #[.int .i64 (high : Nat), .map (some w.heap.size)]
      rwa [World.size_alloc] at this
    · exact ((IMap.made w _ _).keep (Keeps.alloc _ _) (by simp)).congr (fun x => (baseL_none high x).symm)
  case round =>
    obtain ⟨k, ll, hk, rfl, rfl, HN⟩ := hrel
    by_cases hkl : k < free.length
    · obtain ⟨b, o, rfl, hb, hcell⟩ := (HA.out.keeps HN.out.h).at_ (k := k) (by simpa using hkl)
      have HD := Lib.hid (List.drop_eq_getElem_cons hkl)
      have HT := Lib.hid (List.take_succ_eq_append_getElem hkl)
      rw [List.getElem_map] at hcell
      obtain ⟨x, hx⟩ : ∃ x, free[k] = x := ⟨_, rfl⟩
      rw [hx] at hcell HD HT
      clear hx
      have hr := HN.out.row
      have c0 := hr.cell 0
      have c1 := hr.cell 1
      simp only [List.getElem?_toArray, List.getElem?_cons_zero, List.getElem?_cons_succ] at c0 c1
      have hl1 := HN.out.l1
      clear hr hb
      by_cases hx1 : x ≤ ll
      · go_wp2_with fail
        go_ret2
        have hO : O = none := by
          rw [← HO.out, HN.out.r, HD.out, risesB, decide_eq_false (by omega)]
          rfl
        subst hO
        exact ⟨rfl, HN.out.h⟩
      · by_cases hx2 : (high : Int) ≤ x
        · go_wp2_with fail
          go_ret2
          have hO : O = none := by
            rw [← HO.out, HN.out.r, HD.out, risesB, decide_eq_false (show ¬ x < (high : Int) by omega)]
            simp
          subst hO
          exact ⟨rfl, HN.out.h⟩
        · have hlen : (setAll (baseL high) (free.take k) 4).length = high := by rw [setAll_length, baseL_length high h1]
          obtain ⟨w5, hrun, hp, hk5, hmt⟩ := HN.out.m.store undI64 undPl (ks := spKeys (setAll (baseL high) (free.take k) 4)) (fun y hy => spKeys_mem.2 hy) (by have := spSel_length (fun v => decide (2 ≤ v)) (setAll (baseL high) (free.take k) 4); unfold maxLen; show (spSel _ _).length < _; omega) (x := x) (by omega) (by omega) (.int .i64 4)
          have e := spF_set (L := setAll (baseL high) (free.take k) 4) (n := x.toNat) (v := 4) (by omega)
          rw [if_neg (by omega), show ((x.toNat : Nat) : Int) = x by omega] at e
          have HP := Lib.hid (And.intro hp (And.intro hk5 e))
          have HX := Lib.hid (And.intro hx1 hx2)
          have HLE := Lib.hid hlen
          clear hp hk5 hmt e hlen
          go_wp2_with fail
          have hx1 := HX.out.1
          have hx2 := HX.out.2
          refine ⟨⟨k + 1, x, by omega, by go_num, rfl, Lib.hid ⟨?_, by omega, ?_, ?_, ?_, ?_⟩⟩, by simp [intOf]; omega⟩
          · rw [HN.out.r, HD.out, risesB, decide_eq_true (show ll < x by omega), decide_eq_true (show x < (high : Int) by omega)]
            rfl
          · exact HN.out.row.keep HP.out.2.1 (by simp)
          · rw [HT.out, setAll_snoc, HP.out.2.2]
            exact HP.out.1
          · rw [HT.out, setAll_snoc]
            exact HN.out.ok.set (by omega) (by omega)
          · exact HN.out.h.trans HP.out.2.1 (fun y hy hlt => by simp at hy; omega)
    · obtain rfl : k = free.length := by omega
      have hO : O = some (setAll (baseL high) free 4) := by
        rw [← HO.out, HN.out.r, List.drop_of_length_le (Nat.le_refl _)]
        rfl
      subst hO
      have hm := HN.out.m
      have hok := HN.out.ok
      rw [List.take_length] at hm hok
      have HZ := Lib.hid (And.intro hm (And.intro hok (show (setAll (baseL high) free 4).length = high by rw [setAll_length, baseL_length high h1])))
      have M1 := fun (W : World) (hW : Keeps wr W []) => (HN.out.row.keeps hW).cell 0
      have M2 := fun (W : World) (hW : Keeps wr W []) => (HN.out.row.keeps hW).cell 1
      simp only [List.getElem?_toArray, List.getElem?_cons_zero, List.getElem?_cons_succ] at M1 M2
      obtain ⟨L, hL⟩ : ∃ L, setAll (baseL high) free 4 = L := ⟨_, rfl⟩
      rw [hL] at HZ ⊢
      have HL := Lib.hid hL
      clear hm hok hL HO
      go_wp2_with fail
      refine wp_region_tail KeepsAll _ 4 (by kernel_rfl) rfl (by kernel_rfl) (fun _ => Keeps.refl _ _) (fun _ _ _ h k => h.trans k (by simp)) (Keeps.drew _) ?_
      simp only [List.take_succ_cons, List.take_zero, List.drop_succ_cons, List.drop_zero]
      apply loose_is
      · intro W vals hW hkn
        clear hkn
        refine ⟨?_⟩
        simp only [fill]
        go_simp
        first | exact ⟨Keeps.refl _ _, rfl⟩ | exact ⟨Keeps.alloc _ _, rfl⟩
      simp only [addEnt]
      apply loose_is
      · intro W vals hW hkn
        clear hkn
        refine ⟨?_⟩
        simp only [fill]
        go_simp
        first | exact ⟨Keeps.refl _ _, rfl⟩ | exact ⟨Keeps.alloc _ _, rfl⟩
      simp only [addEnt]
      refine loose_has (fun v W => ∃ b', v = .agg #[.int .i64 (high : Nat), .map (some b')] ∧ PMap W b' (spF L) ∧ wr.heap.size ≤ b') (fun W vals hW hkn φ' hφ => ?_) ?_
      · simp only [knows] at hkn
        try simp only [and_true] at hkn
        clear hkn
        refine ⟨?_⟩
        simp only [fill]
        go_simp
        (with_reducible refine looseUpon_has hφ ?_; refine (spCopied_any (HZ.out.1.keep hW (by simp)) _).mono ?_; rintro e w2 ⟨b, rfl, hp, hb, hk⟩; exact ⟨_, rfl, hk, b, rfl, hp, Nat.le_trans hW.size hb⟩)
      simp only [addEnt]
      apply loose_is
      · intro W vals hW hkn
        clear hkn
        refine ⟨?_⟩
        simp only [fill]
        go_simp
        first | exact ⟨Keeps.refl _ _, rfl⟩ | exact ⟨Keeps.alloc _ _, rfl⟩
      simp only [addEnt]
      refine loose_nil (fun W vals hW hkn => ?_)
      simp only [knowsAll] at hkn
      try simp only [and_true] at hkn
      simp only [fill, Act.put, List.setIfInBounds_toArray, List.set_cons_succ, List.set_cons_zero]
      obtain ⟨W1, g0, g1, b', hv, hp, hb⟩ := hkn
      rw [hv]
      have HW := Lib.hid (And.intro (hp.keep g1 (by simp)) (And.intro hb (show Keeps wr W [] from hW)))
      clear g0 g1 hv hp hb hW M1 M2
      go_wp2_with fail
      go_ret2
      have ka : Keeps W (W.alloc (.cells #[.int .i64 (high : Nat), .map (some w.heap.size), .int .i64 (high : Nat), .map (some b'), .int .i64 (most : Nat)] 59)) [] := Keeps.alloc _ _
      have hL := HL.out
      subst hL
      have hsz := HN.out.h.size
      have hml := HN.out.m.lt
      have hbl := HW.out.2.1
      refine ⟨W.heap.size, w.heap.size, b', rfl, ⟨?_, (HZ.out.1.keep HW.out.2.2 (by simp)).keep ka (by simp), HW.out.1.keep ka (by simp), by omega, HZ.out.2.1, HZ.out.2.1, ?_, ?_, ?_⟩, (HN.out.h.trans HW.out.2.2 (by simp)).trans ka (by simp), Nat.le_trans hsz HW.out.2.2.size, Nat.le_refl _, by omega⟩
      · have hr := Row.new W 59 #[.int .i64 (high : Nat), .map (some w.heap.size), .int .i64 (high : Nat), .map (some b'), .int .i64 (most : Nat)]
        rw [HZ.out.2.2]
        exact hr
      · rw [HZ.out.2.2]; show high ≤ ((most : Int)).toNat; omega
      · rw [HZ.out.2.2]; show high ≤ ((most : Int)).toNat; omega
      · show ((most : Int)).toNat ≤ 4096; omega
/-- New. -/
theorem spMake_any (w : World) (most high : Int) (A : Option Addr) (c : Nat) (free : List Int) (hA : Lies w w.heap.size A (free.map (Value.int .i64))) (hl : free.length ≤ 1000000) :
    Calls Try.prog 10 #[.int .i64 most, .int .i64 high, .slice A free.length c] w (SpMade w most (spNewL most high free)) := by
  by_cases h : 2 ≤ most ∧ most ≤ 4096 ∧ 2 ≤ high ∧ high ≤ most
  · obtain ⟨h1, h2, h3, h4⟩ := h
    obtain ⟨m, rfl⟩ : ∃ m : Nat, most = m := ⟨most.toNat, by omega⟩
    obtain ⟨k, rfl⟩ : ∃ k : Nat, high = k := ⟨high.toNat, by omega⟩
    have := spNew_ok w m k A c free hA (by omega) (by omega) (by omega) hl
    have e : spNewL (m : Int) (k : Int) free = (if risesB 1 (k : Int) free = true then some (setAll (baseL k) free 4) else none) := by
      unfold spNewL
      rw [Int.toNat_natCast]
      by_cases hr : risesB 1 (k : Int) free = true
      · rw [if_pos ⟨h1, h2, h3, h4, hr⟩, if_pos hr]
      · rw [if_neg (fun h => hr h.2.2.2.2), if_neg hr]
    rw [e]
    exact this
  · have e : spNewL most high free = none := if_neg fun h' => h ⟨h'.1, h'.2.1, h'.2.2.1, h'.2.2.2.1⟩
    rw [e]
    exact spNew_bad w most high A _ c h
end Go.Proofs.Ytanbdkfkkochgaa

namespace Go.Proofs.Ytanbdkfkkochgaa
open Go.RowKit Go.Maps Go.Shelf

theorem spLasts_two (L : List Nat) : setAll (setAll L (spSel (plIn [2]) L) 1) (spSel (plIn [3]) (setAll L (spSel (plIn [2]) L) 1)) 4 = spLasts L := by
  have p2 : ∀ v, plIn [2] v = decide (v = 2) := plIn_one 2
  have p3 : ∀ v, plIn [3] v = decide (v = 3) := plIn_one 3
  rw [setAll_sel 4 _ (by rw [p3]; decide), setAll_sel 1 _ (by rw [p2]; decide), List.map_map]
  unfold spLasts
  refine List.map_congr_left fun v _ => ?_
  simp only [Function.comp, p2, p3, decide_eq_true_eq]
  split
  · simp
  · rfl
/-- While places are turned. -/
structure LaAt (w wr : World) (s m1 m2 most : Nat) (L M : List Nat) (A : Option Addr) (c : Nat) (ks : List Int) : Prop where
  at_ : SpAt wr s m1 m2 most L M
  h : Keeps w wr [m1]
  l : OwnI wr w.heap.size (.slice A ks.length c) ks
/-- One more page is turned. -/
theorem LaAt.step {w wr w5 : World} {s m1 m2 most v : Nat} {L M : List Nat} {A : Option Addr} {c : Nat} {ks : List Int} {x : Int} (h : LaAt w wr s m1 m2 most L M A c ks) (hm : m1 < w.heap.size) (hk : Keeps wr w5 [m1]) (hx : 2 ≤ x ∧ x < L.length) (hv : 1 ≤ v ∧ v ≤ 4)
    (hp : PMap w5 m1 (spF (L.set x.toNat v))) : LaAt w w5 s m1 m2 most (L.set x.toNat v) M A c ks := by
  have hne := IMap.ne_row h.at_.p1 h.at_.row
  refine ⟨⟨?_, hp, h.at_.p2.keep hk (by simpa using h.at_.ne.symm), h.at_.ne, h.at_.ok1.set (by omega) hv, h.at_.ok2, by simpa using h.at_.le1, h.at_.le2, h.at_.le⟩, h.h.trans hk (fun y hy _ => hy), OwnI.keep h.l hk (by simpa using hm)⟩
  rw [List.length_set]
  exact h.at_.row.keep hk (by simpa using hne.symm)
theorem sel_range {p : Nat → Bool} (h0 : p 0 = false) {L : List Nat} (ok : SpOk L) {k : Nat} (hk : k < (spSel p L).length) : 2 ≤ (spSel p L)[k] ∧ (spSel p L)[k] < L.length := by
  have h := spSel_in (List.getElem_mem hk)
  refine ok.nz fun hz => ?_
  rw [hz, h0] at h
  simp at h
set_option maxRecDepth 100000 in
set_option maxHeartbeats 4000000 in
theorem spLasts_any {w : World} {s m1 m2 most : Nat} {L M : List Nat} (h : SpAt w s m1 m2 most L M) :
    Calls Try.prog 26 #[.pointer (some ⟨s, 0, none⟩)] w fun e w' => e = .returned (.int .i64 0) ∧ ∃ n2, SpPost w w' s m1 m2 most (spLasts L) (spLasts L) m1 n2 := by
  have HN := Lib.hid (spNone_any h)
  have HW := Lib.hid (spNew_any h)
  have H := Lib.hid h
  have HM := Lib.hid h.p1.lt
  clear h
  go_enter Try.func26, Try.ntmps26
  go_wp2_with fail
  refine HN.out.mono ?_
  rintro e w' ⟨rfl, rfl⟩
  go_wp2_with fail
  refine HW.out.mono ?_
  rintro e w1 ⟨v, rfl, ho, hk⟩
  obtain ⟨A, c, rfl⟩ := OwnI.slice ho
  have H1 := Lib.hid (show LaAt w w1 s m1 m2 most (setAll L ((spSel (plIn [2]) L).take 0) 1) M A c (spSel (plIn [2]) L) from ⟨H.out.keeps hk, hk.weaken (by simp), ho⟩)
  have HKL := Lib.hid (spSel_length (plIn [2]) L)
  have HRG := Lib.hid (fun k hk => sel_range (p := plIn [2]) (by decide) H.out.ok1 (k := k) hk)
  have HTW := Lib.hid (spLasts_two L)
  obtain ⟨K, hK⟩ : ∃ K, spSel (plIn [2]) L = K := ⟨_, rfl⟩
  rw [hK] at H1 HKL HRG HTW
  have hLe := H.out.ok1.le
  have hKl : K.length ≤ 4096 := Nat.le_trans HKL.out hLe
  rw [hK]
  clear ho hk hK hLe
  go_wp2_with fail
  go_loopw [12] (fun i wr => ∃ k : Nat, k ≤ K.length ∧ i = .int .i64 k ∧ Hid (LaAt w wr s m1 m2 most (setAll L (K.take k) 1) M A c K)) (fun i _ => K.length - (intOf i).toNat)
  case atStart => exact ⟨0, by omega, rfl, H1⟩
  case round =>
    obtain ⟨k, hk, rfl, HL⟩ := hrel
    by_cases hkl : k < K.length
    · obtain ⟨b, o, rfl, hb, hcell⟩ := (OwnI.lies HL.out.l).at_ (k := k) (by simpa using hkl)
      have HT := Lib.hid (List.take_succ_eq_append_getElem hkl)
      have hrg := HRG.out k hkl
      rw [List.getElem_map] at hcell
      obtain ⟨x, hx⟩ : ∃ x, K[k] = x := ⟨_, rfl⟩
      rw [hx] at hcell HT hrg
      have hr := HL.out.at_.row
      have c0 := hr.cell 0
      have c1 := hr.cell 1
      have c2 := hr.cell 2
      have c3 := hr.cell 3
      have c4 := hr.cell 4
      simp only [List.getElem?_toArray, List.getElem?_cons_zero, List.getElem?_cons_succ] at c0 c1 c2 c3 c4
      have HRR := Lib.hid hrg
      have hLe := H.out.ok1.le
      have HL' := Lib.hid hLe
      obtain ⟨w5, hrun, hp, hk5, hmt⟩ := HL.out.at_.p1.drop undI64 undPl (x := x) (by omega) (by omega) 0
      have e := spF_set (L := setAll L (K.take k) 1) (n := x.toNat) (v := 1) (by rw [setAll_length]; omega)
      rw [if_pos (by omega), show ((x.toNat : Nat) : Int) = x by omega] at e
      rw [← e] at hp
      have HP := Lib.hid (HL.out.step HM.out hk5 (x := x) (v := 1) (by rw [setAll_length]; exact hrg) (by omega) hp)
      clear hp hk5 hmt e hr hrg hb hx hLe
      go_wp2_with fail
      exact ⟨⟨k + 1, by omega, by go_num, Lib.hid (by rw [HT.out, setAll_snoc]; exact HP.out)⟩, by simp [intOf]; omega⟩
    · obtain rfl : k = K.length := by omega
      obtain ⟨wo, rfl⟩ : ∃ wo : World, wo = wr := ⟨_, rfl⟩
      have HL1 := HL.out
      rw [List.take_length] at HL1
      obtain ⟨L1, hL1⟩ : ∃ L1, setAll L K 1 = L1 := ⟨_, rfl⟩
      rw [hL1] at HL1 HTW
      have HQ := Lib.hid HL1
      have HE := Lib.hid (spHeld_any HL1.at_)
      have hl1 : L1.length = L.length := by rw [← hL1, setAll_length]
      have HLE1 := Lib.hid hl1
      clear HL1 hL1 hl1
      go_wp2_with fail
      refine HE.out.mono ?_
      rintro e w2 ⟨v, rfl, ho, hk⟩
      obtain ⟨A2, c2, rfl⟩ := OwnI.slice ho
      have H2 := Lib.hid (show LaAt wo w2 s m1 m2 most (setAll L1 ((spSel (plIn [3]) L1).take 0) 4) M A2 c2 (spSel (plIn [3]) L1) from ⟨HQ.out.at_.keeps hk, hk.weaken (by simp), ho⟩)
      have HKL2 := Lib.hid (spSel_length (plIn [3]) L1)
      have HRG2 := Lib.hid (fun k hk => sel_range (p := plIn [3]) (by decide) HQ.out.at_.ok1 (k := k) hk)
      obtain ⟨K2, hK2⟩ : ∃ K2, spSel (plIn [3]) L1 = K2 := ⟨_, rfl⟩
      rw [hK2] at H2 HKL2 HRG2 HTW
      have hKl2 : K2.length ≤ 4096 := Nat.le_trans HKL2.out HQ.out.at_.ok1.le
      rw [hK2]
      have HM2 := Lib.hid HQ.out.at_.p1.lt
      clear ho hk hK2
      go_wp2_with fail
      go_loopw [26] (fun i wz => ∃ k : Nat, k ≤ K2.length ∧ i = .int .i64 k ∧ Hid (LaAt wo wz s m1 m2 most (setAll L1 (K2.take k) 4) M A2 c2 K2)) (fun i _ => K2.length - (intOf i).toNat)
      case atStart => exact ⟨0, by omega, rfl, H2⟩
      case round =>
        obtain ⟨k, hk, rfl, HL2⟩ := hrel
        by_cases hkl : k < K2.length
        · obtain ⟨b, o, rfl, hb, hcell⟩ := (OwnI.lies HL2.out.l).at_ (k := k) (by simpa using hkl)
          have HT := Lib.hid (List.take_succ_eq_append_getElem hkl)
          have hrg := HRG2.out k hkl
          rw [List.getElem_map] at hcell
          obtain ⟨x, hx⟩ : ∃ x, K2[k] = x := ⟨_, rfl⟩
          rw [hx] at hcell HT hrg
          have hr := HL2.out.at_.row
          have c0 := hr.cell 0
          have c1 := hr.cell 1
          have c2 := hr.cell 2
          have c3 := hr.cell 3
          have c4 := hr.cell 4
          simp only [List.getElem?_toArray, List.getElem?_cons_zero, List.getElem?_cons_succ] at c0 c1 c2 c3 c4
          have hLe := HQ.out.at_.ok1.le
          obtain ⟨w5, hrun, hp, hk5, hmt⟩ := HL2.out.at_.p1.store undI64 undPl (ks := spKeys (setAll L1 (K2.take k) 4)) (fun y hy => spKeys_mem.2 hy) (by have := spSel_length (fun v => decide (2 ≤ v)) (setAll L1 (K2.take k) 4); rw [setAll_length] at this; unfold maxLen; show (spSel _ _).length < _; omega) (x := x) (by omega) (by omega) (.int .i64 4)
          have e := spF_set (L := setAll L1 (K2.take k) 4) (n := x.toNat) (v := 4) (by rw [setAll_length]; omega)
          rw [if_neg (by omega), show ((x.toNat : Nat) : Int) = x by omega] at e
          have HP := Lib.hid (HL2.out.step HM2.out hk5 (x := x) (v := 4) (by rw [setAll_length]; exact hrg) (by omega) (by rw [e]; exact hp))
          clear hp hk5 hmt e hr hrg hb hx hLe
          go_wp2_with fail
          exact ⟨⟨k + 1, by omega, by go_num, Lib.hid (by rw [HT.out, setAll_snoc]; exact HP.out)⟩, by simp [intOf]; omega⟩
        · obtain rfl : k = K2.length := by omega
          have HL3 := HL2.out
          rw [List.take_length, HTW.out] at HL3
          have HR3 := Lib.hid HL3
          have hr := HL3.at_.row
          obtain ⟨L3, hL3⟩ : ∃ L3, spLasts L = L3 := ⟨_, rfl⟩
          rw [hL3] at HR3 hr
          have HL3E := Lib.hid hL3
          have HC := Lib.hid (spCopied_any HR3.out.at_.p1 (L3.length : Nat))
          have c0 := hr.cell 0
          have c1 := hr.cell 1
          have c2 := hr.cell 2
          have c3 := hr.cell 3
          have c4 := hr.cell 4
          simp only [List.getElem?_toArray, List.getElem?_cons_zero, List.getElem?_cons_succ] at c0 c1 c2 c3 c4
          clear HL3 hr hL3
          go_wp2_with fail
          refine HC.out.mono ?_
          rintro e w4 ⟨b', rfl, hp, hb, hk⟩
          have HZ := Lib.hid (And.intro (HR3.out.at_.keeps hk) (And.intro hp (And.intro hb hk)))
          have hr := HR3.out.at_.row.keeps hk
          have g2 := hr.frozen 2
          have g3 := hr.frozen 3
          have d0 := hr.cell 0
          have d1 := hr.cell 1
          have d2 := hr.cell 2
          have d3 := hr.cell 3
          have d4 := hr.cell 4
          simp only [List.getElem?_toArray, List.getElem?_cons_zero, List.getElem?_cons_succ] at d0 d1 d2 d3 d4
          clear hp hb hk hr c0 c1 c2 c3 c4
          go_wp2_with fail
          go_ret
          have hrow := (HZ.out.1.row.store 2 (.int .i64 (L3.length : Nat))).store 3 (.map (some b'))
          have k9 : Keeps w4 ((w4.setCell ⟨s, 2, none⟩ (.int .i64 (L3.length : Nat))).setCell ⟨s, 3, none⟩ (.map (some b'))) [s] := (Keeps.setCell _ _ _).trans (Keeps.setCell _ _ _) (by simp)
          have hns := IMap.ne_row HZ.out.2.1 HZ.out.1.row
          have hn1 := IMap.ne_row HZ.out.1.p1 HZ.out.1.row
          have hmlt := HR3.out.at_.p1.lt
          have hbb := HZ.out.2.2.1
          have hsz : w.heap.size ≤ wr.heap.size := by have := HQ.out.h.size; have := HR3.out.h.size; omega
          rw [HL3E.out]
          refine ⟨rfl, b', ⟨hrow, HZ.out.1.p1.keep k9 (by simpa using hn1), HZ.out.2.1.keep k9 (by simpa using hns), by omega, HZ.out.1.ok1, HZ.out.1.ok1, HZ.out.1.le1, HZ.out.1.le1, H.out.le⟩, ?_, .inl rfl, .inr (by omega)⟩
          exact ((((HQ.out.h.trans HR3.out.h (fun y hy _ => hy)).trans HZ.out.2.2.2 (by simp) : Keeps w w4 [m1]).weaken (T := [s, m1]) (by simp)).trans k9 (by simp))
end Go.Proofs.Ytanbdkfkkochgaa

namespace Go.Proofs.Ytanbdkfkkochgaa
open Go.RowKit Go.Maps Go.Shelf

attribute [local go_sem] Oper.semAt_some

theorem IMap.keeps' {P : Program} {k : TypeId} {w w' : World} {b : Nat} {f : Int → Option Value} (h : IMap w P k b f) (hk : Keeps w w' []) : IMap w' P k b f := h.keep hk (by simp)
set_option maxRecDepth 100000 in
theorem takeFn_any (w : World) (v : Nat) : Calls Try.prog 30 (#[.int .i64 (v : Int)] ++ #[]) w fun e w' => e = .returned (.bool (decide (v = 4))) ∧ w = w' := by
  by_cases h : v = 4
  · subst h
    go_enter Try.func30, Try.ntmps30
    go_wp2
    go_ret
    exact ⟨rfl, rfl⟩
  · have hb : ((v : Int) == 4) = false := by simp; omega
    have HD := Lib.hid (decide_eq_false h)
    clear h
    go_enter Try.func30, Try.ntmps30
    go_wp2
    go_ret
    exact ⟨by rw [HD.out]; rfl, rfl⟩
/-- A page has been taken. -/
structure TakenAt (W2 : World) (r1 r2 m1 : Nat) (f : Int → Option Value) (x : Int) (W : World) : Prop where
  h : Keeps W2 W [m1, r1, r2]
  m : PMap W m1 (upd f x (some (.int .i64 2)))
  c1 : Row W r1 2 #[.int .i64 x]
  c2 : Row W r2 27 #[.int .i64 0]
theorem TakenAt.own {W2 A B : World} {r1 r2 m1 : Nat} {f : Int → Option Value} {x : Int} {row : Option Nat} (h : TakenAt W2 r1 r2 m1 f x A) (hg : A.grownBy B row) (hr : ∀ r, row = some r → W2.heap.size ≤ r) (h1 : r1 < W2.heap.size) (h2 : r2 < W2.heap.size) (h3 : m1 < W2.heap.size) : TakenAt W2 r1 r2 m1 f x B := by
  have hk := Keeps.of_grown hg
  have hne : ∀ y, y < W2.heap.size → y ∉ row.toList := fun y hy hm => by
    have := hr y (by simpa using hm)
    omega
  exact ⟨h.h.trans hk (fun y hy hlt => absurd hy (hne y hlt)), h.m.keep hk (hne _ h3), h.c1.keep hk (hne _ h1), h.c2.keep hk (hne _ h2)⟩
/-- What Take answers. -/
def SpTaken (w : World) (s m1 m2 most : Nat) (L M : List Nat) (e : Ending) (w' : World) : Prop :=
  e = .returned (.tuple #[.int .i64 (spTake most L).2.1, .int .i64 ((spTake most L).2.2 : Nat)]) ∧ SpPost w w' s m1 m2 most (spTake most L).1 M m1 m2
theorem take_door {n : Nat} {w W9 : World} {t : Array Value} {D s m1 m2 most ec : Nat} {x : Int} {L M L' : List Nat} (h2 : t.getD 2 undef = .pointer (some ⟨w.heap.size + 1, 0, none⟩)) (h3 : t.getD 3 undef = .pointer (some ⟨w.heap.size + 1 + 1, 0, none⟩))
    (q1 : Row W9 (w.heap.size + 1) 2 #[.int .i64 x]) (q2 : Row W9 (w.heap.size + 1 + 1) 27 #[.int .i64 (ec : Nat)]) (hD : w.heap.size + 5 ≤ D) (hK : W9.heap[D]? = some (.deferred (some [])))
    (hT : spTake most L = (L', x, ec)) (hA : SpAt W9 s m1 m2 most L' M) (hk : Keeps w W9 [s, m1]) (hs : s < w.heap.size) (hm1 : m1 < w.heap.size) (hm2 : m2 < w.heap.size) :
    bodyPostM Fence.wide n Try.prog Try.f11 (SpTaken w s m1 m2 most L M) Exit.ret { tmps := t, defers := [{ target := .collected D, args := #[] }] } W9 := by
  refine ⟨by simp, .inl ⟨_, _, rfl, run_takeDeferred hK, ?_⟩⟩
  have kp : Keeps W9 (W9.putObj D (.deferred none)) [D] := Keeps.of_grown (grownBy_putObj' W9 D _)
  have z1 := q1.keep kp (by simp; omega)
  have z2 := q2.keep kp (by simp; omega)
  have c0 := z1.cell 0
  have c1 := z2.cell 0
  rw [Array.getD_eq_getD_getElem?] at h2 h3
  simp at c0 c1
  refine ⟨.tuple #[.int .i64 x, .int .i64 (ec : Nat)], ?_, ?_, hA.keep kp (by simp; omega) (by simp; omega) (by simp; omega) |> fun h => ?_⟩
  · simp [results, Try.results11, go_sem, h2, h3, c0, c1]
  · rw [hT]
  · rw [hT]
    exact ⟨h, hk.trans kp (fun y hy hlt => by simp at hy; omega), .inl rfl, .inl rfl⟩
set_option maxRecDepth 100000 in
set_option maxHeartbeats 4000000 in
theorem spTake_in (n : Nat) (hn : 3 ≤ n) {w : World} {s m1 m2 most : Nat} {L M : List Nat} (h : SpAt w s m1 m2 most L M) :
    CallsIn Fence.wide n Try.prog 11 #[.pointer (some ⟨s, 0, none⟩)] w (SpTaken w s m1 m2 most L M) := by
  have h1 : 1 ≤ n := by omega
  have hro : Fence.wide.round = none := rfl
  refine callsIn_of_wp_marks Try.func11 rfl trivial ?_ hro
  simp only [Try.ntmps11, List.size_toArray, List.length_cons, List.length_nil, Nat.reduceAdd, Nat.reduceSub, Array.replicate_succ, Array.replicate_zero, List.push_toArray, List.append_toArray, List.nil_append, List.cons_append]
  have H := Lib.hid h
  clear h
  gi_wp2_with fail
  obtain ⟨W0, hW0⟩ : ∃ W0, ((w.alloc (.cells #[.pointer (some ⟨s, 0, none⟩)] 26)).alloc (.cells #[.int .i64 0] 2)).alloc (.cells #[.int .i64 0] 27) = W0 := ⟨_, rfl⟩
  have q0 : Row W0 w.heap.size 26 #[.pointer (some ⟨s, 0, none⟩)] := by rw [← hW0]; exact ((Row.new _ _ _).alloc _).alloc _
  have q1 : Row W0 (w.heap.size + 1) 2 #[.int .i64 0] := by
    rw [← hW0]
    have := (Row.new (w.alloc (.cells #[.pointer (some ⟨s, 0, none⟩)] 26)) 2 #[.int .i64 0]).alloc (.cells #[.int .i64 0] 27)
    rwa [World.size_alloc] at this
  have q2 : Row W0 (w.heap.size + 1 + 1) 27 #[.int .i64 0] := by
    rw [← hW0]
    have := Row.new ((w.alloc (.cells #[.pointer (some ⟨s, 0, none⟩)] 26)).alloc (.cells #[.int .i64 0] 2)) 27 #[.int .i64 0]
    rwa [World.size_alloc, World.size_alloc] at this
  have k0 : Keeps w W0 [] := by rw [← hW0]; exact ((Keeps.alloc _ _).then_alloc _).then_alloc _
  have s0 : W0.heap.size = w.heap.size + 3 := by rw [← hW0]; simp
  have b0 := q0.cell 0
  simp only [List.getElem?_toArray, List.getElem?_cons_zero] at b0
  rw [hW0]
  have H0 := Lib.hid (H.out.keeps k0)
  have HQ := Lib.hid (And.intro q0 (And.intro q1 (And.intro q2 (And.intro k0 s0))))
  clear q0 q1 q2 k0 s0 hW0
  refine ⟨trivial, (callsIn_of rfl (spNone_any H0.out)).mono ?_⟩
  rintro e w1 ⟨rfl, rfl⟩
  gi_wp2_with fail
  refine ⟨trivial, (callsIn_of rfl (spOf_any _ _ _ _)).mono ?_⟩
  rintro e w1 ⟨rfl, rfl⟩
  obtain ⟨W2, hW2⟩ : ∃ W2, (W0.alloc (.cells #[.pointer (some ⟨s, 0, none⟩)] 26)).alloc (.cells #[.func (.func 30) #[] #[]] 66) = W2 := ⟨_, rfl⟩
  have k2 : Keeps W0 W2 [] := by rw [← hW2]; exact (Keeps.alloc _ _).then_alloc _
  have s2 : W2.heap.size = W0.heap.size + 2 := by rw [← hW2]; simp
  have r2 : Row W2 W0.heap.size 26 #[.pointer (some ⟨s, 0, none⟩)] := by rw [← hW2]; exact (Row.new _ _ _).alloc _
  have r3 : Row W2 (W0.heap.size + 1) 66 #[.func (.func 30) #[] #[]] := by
    rw [← hW2]
    have := Row.new (W0.alloc (.cells #[.pointer (some ⟨s, 0, none⟩)] 26)) 66 #[.func (.func 30) #[] #[]]
    rwa [World.size_alloc] at this
  rw [hW2]
  have hA := H0.out.keeps k2
  have hO : OfAt W2 W2.heap.size W0.heap.size (W0.heap.size + 1) s m1 30 #[] L (fun v => decide (v = 4)) :=
    ⟨r2.cell 0, r3.cell 0, hA.row.cell 1, hA.p1, fun W' _ v => takeFn_any W' v, by omega, by omega, hA.row.lt, hA.p1.lt⟩
  have q0' := HQ.out.1.keeps k2
  have q1' := HQ.out.2.1.keeps k2
  have q2' := HQ.out.2.2.1.keeps k2
  have HZ := Lib.hid (And.intro hA (And.intro q0' (And.intro q1' (And.intro q2' (HQ.out.2.2.2.1.trans k2 (by simp) : Keeps w W2 [])))))
  have hs2 : W2.heap.size = w.heap.size + 5 := by have := HQ.out.2.2.2.2; omega
  have hml := H.out.p1.lt
  have HN := Lib.hid (And.intro hs2 hml)
  clear hW2 k2 s2 r2 r3 hA q0' q1' q2' b0 hml
  gi_wp2_with fail
  refine wpIn_rangeFunc_ownG hro h1 (gf := 40) (lb := #[.pointer (some ⟨W0.heap.size, 0, none⟩), .pointer (some ⟨W0.heap.size + 1, 0, none⟩)]) rfl trivial (enters_of Try.func40 (by kernel_rfl) rfl)
    (of1_stopsP Fence.wide (n - 1) rfl trivial hro (by omega) W2.heap.size W2.heap.size w.heap.size W0.heap.size (W0.heap.size + 1) s m1 30 #[] L (fun v => decide (v = 4)) (fun v hv => by simp at hv; omega) H.out.ok1 (enters_of Try.func30 (by kernel_rfl) rfl) W2 (Nat.le_refl _) (Nat.le_refl _) (by omega) (fun k ⟨n, c, h⟩ => by rw [HZ.out.2.1.cell 0] at h; cases h) hO) KpC.t (KpC.put (Nat.le_refl _) (by omega)) (Below.refl _ _) (fun _ => rfl)
    (fun pre W => pre = [] ∧ Below W2.heap.size W2 W)
    (fun c pre W => c = .ret ∧ ∃ x : PageNo, pre = [x] ∧ TakenAt W2 (w.heap.size + 1) (w.heap.size + 1 + 1) m1 (spF L) x.1 W)
    (OwnFrom.and (ownFrom_pure _ (fun pre : List PageNo => pre = [])) (ownFrom_below (Nat.le_refl _) (Nat.le_refl _)))
    (fun c pre A B row hs hg hr => by
      obtain ⟨h1, x, h2, h3⟩ := hs
      exact ⟨h1, x, h2, h3.own hg (fun r e => (hr r e).1) (by omega) (by omega) (by have := HN.out.2; omega)⟩)
    ⟨rfl, Below.refl _ _⟩
    (fun x => { tmps := #[.pointer (some ⟨s, 0, none⟩), .pointer (some ⟨w.heap.size, 0, none⟩), .pointer (some ⟨w.heap.size + 1, 0, none⟩), .pointer (some ⟨w.heap.size + 1 + 1, 0, none⟩), .int .i64 x.1, .pointer (some ⟨s, 0, none⟩), .bool false, .pointer (some ⟨s, 0, none⟩), .func (.func 40) #[] #[.pointer (some ⟨W0.heap.size, 0, none⟩), .pointer (some ⟨W0.heap.size + 1, 0, none⟩)], .int .i64 x.1, undef, undef, undef, undef, undef, undef, undef, undef, undef, undef, undef, undef, undef, undef, undef, undef, undef, undef, undef, undef, undef, undef, undef, undef, undef, undef, undef, undef, undef, undef, undef, undef, undef, undef, undef, undef, undef, undef, undef, undef, undef, undef], defers := [] }) ?assign ?body ?done ?stop
  case assign =>
    intro l x W K hK
    gi_wp2
    exact hK
  case body =>
    rintro l pre x W ⟨rfl, hB⟩ hlt
    have hkW : Keeps W2 W [] := Keeps.of_below hB
    have hr := HZ.out.1.row.keeps hkW
    have hb0 := (HZ.out.2.1.keeps hkW).cell 0
    have hs1 := hr.cell 1
    simp only [List.getElem?_toArray, List.getElem?_cons_zero, List.getElem?_cons_succ] at hb0 hs1
    have hLe := H.out.ok1.le
    have hx := x.2
    obtain ⟨w5, hrun, hp, hk5, hmt⟩ := (HZ.out.1.p1.keeps' hkW).store undI64 undPl (ks := spKeys L) (fun y hy => spKeys_mem.2 hy) (by have := spSel_length (fun v => decide (2 ≤ v)) L; unfold maxLen; show (spSel _ _).length < _; omega) (x := x.1) (by omega) (by omega) (.int .i64 2)
    have g1 := (HZ.out.2.2.1.keeps hkW).keep hk5 (by simp; have := HN.out; omega)
    have g2 := (HZ.out.2.2.2.1.keeps hkW).keep hk5 (by simp; have := HN.out; omega)
    have e1 := g1.cell 0
    have e2 := g2.cell 0
    have f1 := g1.frozen 0
    have f2 := g2.frozen 0
    simp only [List.getElem?_toArray, List.getElem?_cons_zero] at e1 e2
    have HX := Lib.hid (And.intro hp (And.intro hk5 (And.intro g1 (And.intro g2 hkW))))
    clear hp hk5 g1 g2 hkW hB hr hmt hlt hLe hx
    gi_wp2_with fail
    have hN := HN.out
    have kk : Keeps W ((w5.setCell ⟨w.heap.size + 1, 0, none⟩ (.int .i64 x.1)).setCell ⟨w.heap.size + 1 + 1, 0, none⟩ (.int .i64 0)) [m1, w.heap.size + 1, w.heap.size + 1 + 1] :=
      ((HX.out.2.1.weaken (T := [m1, w.heap.size + 1, w.heap.size + 1 + 1]) (by simp)).trans (Keeps.setCell _ _ _) (by simp)).trans (Keeps.setCell _ _ _) (by simp)
    refine ⟨⟨kk.size, fun k o hk0 hk _ => (kk.block k (Array.getElem?_eq_some_iff.1 hk).1 (by simp; omega)).trans hk⟩, rfl, x, rfl, (HX.out.2.2.2.2.weaken (T := [m1, w.heap.size + 1, w.heap.size + 1 + 1]) (by simp)).trans kk (fun y hy _ => hy), ?_, ?_, ?_⟩
    · exact (HX.out.1.keep (Keeps.setCell _ _ _) (by simp; omega)).keep (Keeps.setCell _ _ _) (by simp; omega)
    · exact (HX.out.2.2.1.store 0 _).far (by simp) _
    · exact (HX.out.2.2.2.1.far (by simp) _).store 0 _
  case done =>
    rintro D ys WA hD hys ⟨rfl, hB⟩ hK
    have hsel : spSel (fun v => decide (v = 4)) L = [] := hys.symm
    have hkW : Keeps W2 WA [] := Keeps.of_below hB
    have HA := Lib.hid (HZ.out.1.keeps hkW)
    have HR := Lib.hid (And.intro (HZ.out.2.1.keeps hkW) (And.intro (HZ.out.2.2.1.keeps hkW) (And.intro (HZ.out.2.2.2.1.keeps hkW) (And.intro (HZ.out.2.2.2.2.trans hkW (by simp) : Keeps w WA []) (And.intro hK hD)))))
    have HSEL := Lib.hid hsel
    have M0 := fun (W' : World) (hW : Keeps WA W' []) => (HA.out.row.keeps hW).cell 0
    have M1 := fun (W' : World) (hW : Keeps WA W' []) => (HA.out.row.keeps hW).cell 1
    have M4 := fun (W' : World) (hW : Keeps WA W' []) => (HA.out.row.keeps hW).cell 4
    have B0 := fun (W' : World) (hW : Keeps WA W' []) => (HR.out.1.keeps hW).cell 0
    simp only [List.getElem?_toArray, List.getElem?_cons_zero, List.getElem?_cons_succ] at M0 M1 M4 B0
    clear hsel hkW hB hK hD hys
    gi_wp2_with fail
    refine wpIn_region_keeps rfl _ (by kernel_rfl) rfl (by kernel_rfl) (by kernel_rfl) ?_
    apply loose_is
    · intro W vals hW hkn
      clear hkn
      refine ⟨?_⟩
      simp only [fill]
      go_simp
      first | exact ⟨Keeps.refl _ _, rfl⟩ | exact ⟨Keeps.alloc _ _, rfl⟩
    simp only [addEnt]
    apply loose_is
    · intro W vals hW hkn
      clear hkn
      refine ⟨?_⟩
      simp only [fill]
      go_simp
      first | exact ⟨Keeps.refl _ _, rfl⟩ | exact ⟨Keeps.alloc _ _, rfl⟩
    simp only [addEnt]
    apply loose_is
    · intro W vals hW hkn
      clear hkn
      refine ⟨?_⟩
      simp only [fill]
      go_simp
      first | exact ⟨Keeps.refl _ _, rfl⟩ | exact ⟨Keeps.alloc _ _, rfl⟩
    simp only [addEnt]
    apply loose_is
    · intro W vals hW hkn
      clear hkn
      refine ⟨?_⟩
      simp only [fill]
      go_simp
      first | exact ⟨Keeps.refl _ _, rfl⟩ | exact ⟨Keeps.alloc _ _, rfl⟩
    simp only [addEnt]
    apply loose_is
    · intro W vals hW hkn
      clear hkn
      refine ⟨?_⟩
      simp only [fill]
      go_simp
      first | exact ⟨Keeps.refl _ _, rfl⟩ | exact ⟨Keeps.alloc _ _, rfl⟩
    simp only [addEnt]
    apply loose_is
    · intro W vals hW hkn
      clear hkn
      refine ⟨?_⟩
      simp only [fill]
      go_simp
      first | exact ⟨Keeps.refl _ _, rfl⟩ | exact ⟨Keeps.alloc _ _, rfl⟩
    simp only [addEnt]
    apply loose_is
    · intro W vals hW hkn
      clear hkn
      refine ⟨?_⟩
      simp only [fill]
      go_simp
      first | exact ⟨Keeps.refl _ _, rfl⟩ | exact ⟨Keeps.alloc _ _, rfl⟩
    simp only [addEnt]
    apply loose_is
    · intro W vals hW hkn
      clear hkn
      refine ⟨?_⟩
      simp only [fill]
      go_simp
      first | exact ⟨Keeps.refl _ _, rfl⟩ | exact ⟨Keeps.alloc _ _, rfl⟩
    simp only [addEnt]
    apply loose_is
    · intro W vals hW hkn
      clear hkn
      refine ⟨?_⟩
      simp only [fill]
      go_simp
      first | exact ⟨Keeps.refl _ _, rfl⟩ | exact ⟨Keeps.alloc _ _, rfl⟩
    simp only [addEnt]
    apply loose_is
    · intro W vals hW hkn
      clear hkn
      refine ⟨?_⟩
      simp only [fill]
      go_simp
      first | exact ⟨Keeps.refl _ _, rfl⟩ | exact ⟨Keeps.alloc _ _, rfl⟩
    simp only [addEnt]
    refine loose_nil (fun W vals hW hkn => ?_)
    simp only [knowsAll] at hkn
    try simp only [and_true] at hkn
    simp only [fill, Act.put, List.setIfInBounds_toArray, List.set_cons_succ, List.set_cons_zero]
    clear hkn
    have HW := Lib.hid (show Keeps WA W [] from hW)
    clear hW M0 M1 M4 B0
    have g1 := HR.out.2.1.keeps HW.out
    have g2 := HR.out.2.2.1.keeps HW.out
    have e1 := g1.cell 0
    have e2 := g2.cell 0
    have f1 := g1.frozen 0
    have f2 := g2.frozen 0
    have eb := (HR.out.1.keeps HW.out).cell 0
    have hrs := HA.out.row.keeps HW.out
    simp only [List.getElem?_toArray, List.getElem?_cons_zero] at e1 e2 eb
    clear g1 g2
    by_cases hroom : most ≤ L.length
    · have hd : decide (most ≤ L.length) = true := by simpa using hroom
      have HT := Lib.hid (show spTake most L = (L, 0, 170) by unfold spTake; rw [show spSel (fun v => v == 4) L = [] from HSEL.out]; show (if most ≤ L.length then (L, (0 : Int), 170) else _) = _; rw [if_pos hroom])
      clear hroom hrs
      rw [hd]
      gi_wp2_with fail
      have hN := HN.out
      have g1 := HR.out.2.1.keeps HW.out
      have g2 := HR.out.2.2.1.keeps HW.out
      have hD := HR.out.2.2.2.2.2
      have hlt := HA.out.row.lt
      have kk : Keeps W ((W.setCell ⟨w.heap.size + 1, 0, none⟩ (.int .i64 0)).setCell ⟨w.heap.size + 1 + 1, 0, none⟩ (.int .i64 170)) [w.heap.size + 1, w.heap.size + 1 + 1] := ((Keeps.setCell _ _ _).weaken (T := [w.heap.size + 1, w.heap.size + 1 + 1]) (by simp)).trans (Keeps.setCell _ _ _) (by simp)
      have hs := H.out.row.lt
      have hm2 := H.out.p2.lt
      refine take_door rfl rfl ((g1.store 0 _).far (by simp) _) ((g2.far (by simp) _).store 0 _) (by omega) ?_ HT.out ((HA.out.keeps HW.out).keep kk (by simp; omega) (by simp; omega) (by simp; omega)) (((HR.out.2.2.2.1.trans HW.out (by simp) : Keeps w W []).weaken (T := [s, m1]) (by simp)).trans kk (fun y hy hlt => by simp at hy; omega)) hs hN.2 hm2
      have hKW := (HW.out.block D (Array.getElem?_eq_some_iff.1 HR.out.2.2.2.2.1).1 (by simp)).trans HR.out.2.2.2.2.1
      exact (kk.block D (Array.getElem?_eq_some_iff.1 hKW).1 (by simp; omega)).trans hKW
    · obtain ⟨WB, rfl⟩ : ∃ WB : World, WB = W := ⟨_, rfl⟩
      have hd : decide (most ≤ L.length) = false := by simpa using hroom
      have HT := Lib.hid (show spTake most L = (L ++ [2], (L.length : Int), 0) by unfold spTake; rw [show spSel (fun v => v == 4) L = [] from HSEL.out]; show (if most ≤ L.length then (L, (0 : Int), 170) else _) = _; rw [if_neg hroom])
      have HRM := Lib.hid hroom
      have M0 := fun (W' : World) (hW : Keeps WB W' []) => ((HA.out.row.keeps HW.out).keeps hW).cell 0
      have M1 := fun (W' : World) (hW : Keeps WB W' []) => ((HA.out.row.keeps HW.out).keeps hW).cell 1
      have B0 := fun (W' : World) (hW : Keeps WB W' []) => ((HR.out.1.keeps HW.out).keeps hW).cell 0
      simp only [List.getElem?_toArray, List.getElem?_cons_zero, List.getElem?_cons_succ] at M0 M1 B0
      rw [hd]
      clear hroom hrs hd e1 e2 f1 f2 eb
      gi_wp2_with fail
      refine wpIn_region_tail rfl _ 10 (by kernel_rfl) rfl (by kernel_rfl) (by kernel_rfl) ?_
      simp only [List.take_succ_cons, List.take_zero, List.drop_succ_cons, List.drop_zero]
      apply loose_is
      · intro W vals hW hkn
        clear hkn
        refine ⟨?_⟩
        simp only [fill]
        go_simp
        first | exact ⟨Keeps.refl _ _, rfl⟩ | exact ⟨Keeps.alloc _ _, rfl⟩
      simp only [addEnt]
      apply loose_is
      · intro W vals hW hkn
        clear hkn
        refine ⟨?_⟩
        simp only [fill]
        go_simp
        first | exact ⟨Keeps.refl _ _, rfl⟩ | exact ⟨Keeps.alloc _ _, rfl⟩
      simp only [addEnt]
      apply loose_is
      · intro W vals hW hkn
        clear hkn
        refine ⟨?_⟩
        simp only [fill]
        go_simp
        first | exact ⟨Keeps.refl _ _, rfl⟩ | exact ⟨Keeps.alloc _ _, rfl⟩
      simp only [addEnt]
      apply loose_is
      · intro W vals hW hkn
        clear hkn
        refine ⟨?_⟩
        simp only [fill]
        go_simp
        first | exact ⟨Keeps.refl _ _, rfl⟩ | exact ⟨Keeps.alloc _ _, rfl⟩
      simp only [addEnt]
      apply loose_is
      · intro W vals hW hkn
        clear hkn
        refine ⟨?_⟩
        simp only [fill]
        go_simp
        first | exact ⟨Keeps.refl _ _, rfl⟩ | exact ⟨Keeps.alloc _ _, rfl⟩
      simp only [addEnt]
      apply loose_is
      · intro W vals hW hkn
        clear hkn
        refine ⟨?_⟩
        simp only [fill]
        go_simp
        first | exact ⟨Keeps.refl _ _, rfl⟩ | exact ⟨Keeps.alloc _ _, rfl⟩
      simp only [addEnt]
      apply loose_is
      · intro W vals hW hkn
        clear hkn
        refine ⟨?_⟩
        simp only [fill]
        go_simp
        first | exact ⟨Keeps.refl _ _, rfl⟩ | exact ⟨Keeps.alloc _ _, rfl⟩
      simp only [addEnt]
      apply loose_is
      · intro W vals hW hkn
        clear hkn
        refine ⟨?_⟩
        simp only [fill]
        go_simp
        first | exact ⟨Keeps.refl _ _, rfl⟩ | exact ⟨Keeps.alloc _ _, rfl⟩
      simp only [addEnt]
      apply loose_is
      · intro W vals hW hkn
        clear hkn
        refine ⟨?_⟩
        simp only [fill]
        go_simp
        first | exact ⟨Keeps.refl _ _, rfl⟩ | exact ⟨Keeps.alloc _ _, rfl⟩
      simp only [addEnt]
      apply loose_is
      · intro W vals hW hkn
        clear hkn
        refine ⟨?_⟩
        simp only [fill]
        go_simp
        first | exact ⟨Keeps.refl _ _, rfl⟩ | exact ⟨Keeps.alloc _ _, rfl⟩
      simp only [addEnt]
      refine loose_nil (fun W vals hW hkn => ?_)
      simp only [knowsAll] at hkn
      try simp only [and_true] at hkn
      simp only [fill, Act.put, List.setIfInBounds_toArray, List.set_cons_succ, List.set_cons_zero]
      clear hkn
      have HW3 := Lib.hid (show Keeps WB W [] from hW)
      clear hW M0 M1 B0
      have hN := HN.out
      have hLe := HA.out.le1
      have hmo := HA.out.le
      have hrm := HRM.out
      obtain ⟨w5, hrun, hp, hk5, hmt⟩ := ((HA.out.p1.keeps' HW.out).keeps' HW3.out).store undI64 undPl (ks := spKeys L) (fun y hy => spKeys_mem.2 hy) (by have := spSel_length (fun v => decide (2 ≤ v)) L; unfold maxLen; show (spSel _ _).length < _; omega) (x := (L.length : Int)) (by omega) (by omega) (.int .i64 2)
      have hkA : Keeps WA w5 [m1] := ((HW.out.trans HW3.out (by simp) : Keeps WA W []).weaken (T := [m1]) (by simp)).trans hk5 (fun y hy _ => hy)
      have hs := H.out.row.lt
      have hm2 := H.out.p2.lt
      have hns := IMap.ne_row H.out.p1 H.out.row
      have rs := HA.out.row.keep hkA (by simpa using hns.symm)
      have rb := HR.out.1.keep hkA (by simp; omega)
      have rx := HR.out.2.1.keep hkA (by simp; omega)
      have ry := HR.out.2.2.1.keep hkA (by simp; omega)
      have HG := Lib.hid (And.intro rs (And.intro rb (And.intro rx (And.intro ry (And.intro hp hkA)))))
      have c0 := rs.cell 0
      have d0 := rs.frozen 0
      have bb := rb.cell 0
      have e1 := rx.cell 0
      have e2 := ry.cell 0
      have f1 := rx.frozen 0
      have f2 := ry.frozen 0
      simp only [List.getElem?_toArray, List.getElem?_cons_zero] at c0 bb e1 e2
      have HNS := Lib.hid (And.intro hns (And.intro hs hm2))
      have hLI : (L.length : Int) < 4096 := by omega
      have hne0 : s ≠ w.heap.size := by omega
      have hne1 : s ≠ w.heap.size + 1 := by omega
      have hne2 : s ≠ w.heap.size + 1 + 1 := by omega
      have hse0 : w.heap.size ≠ s := by omega
      have hse1 : w.heap.size + 1 ≠ s := by omega
      have hse2 : w.heap.size + 1 + 1 ≠ s := by omega
      clear hp hk5 hmt hkA hs hm2 hns rs rb rx ry hN hLe hmo hrm
      refine ⟨?_⟩
      gi_wp2_with fail
      have hN := HN.out
      have hmo := HA.out.le
      have hrm := HRM.out
      obtain ⟨hns, hs, hm2⟩ := HNS.out
      obtain ⟨rs, rb, rx, ry, hp, hkA⟩ := HG.out
      have hD := HR.out.2.2.2.2.2
      have a1 : Keeps w5 (w5.setCell ⟨s, 0, none⟩ (.int .i64 (L.length + 1))) [s] := Keeps.setCell _ _ _
      have a2 : Keeps (w5.setCell ⟨s, 0, none⟩ (.int .i64 (L.length + 1))) ((w5.setCell ⟨s, 0, none⟩ (.int .i64 (L.length + 1))).setCell ⟨w.heap.size + 1, 0, none⟩ (.int .i64 L.length)) [w.heap.size + 1] := Keeps.setCell _ _ _
      have a3 : Keeps ((w5.setCell ⟨s, 0, none⟩ (.int .i64 (L.length + 1))).setCell ⟨w.heap.size + 1, 0, none⟩ (.int .i64 L.length)) (((w5.setCell ⟨s, 0, none⟩ (.int .i64 (L.length + 1))).setCell ⟨w.heap.size + 1, 0, none⟩ (.int .i64 L.length)).setCell ⟨w.heap.size + 1 + 1, 0, none⟩ (.int .i64 0)) [w.heap.size + 1 + 1] := Keeps.setCell _ _ _
      have kB : Keeps w5 (((w5.setCell ⟨s, 0, none⟩ (.int .i64 (L.length + 1))).setCell ⟨w.heap.size + 1, 0, none⟩ (.int .i64 L.length)).setCell ⟨w.heap.size + 1 + 1, 0, none⟩ (.int .i64 0)) [s, w.heap.size + 1, w.heap.size + 1 + 1] :=
        ((a1.weaken (T := [s, w.heap.size + 1, w.heap.size + 1 + 1]) (by simp)).trans a2 (by simp)).trans a3 (by simp)
      have kC := (hkA.weaken (T := [s, m1, w.heap.size + 1, w.heap.size + 1 + 1]) (by simp)).trans kB (fun y hy _ => by simp at hy ⊢; omega)
      have rs' := ((rs.store 0 (.int .i64 (L.length + 1))).keep a2 (by simp; omega)).keep a3 (by simp; omega)
      have hA9 : SpAt (((w5.setCell ⟨s, 0, none⟩ (.int .i64 (L.length + 1))).setCell ⟨w.heap.size + 1, 0, none⟩ (.int .i64 L.length)).setCell ⟨w.heap.size + 1 + 1, 0, none⟩ (.int .i64 0)) s m1 m2 most (L ++ [2]) M := by
        refine ⟨?_, by rw [spF_snoc]; exact hp.keep kB (by simp; omega), HA.out.p2.keep kC (by have := IMap.ne_row HA.out.p2 HA.out.row; have := HA.out.ne; simp; omega), HA.out.ne, HA.out.ok1.snoc (by omega), HA.out.ok2, by simp; omega, HA.out.le2, HA.out.le⟩
        rw [List.length_append, List.length_singleton]
        exact rs'
      have rx' := (((rx.keep a1 (by simp; omega)).store 0 (.int .i64 L.length)).keep a3 (by simp))
      have ry' := ((ry.keep a1 (by simp; omega)).keep a2 (by simp)).store 0 (.int .i64 0)
      refine take_door rfl rfl rx' ry' (by omega) ?_ HT.out hA9 ?_ hs hN.2 hm2
      · have h0 := HR.out.2.2.2.2.1
        exact (kC.block D (Array.getElem?_eq_some_iff.1 h0).1 (by simp; omega)).trans h0
      · exact (HR.out.2.2.2.1.weaken (T := [s, m1]) (by simp)).trans kC (fun y hy hlt => by simp at hy ⊢; omega)
  case stop =>
    rintro D c pre W hD hpre ⟨rfl, x, rfl, hT⟩ hK
    have hN := HN.out
    have hs := H.out.row.lt
    have hm2 := H.out.p2.lt
    have hns := IMap.ne_row H.out.p1 H.out.row
    obtain ⟨rest, hrest⟩ := hpre
    have hsel : spSel (fun v => v == 4) L = x.1 :: rest := hrest.symm
    have hin := spSel_in (p := fun v => v == 4) (L := L) (x := x.1) (by rw [hsel]; simp)
    have hx2 := H.out.ok1.nz (x := x.1) (fun hz => by rw [hz] at hin; simp at hin)
    have hTk : spTake most L = (L.set x.1.toNat 2, x.1, 0) := by unfold spTake; rw [hsel]
    have e := spF_set (L := L) (n := x.1.toNat) (v := 2) (by omega)
    rw [if_neg (by omega), show ((x.1.toNat : Nat) : Int) = x.1 by omega] at e
    have hA9 : SpAt W s m1 m2 most (L.set x.1.toNat 2) M := by
      refine ⟨?_, by rw [e]; exact hT.m, HZ.out.1.p2.keep hT.h (by have := H.out.ne; simp; omega), H.out.ne, H.out.ok1.set (by omega) (by omega), H.out.ok2, by simpa using H.out.le1, H.out.le2, H.out.le⟩
      rw [List.length_set]
      exact HZ.out.1.row.keep hT.h (by simp; omega)
    have hk9 : Keeps w W [s, m1] := (HZ.out.2.2.2.2.weaken (T := [s, m1]) (by simp)).trans hT.h (fun y hy hlt => by simp at hy ⊢; omega)
    have HG := Lib.hid (And.intro hA9 (And.intro hk9 (And.intro hT.c1 (And.intro hT.c2 (And.intro hTk (And.intro hD hK))))))
    clear hA9 hk9 hT hTk hD hK e hx2 hin hsel hrest
    gi_wp2_with fail
    exact take_door rfl rfl HG.out.2.2.1 HG.out.2.2.2.1 (by have := HG.out.2.2.2.2.2.1; omega) HG.out.2.2.2.2.2.2 HG.out.2.2.2.2.1 HG.out.1 HG.out.2.1 hs hN.2 hm2
end Go.Proofs.Ytanbdkfkkochgaa

namespace Go.Proofs.Ytanbdkfkkochgaa
open Go.RowKit Go.Maps Go.Shelf

/-- All blocks of cells but s are as they were. -/
def Apart (w w' : World) (s : Nat) : Prop := ∃ m, (∀ t cs, ¬ Row w m t cs) ∧ Keeps w w' [s, m]
theorem Apart.row {w w' : World} {s b : Nat} {t : TypeId} {cs : Array Value} (h : Apart w w' s) (hr : Row w b t cs) (hne : b ≠ s) : Row w' b t cs := by
  obtain ⟨m, h1, h2⟩ := h
  refine hr.keep h2 ?_
  rintro hm
  rcases List.mem_cons.1 hm with rfl | hm
  · exact hne rfl
  · obtain rfl := List.mem_singleton.1 hm
    exact h1 _ _ hr
theorem Apart.of_keeps {w w' : World} {s : Nat} (h : Keeps w w' []) : Apart w w' s := ⟨w.heap.size, fun t cs hr => Nat.lt_irrefl _ hr.lt, h.weaken (by simp)⟩
theorem Apart.size {w w' : World} {s : Nat} (h : Apart w w' s) : w.heap.size ≤ w'.heap.size := by
  obtain ⟨m, _, h⟩ := h
  exact h.size
/-- A space made since a world. -/
structure SpIn (w0 W : World) (s most : Nat) (L M : List Nat) : Prop where
  at_ : ∃ m1 m2, SpAt W s m1 m2 most L M ∧ w0.heap.size ≤ m1 ∧ w0.heap.size ≤ m2
  f : w0.heap.size ≤ s
  h : Keeps w0 W []
section
variable {w0 w w' : World} {s most : Nat} {L M L' M' : List Nat}
theorem SpIn.keeps (h : SpIn w0 w s most L M) (hk : Keeps w w' []) : SpIn w0 w' s most L M := by
  obtain ⟨⟨m1, m2, h1, h2, h3⟩, h4, h5⟩ := h
  exact ⟨⟨m1, m2, h1.keeps hk, h2, h3⟩, h4, h5.trans hk (by simp)⟩
theorem SpIn.lt (h : SpIn w0 w s most L M) : s < w.heap.size := by
  obtain ⟨⟨m1, m2, h1, h2, h3⟩, h4, h5⟩ := h
  exact h1.row.lt
theorem SpIn.ok (h : SpIn w0 w s most L M) : SpOk L ∧ SpOk M ∧ L.length ≤ most ∧ M.length ≤ most ∧ most ≤ 4096 := by
  obtain ⟨⟨m1, m2, h1, h2, h3⟩, h4, h5⟩ := h
  exact ⟨h1.ok1, h1.ok2, h1.le1, h1.le2, h1.le⟩
theorem SpIn.post {m1 m2 n1 n2 : Nat} (h : SpAt w s m1 m2 most L M) (f1 : w0.heap.size ≤ m1) (f2 : w0.heap.size ≤ m2) (f : w0.heap.size ≤ s) (hk : Keeps w0 w []) (p : SpPost w w' s m1 m2 most L' M' n1 n2) : SpIn w0 w' s most L' M' ∧ Apart w w' s := by
  have hsz := hk.size
  refine ⟨⟨⟨n1, n2, p.at_, ?_, ?_⟩, f, hk.trans p.h (fun y hy hlt => by simp at hy; omega)⟩, m1, fun t cs hr => IMap.ne_row h.p1 hr rfl, p.h⟩
  · rcases p.f1 with rfl | h <;> omega
  · rcases p.f2 with rfl | h <;> omega
theorem SpIn.new {s' n1 n2 : Nat} (p : SpNew w w' s' n1 n2 most L M) : SpIn w w' s' most L M := ⟨⟨n1, n2, p.at_, p.f1, p.f2⟩, p.f0, p.h⟩
theorem spTake_sp (h : SpIn w0 w s most L M) : Calls Try.prog 11 #[.pointer (some ⟨s, 0, none⟩)] w fun e w' =>
    e = .returned (.tuple #[.int .i64 (spTake most L).2.1, .int .i64 ((spTake most L).2.2 : Nat)]) ∧ SpIn w0 w' s most (spTake most L).1 M ∧ Apart w w' s := by
  obtain ⟨⟨m1, m2, h1, h2, h3⟩, h4, h5⟩ := h
  exact (callsIn_wide.1 (spTake_in 3 (by omega) h1)).mono fun e w' ⟨he, hp⟩ => ⟨he, SpIn.post h1 h2 h3 h4 h5 hp⟩
theorem spGive_sp (h : SpIn w0 w s most L M) (x : Int) (hx1 : -9223372036854775808 ≤ x) (hx2 : x ≤ 9223372036854775807) : Calls Try.prog 13 #[.pointer (some ⟨s, 0, none⟩), .int .i64 x] w fun e w' =>
    e = .returned (.int .i64 ((spGive L x).2 : Nat)) ∧ SpIn w0 w' s most (spGive L x).1 M ∧ Apart w w' s := by
  obtain ⟨⟨m1, m2, h1, h2, h3⟩, h4, h5⟩ := h
  exact (spGive_any h1 x hx1 hx2).mono fun e w' ⟨he, hp⟩ => ⟨he, SpIn.post h1 h2 h3 h4 h5 hp⟩
theorem spLasts_sp (h : SpIn w0 w s most L M) : Calls Try.prog 26 #[.pointer (some ⟨s, 0, none⟩)] w fun e w' =>
    e = .returned (.int .i64 0) ∧ SpIn w0 w' s most (spLasts L) (spLasts L) ∧ Apart w w' s := by
  obtain ⟨⟨m1, m2, h1, h2, h3⟩, h4, h5⟩ := h
  exact (spLasts_any h1).mono fun e w' ⟨he, n2, hp⟩ => ⟨he, SpIn.post h1 h2 h3 h4 h5 hp⟩
theorem spUndo_sp (h : SpIn w0 w s most L M) : Calls Try.prog 14 #[.pointer (some ⟨s, 0, none⟩)] w fun e w' =>
    e = .returned (.int .i64 0) ∧ SpIn w0 w' s most M M ∧ Apart w w' s := by
  obtain ⟨⟨m1, m2, h1, h2, h3⟩, h4, h5⟩ := h
  exact (spUndo_any h1).mono fun e w' ⟨he, n1, hp⟩ => ⟨he, SpIn.post h1 h2 h3 h4 h5 hp⟩
theorem spHigh_sp (h : SpIn w0 w s most L M) : Calls Try.prog 12 #[.pointer (some ⟨s, 0, none⟩)] w fun e w' => e = .returned (.int .i64 (L.length : Nat)) ∧ w = w' := by
  obtain ⟨⟨m1, m2, h1, h2, h3⟩, h4, h5⟩ := h
  exact spHigh_any h1
theorem spIs_sp (h : SpIn w0 w s most L M) (x : Int) (hx1 : -9223372036854775808 ≤ x) (hx2 : x ≤ 9223372036854775807) : Calls Try.prog 20 #[.pointer (some ⟨s, 0, none⟩), .int .i64 x] w fun e w' => e = .returned (.int .i64 (codeAt L x : Nat)) ∧ w = w' := by
  obtain ⟨⟨m1, m2, h1, h2, h3⟩, h4, h5⟩ := h
  exact spIs_any h1 x hx1 hx2
theorem spCopy_sp (h : SpIn w0 w s most L M) : Calls Try.prog 23 #[.pointer (some ⟨s, 0, none⟩)] w fun e w' => ∃ s', e = .returned (.pointer (some ⟨s', 0, none⟩)) ∧ SpIn w w' s' most L M ∧ Keeps w w' [] := by
  obtain ⟨⟨m1, m2, h1, h2, h3⟩, h4, h5⟩ := h
  exact (spCopy_any h1).mono fun e w' ⟨s', n1, n2, he, hp⟩ => ⟨s', he, SpIn.new hp, hp.h⟩
theorem spSame_sp {w1 : World} {t most' : Nat} (h : SpIn w0 w s most L M) (h' : SpIn w1 w t most' L' M') :
    Calls Try.prog 24 #[.pointer (some ⟨s, 0, none⟩), .pointer (some ⟨t, 0, none⟩)] w fun e w' => e = .returned (.bool (decide (most = most' ∧ L = L' ∧ M = M'))) ∧ Keeps w w' [] := by
  obtain ⟨⟨m1, m2, h1, h2, h3⟩, h4, h5⟩ := h
  obtain ⟨⟨k1, k2, g1, g2, g3⟩, g4, g5⟩ := h'
  exact spSame_any h1 g1
theorem spFree_sp (h : SpIn w0 w s most L M) :
    Calls Try.prog 16 #[.pointer (some ⟨s, 0, none⟩)] w fun e w' => ∃ v, e = .returned v ∧ OwnI w' w.heap.size v (spSel (plIn [4]) L) ∧ Keeps w w' [] := by
  obtain ⟨⟨m1, m2, h1, h2, h3⟩, h4, h5⟩ := h
  exact spFree_any h1
theorem spNew_sp (h : SpIn w0 w s most L M) :
    Calls Try.prog 15 #[.pointer (some ⟨s, 0, none⟩)] w fun e w' => ∃ v, e = .returned v ∧ OwnI w' w.heap.size v (spSel (plIn [2]) L) ∧ Keeps w w' [] := by
  obtain ⟨⟨m1, m2, h1, h2, h3⟩, h4, h5⟩ := h
  exact spNew_any h1
theorem spHeld_sp (h : SpIn w0 w s most L M) :
    Calls Try.prog 21 #[.pointer (some ⟨s, 0, none⟩)] w fun e w' => ∃ v, e = .returned v ∧ OwnI w' w.heap.size v (spSel (plIn [3]) L) ∧ Keeps w w' [] := by
  obtain ⟨⟨m1, m2, h1, h2, h3⟩, h4, h5⟩ := h
  exact spHeld_any h1
theorem spWill_sp (h : SpIn w0 w s most L M) :
    Calls Try.prog 22 #[.pointer (some ⟨s, 0, none⟩)] w fun e w' => ∃ v, e = .returned v ∧ OwnI w' w.heap.size v (spSel (plIn [4, 3]) L) ∧ Keeps w w' [] := by
  obtain ⟨⟨m1, m2, h1, h2, h3⟩, h4, h5⟩ := h
  exact spWill_any h1
end
end Go.Proofs.Ytanbdkfkkochgaa

namespace Go.Proofs.Ytanbdkfkkochgaa
open Go.RowKit Go.Maps Go.Shelf

section
variable {w0 w : World} {s most : Nat} {L M L' : List Nat}
theorem spTake_now (h : SpIn w0 w s most L M) {x c : Int} (e : (spTake most L).1 = L' ∧ (spTake most L).2.1 = x ∧ ((spTake most L).2.2 : Int) = c) : Calls Try.prog 11 #[.pointer (some ⟨s, 0, none⟩)] w fun e w' =>
    e = .returned (.tuple #[.int .i64 x, .int .i64 c]) ∧ SpIn w0 w' s most L' M := by
  obtain ⟨rfl, rfl, rfl⟩ := e
  exact (spTake_sp h).mono fun e w' h => ⟨h.1, h.2.1⟩
theorem spGive_now (h : SpIn w0 w s most L M) (x : Int) (hx1 : -9223372036854775808 ≤ x) (hx2 : x ≤ 9223372036854775807) {c : Int} (e : (spGive L x).1 = L' ∧ ((spGive L x).2 : Int) = c) : Calls Try.prog 13 #[.pointer (some ⟨s, 0, none⟩), .int .i64 x] w fun e w' =>
    e = .returned (.int .i64 c) ∧ SpIn w0 w' s most L' M := by
  obtain ⟨rfl, rfl⟩ := e
  exact (spGive_sp h x hx1 hx2).mono fun e w' h => ⟨h.1, h.2.1⟩
theorem spLasts_now (h : SpIn w0 w s most L M) (e : spLasts L = L') : Calls Try.prog 26 #[.pointer (some ⟨s, 0, none⟩)] w fun e w' =>
    e = .returned (.int .i64 0) ∧ SpIn w0 w' s most L' L' := by
  subst e
  exact (spLasts_sp h).mono fun e w' h => ⟨h.1, h.2.1⟩
theorem spIs_now (h : SpIn w0 w s most L M) (x : Int) (hx1 : -9223372036854775808 ≤ x) (hx2 : x ≤ 9223372036854775807) {c : Int} (e : (codeAt L x : Int) = c) : Calls Try.prog 20 #[.pointer (some ⟨s, 0, none⟩), .int .i64 x] w fun e w' => e = .returned (.int .i64 c) ∧ w = w' := by
  subst e
  exact spIs_sp h x hx1 hx2
theorem spHigh_now (h : SpIn w0 w s most L M) {c : Int} (e : (L.length : Int) = c) : Calls Try.prog 12 #[.pointer (some ⟨s, 0, none⟩)] w fun e w' => e = .returned (.int .i64 c) ∧ w = w' := by
  subst e
  exact spHigh_sp h
end
theorem lies_one (w : World) (t : TypeId) (v : Value) : Lies (w.alloc (.cells #[v] t)) (w.alloc (.cells #[v] t)).heap.size (some ⟨w.heap.size, 0, none⟩) [v] := fun _ => by
  refine ⟨_, _, rfl, by simp, fun i u hu => ?_⟩
  have := (Row.new w t #[v]).cell (0 + i)
  rw [this, Nat.zero_add]
  simpa using hu
set_option maxRecDepth 100000 in
set_option maxHeartbeats 4000000 in
theorem known7_any (w : World) : Calls Try.prog 9 #[] w fun e w' => e = .returned (.bool true) ∧ Keeps w w' [] := by
  go_enter Try.func9, Try.ntmps9
  go_wp2_with fail
  refine (spMake_any (w.alloc (.cells #[.int .i64 3] 2)) 6 4 (some ⟨w.heap.size, 0, none⟩) 1 [3] (lies_one _ _ _) (by simp)).mono ?_
  rw [show spNewL 6 4 [3] = some [0, 0, 1, 4] by decide]
  rintro e w1 ⟨s, n1, n2, rfl, hN⟩
  have hB : (6 : Int).toNat = 6 := rfl
  rw [hB] at hN
  have hk := Keeps.alloc w (.cells #[.int .i64 3] 2)
  have hs := hk.size
  have H := Lib.hid (show SpIn w w1 s 6 [0, 0, 1, 4] [0, 0, 1, 4] from ⟨⟨n1, n2, hN.at_, Nat.le_trans hs hN.f1, Nat.le_trans hs hN.f2⟩, Nat.le_trans hs hN.f0, hk.trans hN.h (by simp)⟩)
  clear hN hk hs hB
  go_wp2_with fail
  refine (spTake_now (L' := [0, 0, 1, 2]) (x := 3) (c := 0) H.out (by decide)).mono ?_
  rintro e w' ⟨rfl, h⟩
  have H := Lib.hid h
  clear h
  go_wp2_with fail
  refine (spTake_now (L' := [0, 0, 1, 2, 2]) (x := 4) (c := 0) H.out (by decide)).mono ?_
  rintro e w' ⟨rfl, h⟩
  have H := Lib.hid h
  clear h
  go_wp2_with fail
  refine (spTake_now (L' := [0, 0, 1, 2, 2, 2]) (x := 5) (c := 0) H.out (by decide)).mono ?_
  rintro e w' ⟨rfl, h⟩
  have H := Lib.hid h
  clear h
  go_wp2_with fail
  refine (spTake_now (L' := [0, 0, 1, 2, 2, 2]) (x := 0) (c := 170) H.out (by decide)).mono ?_
  rintro e w' ⟨rfl, h⟩
  have H := Lib.hid h
  clear h
  go_wp2_with fail
  refine (spGive_now (L' := [0, 0, 1, 2, 4, 2]) H.out 4 (by omega) (by omega) (c := 0) (by decide)).mono ?_
  rintro e w' ⟨rfl, h⟩
  have H := Lib.hid h
  clear h
  go_wp2_with fail
  refine (spTake_now (L' := [0, 0, 1, 2, 2, 2]) (x := 4) (c := 0) H.out (by decide)).mono ?_
  rintro e w' ⟨rfl, h⟩
  have H := Lib.hid h
  clear h
  go_wp2_with fail
  refine (spGive_now (L' := [0, 0, 3, 2, 2, 2]) H.out 2 (by omega) (by omega) (c := 0) (by decide)).mono ?_
  rintro e w' ⟨rfl, h⟩
  have H := Lib.hid h
  clear h
  go_wp2_with fail
  refine (spIs_now H.out 2 (by omega) (by omega) (c := 3) (by decide)).mono ?_
  rintro e w' ⟨rfl, rfl⟩
  go_wp2_with fail
  refine (spLasts_now (L' := [0, 0, 4, 1, 1, 1]) H.out (by decide)).mono ?_
  rintro e w' ⟨rfl, h⟩
  have H := Lib.hid h
  clear h
  go_wp2_with fail
  refine (spIs_now H.out 2 (by omega) (by omega) (c := 4) (by decide)).mono ?_
  rintro e w' ⟨rfl, rfl⟩
  go_wp2_with fail
  refine (spHigh_now H.out (c := 6) (by decide)).mono ?_
  rintro e w' ⟨rfl, rfl⟩
  go_wp2_with fail
  go_ret
  exact ⟨rfl, H.out.h⟩
end Go.Proofs.Ytanbdkfkkochgaa

namespace Go.Proofs.Ytanbdkfkkochgaa
open Go.RowKit Go.Maps Go.Shelf

/-- No space: nil, or one without a map. -/
def NoSp (w : World) (p : Option Addr) : Prop := p = none ∨ ∃ z cs, p = some ⟨z, 0, none⟩ ∧ Row w z 59 cs ∧ cs[1]? = some (.map none)
section
variable {w w' : World} {p q : Option Addr}
theorem NoSp.keeps (h : NoSp w p) (hk : Keeps w w' []) : NoSp w' p := by
  rcases h with h | ⟨z, cs, h1, h2, h3⟩
  · exact .inl h
  · exact .inr ⟨z, cs, h1, h2.keeps hk, h3⟩
theorem noSp_none (h : NoSp w p) : Calls Try.prog 28 #[.pointer p] w fun e w' => e = .returned (.bool true) ∧ w = w' := by
  rcases h with rfl | ⟨z, cs, rfl, h2, h3⟩
  · exact spNone_nil w
  · exact spNone_at w z cs none h2 h3
set_option maxRecDepth 100000 in
theorem noSp_give (h : NoSp w p) (x : Int) : Calls Try.prog 13 #[.pointer p, .int .i64 x] w fun e w' => e = .returned (.int .i64 1) ∧ Keeps w w' [] := by
  have HN := Lib.hid h
  clear h
  go_enter Try.func13, Try.ntmps13
  go_wp2_with fail
  refine (noSp_none HN.out).mono ?_
  rintro e w' ⟨rfl, rfl⟩
  go_wp2_with fail
  go_ret
  exact ⟨rfl, Keeps.refl _ _⟩
set_option maxRecDepth 100000 in
theorem noSp_lasts (h : NoSp w p) (_ : Int) : Calls Try.prog 26 #[.pointer p] w fun e w' => e = .returned (.int .i64 1) ∧ Keeps w w' [] := by
  have HN := Lib.hid h
  clear h
  go_enter Try.func26, Try.ntmps26
  go_wp2_with fail
  refine (noSp_none HN.out).mono ?_
  rintro e w' ⟨rfl, rfl⟩
  go_wp2_with fail
  go_ret
  exact ⟨rfl, Keeps.refl _ _⟩
set_option maxRecDepth 100000 in
theorem noSp_undo (h : NoSp w p) (_ : Int) : Calls Try.prog 14 #[.pointer p] w fun e w' => e = .returned (.int .i64 1) ∧ Keeps w w' [] := by
  have HN := Lib.hid h
  clear h
  go_enter Try.func14, Try.ntmps14
  go_wp2_with fail
  refine (noSp_none HN.out).mono ?_
  rintro e w' ⟨rfl, rfl⟩
  go_wp2_with fail
  go_ret
  exact ⟨rfl, Keeps.refl _ _⟩
set_option maxRecDepth 100000 in
theorem noSp_high (h : NoSp w p) (_ : Int) : Calls Try.prog 12 #[.pointer p] w fun e w' => e = .returned (.int .i64 0) ∧ Keeps w w' [] := by
  have HN := Lib.hid h
  clear h
  go_enter Try.func12, Try.ntmps12
  go_wp2_with fail
  refine (noSp_none HN.out).mono ?_
  rintro e w' ⟨rfl, rfl⟩
  go_wp2_with fail
  go_ret
  exact ⟨rfl, Keeps.refl _ _⟩
set_option maxRecDepth 100000 in
theorem noSp_is (h : NoSp w p) (x : Int) : Calls Try.prog 20 #[.pointer p, .int .i64 x] w fun e w' => e = .returned (.int .i64 0) ∧ Keeps w w' [] := by
  have HN := Lib.hid h
  clear h
  go_enter Try.func20, Try.ntmps20
  go_wp2_with fail
  refine (noSp_none HN.out).mono ?_
  rintro e w' ⟨rfl, rfl⟩
  go_wp2_with fail
  go_ret
  exact ⟨rfl, Keeps.refl _ _⟩
set_option maxRecDepth 100000 in
theorem noSp_copy (h : NoSp w p) (_ : Int) : Calls Try.prog 23 #[.pointer p] w fun e w' => e = .returned (.pointer none) ∧ Keeps w w' [] := by
  have HN := Lib.hid h
  clear h
  go_enter Try.func23, Try.ntmps23
  go_wp2_with fail
  refine (noSp_none HN.out).mono ?_
  rintro e w' ⟨rfl, rfl⟩
  go_wp2_with fail
  go_ret
  exact ⟨rfl, Keeps.refl _ _⟩
set_option maxRecDepth 100000 in
theorem noSp_sieved (h : NoSp w p) (A : Option Addr) (n c : Nat) : Calls Try.prog 31 #[.pointer p, .slice A n c] w fun e w' => e = .returned (.slice none 0 0) ∧ Keeps w w' [] := by
  have HN := Lib.hid h
  clear h
  go_enter Try.func31, Try.ntmps31
  go_wp2_with fail
  refine (noSp_none (HN.out.keeps (Keeps.alloc _ _))).mono ?_
  rintro e w' ⟨rfl, rfl⟩
  go_wp2_with fail
  go_ret
  exact ⟨rfl, Keeps.alloc _ _⟩
set_option maxRecDepth 100000 in
theorem noSp_free (h : NoSp w p) : Calls Try.prog 16 #[.pointer p] w fun e w' => e = .returned (.slice none 0 0) ∧ Keeps w w' [] := by
  have HN := Lib.hid h
  clear h
  go_enter Try.func16, Try.ntmps16
  go_wp2_with fail
  refine (noSp_sieved (HN.out.keeps (Keeps.alloc _ _)) _ _ _).mono ?_
  rintro e w' ⟨rfl, hk⟩
  have HK := Lib.hid hk
  clear hk
  go_wp2_with fail
  go_ret
  exact ⟨rfl, (Keeps.alloc _ _).trans HK.out (by simp)⟩
set_option maxRecDepth 100000 in
theorem noSp_new (h : NoSp w p) : Calls Try.prog 15 #[.pointer p] w fun e w' => e = .returned (.slice none 0 0) ∧ Keeps w w' [] := by
  have HN := Lib.hid h
  clear h
  go_enter Try.func15, Try.ntmps15
  go_wp2_with fail
  refine (noSp_sieved (HN.out.keeps (Keeps.alloc _ _)) _ _ _).mono ?_
  rintro e w' ⟨rfl, hk⟩
  have HK := Lib.hid hk
  clear hk
  go_wp2_with fail
  go_ret
  exact ⟨rfl, (Keeps.alloc _ _).trans HK.out (by simp)⟩
set_option maxRecDepth 100000 in
theorem noSp_held (h : NoSp w p) : Calls Try.prog 21 #[.pointer p] w fun e w' => e = .returned (.slice none 0 0) ∧ Keeps w w' [] := by
  have HN := Lib.hid h
  clear h
  go_enter Try.func21, Try.ntmps21
  go_wp2_with fail
  refine (noSp_sieved (HN.out.keeps (Keeps.alloc _ _)) _ _ _).mono ?_
  rintro e w' ⟨rfl, hk⟩
  have HK := Lib.hid hk
  clear hk
  go_wp2_with fail
  go_ret
  exact ⟨rfl, (Keeps.alloc _ _).trans HK.out (by simp)⟩
set_option maxRecDepth 100000 in
theorem noSp_will (h : NoSp w p) : Calls Try.prog 22 #[.pointer p] w fun e w' => e = .returned (.slice none 0 0) ∧ Keeps w w' [] := by
  have HN := Lib.hid h
  clear h
  go_enter Try.func22, Try.ntmps22
  go_wp2_with fail
  refine (noSp_sieved (HN.out.keeps (Keeps.alloc _ _)) _ _ _).mono ?_
  rintro e w' ⟨rfl, hk⟩
  have HK := Lib.hid hk
  clear hk
  go_wp2_with fail
  go_ret
  exact ⟨rfl, (Keeps.alloc _ _).trans HK.out (by simp)⟩
set_option maxRecDepth 100000 in
theorem noSp_same (h : NoSp w p) (h' : NoSp w q) : Calls Try.prog 24 #[.pointer p, .pointer q] w fun e w' => e = .returned (.bool true) ∧ Keeps w w' [] := by
  have HN := Lib.hid (And.intro h h')
  clear h h'
  go_enter Try.func24, Try.ntmps24
  go_wp2_with fail
  refine (noSp_none HN.out.1).mono ?_
  rintro e w' ⟨rfl, rfl⟩
  go_wp2_with fail
  refine (noSp_none HN.out.1).mono ?_
  rintro e w' ⟨rfl, rfl⟩
  go_wp2_with fail
  refine (noSp_none HN.out.2).mono ?_
  rintro e w' ⟨rfl, rfl⟩
  go_wp2_with fail
  go_ret
  exact ⟨rfl, Keeps.refl _ _⟩
set_option maxRecDepth 100000 in
/-- A space and none are not the same. -/
theorem spSame_no {w0 : World} {s most : Nat} {L M : List Nat} (h : SpIn w0 w s most L M) (h' : NoSp w q) : Calls Try.prog 24 #[.pointer (some ⟨s, 0, none⟩), .pointer q] w fun e w' => e = .returned (.bool false) ∧ Keeps w w' [] := by
  obtain ⟨⟨m1, m2, h1, h2, h3⟩, h4, h5⟩ := h
  have HN := Lib.hid (And.intro h1 h')
  clear h1 h2 h3 h4 h5 h'
  go_enter Try.func24, Try.ntmps24
  go_wp2_with fail
  refine (spNone_any HN.out.1).mono ?_
  rintro e w' ⟨rfl, rfl⟩
  go_wp2_with fail
  refine (noSp_none HN.out.2).mono ?_
  rintro e w' ⟨rfl, rfl⟩
  go_wp2_with fail
  refine (spNone_any HN.out.1).mono ?_
  rintro e w' ⟨rfl, rfl⟩
  go_wp2_with fail
  go_ret
  exact ⟨rfl, Keeps.refl _ _⟩
set_option maxRecDepth 100000 in
set_option maxHeartbeats 1000000 in
theorem noSp_take (h : NoSp w p) : Calls Try.prog 11 #[.pointer p] w fun e w' => e = .returned (.tuple #[.int .i64 0, .int .i64 1]) ∧ Keeps w w' [] := by
  have HN := Lib.hid h
  clear h
  refine (callsIn_wide (n := 3)).1 ?_
  have hro : Fence.wide.round = none := rfl
  refine callsIn_of_wp_marks Try.func11 rfl trivial ?_ hro
  simp only [Try.ntmps11, List.size_toArray, List.length_cons, List.length_nil, Nat.reduceAdd, Nat.reduceSub, Array.replicate_succ, Array.replicate_zero, List.push_toArray, List.append_toArray, List.nil_append, List.cons_append]
  gi_wp2_with fail
  have k0 := ((Keeps.alloc w (.cells #[.pointer p] 26)).then_alloc (.cells #[.int .i64 0] 2)).then_alloc (.cells #[.int .i64 0] 27)
  refine ⟨trivial, (callsIn_of rfl (noSp_none (HN.out.keeps k0))).mono ?_⟩
  rintro e w1 ⟨rfl, rfl⟩
  gi_wp2_with fail
  have r1 : Row (((w.alloc (.cells #[.pointer p] 26)).alloc (.cells #[.int .i64 0] 2)).alloc (.cells #[.int .i64 1] 27)) (w.heap.size + 1) 2 #[.int .i64 0] := by
    have := (Row.new (w.alloc (.cells #[.pointer p] 26)) 2 #[.int .i64 0]).alloc (.cells #[.int .i64 1] 27)
    rwa [World.size_alloc] at this
  have r2 : Row (((w.alloc (.cells #[.pointer p] 26)).alloc (.cells #[.int .i64 0] 2)).alloc (.cells #[.int .i64 1] 27)) (w.heap.size + 1 + 1) 27 #[.int .i64 1] := by
    have := Row.new ((w.alloc (.cells #[.pointer p] 26)).alloc (.cells #[.int .i64 0] 2)) 27 #[.int .i64 1]
    rwa [World.size_alloc, World.size_alloc] at this
  have c1 := r1.cell 0
  have c2 := r2.cell 0
  simp only [List.getElem?_toArray, List.getElem?_cons_zero] at c1 c2
  refine ⟨.tuple #[.int .i64 0, .int .i64 1], ?_, rfl, ((Keeps.alloc _ _).then_alloc _).then_alloc _⟩
  simp [results, Try.results11, go_sem, c1, c2]
end
end Go.Proofs.Ytanbdkfkkochgaa

namespace Go.Proofs.Ytanbdkfkkochgaa
open Go.RowKit Go.Maps Go.Shelf

set_option maxRecDepth 100000 in
set_option maxHeartbeats 4000000 in
theorem spaceNil_any (w : World) (n : Int) : Calls Try.prog 7 #[.int .i64 n] w fun e w' => e = .returned (.bool true) ∧ Keeps w w' [] := by
  go_enter Try.func7, Try.ntmps7
  go_wp2_with fail
  have r0 := Row.new w 59 #[.int .i64 0, .map none, .int .i64 0, .map none, .int .i64 0]
  have k0 := Keeps.alloc w (.cells #[.int .i64 0, .map none, .int .i64 0, .map none, .int .i64 0] 59)
  have Z := Lib.hid (show NoSp _ (some ⟨w.heap.size, 0, none⟩) from .inr ⟨_, _, rfl, r0, rfl⟩)
  have K0 := Lib.hid k0
  clear r0 k0
  obtain ⟨W0, hW0⟩ : ∃ W0, w.alloc (.cells #[.int .i64 0, .map none, .int .i64 0, .map none, .int .i64 0] 59) = W0 := ⟨_, rfl⟩
  rw [hW0] at Z K0 ⊢
  clear hW0
  have K := Lib.hid (Keeps.refl W0 [])
  refine (noSp_take (p := none) (.inl rfl)).mono ?_
  rintro e w' ⟨rfl, hk⟩
  have K := Lib.hid (K.out.then_ hk)
  clear hk
  go_wp2_with fail
  refine (noSp_give (Z.out.keeps K.out) n).mono ?_
  rintro e w' ⟨rfl, hk⟩
  have K := Lib.hid (K.out.then_ hk)
  clear hk
  go_wp2_with fail
  refine (noSp_lasts (p := none) (.inl rfl) 0).mono ?_
  rintro e w' ⟨rfl, hk⟩
  have K := Lib.hid (K.out.then_ hk)
  clear hk
  go_wp2_with fail
  refine (noSp_undo (Z.out.keeps K.out) 0).mono ?_
  rintro e w' ⟨rfl, hk⟩
  have K := Lib.hid (K.out.then_ hk)
  clear hk
  go_wp2_with fail
  refine (noSp_high (p := none) (.inl rfl) 0).mono ?_
  rintro e w' ⟨rfl, hk⟩
  have K := Lib.hid (K.out.then_ hk)
  clear hk
  go_wp2_with fail
  refine (noSp_high (Z.out.keeps K.out) 0).mono ?_
  rintro e w' ⟨rfl, hk⟩
  have K := Lib.hid (K.out.then_ hk)
  clear hk
  go_wp2_with fail
  refine (noSp_free (p := none) (.inl rfl)).mono ?_
  rintro e w' ⟨rfl, hk⟩
  have K := Lib.hid (K.out.then_ hk)
  clear hk
  go_wp2_with fail
  refine (noSp_new (Z.out.keeps K.out)).mono ?_
  rintro e w' ⟨rfl, hk⟩
  have K := Lib.hid (K.out.then_ hk)
  clear hk
  go_wp2_with fail
  refine (noSp_held (p := none) (.inl rfl)).mono ?_
  rintro e w' ⟨rfl, hk⟩
  have K := Lib.hid (K.out.then_ hk)
  clear hk
  go_wp2_with fail
  refine (noSp_will (Z.out.keeps K.out)).mono ?_
  rintro e w' ⟨rfl, hk⟩
  have K := Lib.hid (K.out.then_ hk)
  clear hk
  go_wp2_with fail
  refine (noSp_is (p := none) (.inl rfl) n).mono ?_
  rintro e w' ⟨rfl, hk⟩
  have K := Lib.hid (K.out.then_ hk)
  clear hk
  go_wp2_with fail
  refine (noSp_copy (Z.out.keeps K.out) 0).mono ?_
  rintro e w' ⟨rfl, hk⟩
  have K := Lib.hid (K.out.then_ hk)
  clear hk
  go_wp2_with fail
  refine (noSp_same (p := none) (.inl rfl) (Z.out.keeps K.out)).mono ?_
  rintro e w' ⟨rfl, hk⟩
  have K := Lib.hid (K.out.then_ hk)
  clear hk
  go_wp2_with fail
  refine (known7_any _).mono ?_
  rintro e w' ⟨rfl, hk⟩
  have K := Lib.hid (K.out.then_ hk)
  clear hk
  go_wp2_with fail
  go_ret
  exact ⟨rfl, K0.out.then_ K.out⟩
end Go.Proofs.Ytanbdkfkkochgaa
