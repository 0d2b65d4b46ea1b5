/- The law PacketFlags. -/
import Derived.Test.YtahbikfbjenfpaaGreatDoorPa41

namespace Go.Proofs.YtahbikfbjenfpaaGreatDoor
open Go.RowKit Go.Shelf

/-- What is known of one box. -/
structure OneSt (w W : World) (a : Nat) (X : Array Value) : Prop where
 k : Keeps w W []
 r1 : Row W a 29 X
theorem OneSt.go {w W W' : World} {a : Nat} {X : Array Value} (h : OneSt w W a X) (hk : Keeps W W' []) : OneSt w W' a X := ⟨h.k.then_ hk, h.r1.keeps hk⟩
/-- A packet's cells that the statement names. -/
structure PkC (p : Pk) (X : Array Value) : Prop where
 c0 : X[0]? = some (.int .i64 p.k)
 c1 : X[1]? = some (.bool p.dup)
 c2 : X[2]? = some (.bool p.ret)
 c6 : X[6]? = some (.int .i64 p.id)
 z : 24 = X.size
 one : X.all (·.oneCell') = true
theorem few_turn {p : Pk} (h : PkFewP p) : PkFewP (pkTurn p) := ⟨h.a, h.b, h.pw, h.wt, h.wb, h.lw, h.lc, h.lf, h.ws, h.fs⟩
theorem few_id {p : Pk} {n : Int} (h : PkFewP p) : PkFewP (pkId2 p n) := ⟨h.a, h.b, h.pw, h.wt, h.wb, h.lw, h.lc, h.lf, h.ws, h.fs⟩
theorem pkRaw_two (p : Pk) : 2 ≤ (pkRaw p).length := by
 unfold pkRaw
 rw [List.length_cons, List.length_append, lnRaw_length]
 have := (lnSize_le (pkBody p).length).1
 omega
set_option maxRecDepth 100000 in
set_option maxHeartbeats 4000000 in
theorem flags_walk (p : Pk) (n : Int) (X : Array Value) (w : World) (hm : MaxL w) (h1 : PkA w p X) (hc : PkC p X) (h2 : PkA w (pkTurn p) ((X.setIfInBounds 1 (.bool !p.dup)).setIfInBounds 2 (.bool !p.ret))) (h3 : PkA w (pkId2 p n) (X.setIfInBounds 6 (.int .i64 n))) : Calls Tryz.prog 6 #[.agg X, .int .i64 n] w (TruePost w true) := by
 have HKN := Lib.hid (show ∀ W, Keeps w W [] → Calls Tryz.prog 10 #[] W (TruePost W true) from fun W hk => known16_any W (hm.keeps hk))
 have H1 := Lib.hid h1
 have HX := Lib.hid h1.sz
 have HC := Lib.hid hc
 have H2 := Lib.hid h2
 have H3 := Lib.hid h3
 clear hm h1 hc h2 h3
 go_enter Tryz.func6, Tryz.ntmps6
 go_upto_region 1 with fail
 have HS := Lib.hid (show OneSt w (w.alloc (.cells X 29)) w.heap.size X from ⟨Keeps.alloc _ _, Row.new _ _ _⟩)
 generalize w.alloc (.cells X 29) = W0 at HS ⊢
 go_wp2_with (refine wpList_loadX (by kernel_rfl) rfl rfl HS.out.r1 Tryz.underlying29 rfl HX.out ?_)
 refine (H1.out.few _ HS.out.k).mono ?_
 rintro e w1 ⟨hk, ⟨hf1, rfl⟩ | ⟨hf1, rfl⟩⟩
 case inr =>
  replace HS := Lib.hid (HS.out.go hk)
  clear hk hf1
  go_wp2_with fail
  refine (HKN.out _ HS.out.k).mono ?_
  rintro e w9 ⟨rfl, hk⟩
  replace HS := Lib.hid (HS.out.go hk)
  clear hk
  go_wp2_with fail
  go_ret
  exact ⟨rfl, HS.out.k⟩
 have HF1 := Lib.hid hf1
 replace HS := Lib.hid (HS.out.go hk)
 clear hk hf1
 go_wp2_with (refine wpList_loadX (by kernel_rfl) rfl rfl HS.out.r1 Tryz.underlying29 rfl HX.out ?_)
 refine (H1.out.raw _ HS.out.k HF1.out).mono ?_
 intro e w3 hp
 obtain ⟨A1, n1, c1, z1, rfl, hk, hr1⟩ := hp.parts
 replace HS := Lib.hid (HS.out.go hk)
 clear hk hp
 rcases hr1 with ⟨o1, rfl, rfl, hv1⟩ | ⟨_, rfl⟩
 case inr =>
  go_wp2_with fail
  refine (HKN.out _ HS.out.k).mono ?_
  rintro e w9 ⟨rfl, hk⟩
  replace HS := Lib.hid (HS.out.go hk)
  clear hk
  go_wp2_with fail
  go_ret
  exact ⟨rfl, HS.out.k⟩
 have hlen := pkRaw_two p
 obtain ⟨b1, f1, rfl, _, _⟩ := Lies.of_own hv1 (by rw [List.length_map]; exact pkRaw_pos p)
 have hc1 : (pkRaw p).length ≤ c1 := by
  obtain ⟨_, _, e, h, _⟩ := own_slice hv1
  injection e with _ _ e
  omega
 have hlb : decide (((pkRaw p).length : Int) < 2) = false := by simp; omega
 have HGB := Lib.hid (fun g hg => (owned_lt hv1 g hg).2)
 have HO1 := Lib.hid (And.intro o1 hv1)
 clear o1 hv1
 go_upto_region 6 with fail
 go_wp2_with (first | (refine wpList_loadX (by kernel_rfl) rfl rfl HS.out.r1 Tryz.underlying29 rfl HX.out ?_) | (refine wpList_store_new rfl (.tmp 7) (.tmp 35) rfl X #[.int .i64 0, .bool false, .bool false, .int .i64 0, .string ⟨#[]⟩, .string ⟨#[]⟩, .int .i64 0, .string ⟨#[]⟩, .bool false, .int .i64 0, .bool false, .string ⟨#[]⟩, .string ⟨#[]⟩, .int .i64 0, .bool false, .bool false, .bool false, .string ⟨#[]⟩, .string ⟨#[]⟩, .bool false, .int .i64 0, .slice none 0 0, .slice none 0 0, .slice none 0 0] w3 rfl HX.out HC.out.z HC.out.one rfl rfl ?_; intro w4 hw4))
 refine Lib.hid ?_
 have k4 : Keeps w3 w4 [] := by rw [← hw4]; exact Keeps.alloc _ _
 have r4 : Row w4 w3.heap.size 29 X := by rw [← hw4]; exact Row.new _ _ _
 obtain ⟨B, hB⟩ : ∃ B, w3.heap.size = B := ⟨_, rfl⟩
 have HB := Lib.hid (show w.heap.size < B ∧ w3.heap.size = B from ⟨by rw [← hB]; exact HS.out.r1.lt, hB⟩)
 have HO2 := Lib.hid (And.intro HO1.out.1 (own_keep HO1.out.2 k4 (by simp)))
 replace HS := Lib.hid (HS.out.go k4)
 rw [hB] at r4 ⊢
 have H4 := Lib.hid r4
 clear r4 k4 hw4 hB HO1
 go_upto_region 7 with fail
 have x1 := (HS.out.r1.cell 1).trans HC.out.c1
 have x2 := (HS.out.r1.cell 2).trans HC.out.c2
 have y1 := (H4.out.cell 1).trans HC.out.c1
 have y2 := (H4.out.cell 2).trans HC.out.c2
 have g1 := H4.out.frozen 1
 have g2 := H4.out.frozen 2
 have hne : ¬ B = w.heap.size := by have := HB.out; omega
 have hne2 : ¬ w.heap.size = B := by have := HB.out; omega
 go_region
 obtain ⟨W5, hW5⟩ : ∃ W, ((w4.setCell ⟨B, 1, none⟩ (.bool !p.dup)).setCell ⟨B, 2, none⟩ (.bool !p.ret)).drew = W := ⟨_, rfl⟩
 have k5 : Keeps w4 W5 [B] := by
  have k := (Keeps.setCell w4 ⟨B, 1, none⟩ (.bool !p.dup)).trans (Keeps.setCell (w4.setCell ⟨B, 1, none⟩ (.bool !p.dup)) ⟨B, 2, none⟩ (.bool !p.ret)) (fun _ h _ => h)
  rw [← hW5]
  exact ⟨k.os, k.tape, k.output, k.size, k.block⟩
 have r5 : Row W5 B 29 ((X.setIfInBounds 1 (.bool !p.dup)).setIfInBounds 2 (.bool !p.ret)) := by
  rw [← hW5]
  exact (H4.out.store 1 _).store 2 _
 rw [hW5]
 have HO3 := Lib.hid (And.intro HO2.out.1 (own_keep HO2.out.2 k5 (fun g hg hm => by
  have := HGB.out g hg
  have := HB.out
  rw [List.mem_singleton] at hm
  omega)))
 replace HS := Lib.hid (show OneSt w W5 w.heap.size X from ⟨HS.out.k.trans k5 (fun y hy hlt => by have := HB.out; simp at hy; omega), HS.out.r1.keep k5 (by simp; omega)⟩)
 have H5 := Lib.hid r5
 clear x1 x2 y1 y2 g1 g2 hne hne2 k5 r5 hW5 H4 HO2
 go_wp2_with (refine wpList_loadX (by kernel_rfl) rfl rfl H5.out Tryz.underlying29 rfl H2.out.sz ?_)
 refine (H2.out.raw _ HS.out.k (few_turn HF1.out)).mono ?_
 intro e w6 hp
 obtain ⟨A2, n2, c2, z2, rfl, hk, hr2⟩ := hp.parts
 replace HS := Lib.hid (HS.out.go hk)
 have HO4 := Lib.hid (And.intro HO3.out.1 (own_keep HO3.out.2 hk (by simp)))
 have H6 := Lib.hid (H5.out.keeps hk)
 clear hk hp HO3 H5
 rcases hr2 with ⟨o2, rfl, rfl, hv2⟩ | ⟨_, rfl⟩
 case inr =>
  go_upto_region 9 with fail
  refine wp_region_keeps _ (by kernel_rfl) rfl (by kernel_rfl) ?_
  iterate 3
   refine ls ?_
   simp only [addEnt]
  iterate 29
   refine lo ?_
   simp only [addEnt]
  refine ls ?_
  simp only [addEnt]
  refine loose_nil (fun W vals hW hkn => ?_)
  simp only [knowsAll] at hkn
  try simp only [and_true] at hkn
  simp only [fill, Act.put, List.setIfInBounds_toArray, List.set_cons_succ, List.set_cons_zero]
  clear hkn
  replace HS := Lib.hid (HS.out.go hW)
  replace HO4 := Lib.hid (And.intro HO4.out.1 (own_keep HO4.out.2 hW (by simp)))
  have H7 := Lib.hid (H6.out.keeps hW)
  clear hW H6
  obtain ⟨N, hN⟩ : ∃ N, (pkRaw p).length = N := ⟨_, rfl⟩
  have HNP := Lib.hid hN
  rw [hN] at hc1 ⊢
  clear hN
  go_wp2_with (first | (refine wpList_loadX (by kernel_rfl) rfl rfl HS.out.r1 Tryz.underlying29 rfl HX.out ?_) | (refine wpList_store_row rfl (.tmp 7) (.tmp 82) 29 rfl B X _ H7.out HX.out (by simp) HC.out.one rfl rfl ?_; intro w7 r7 k7; refine Hid.out ?_))
  refine Lib.hid ?_
  have HO5 := Lib.hid (And.intro HO4.out.1 (own_keep HO4.out.2 k7 (fun g hg hm => by
   have := HGB.out g hg
   have := HB.out
   rw [List.mem_singleton] at hm
   omega)))
  replace HS := Lib.hid (show OneSt w w7 w.heap.size X from ⟨HS.out.k.trans k7 (fun y hy hlt => by have := HB.out; simp at hy; omega), HS.out.r1.keep k7 (by have := HB.out; simp; omega)⟩)
  have H8 := Lib.hid r7
  clear r7 k7 HO4 H7
  have y6 := (H8.out.cell 6).trans HC.out.c6
  have g6 := H8.out.frozen 6
  go_upto_region 13 with fail
  obtain ⟨W8, hW8⟩ : ∃ W8, w7.setCell ⟨B, 6, none⟩ (.int .i64 n) = W8 := ⟨_, rfl⟩
  have k8 : Keeps w7 W8 [B] := by rw [← hW8]; exact Keeps.setCell _ _ _
  have r8 : Row W8 B 29 (X.setIfInBounds 6 (.int .i64 n)) := by rw [← hW8]; exact H8.out.store 6 _
  rw [hW8]
  have HO6 := Lib.hid (And.intro HO5.out.1 (own_keep HO5.out.2 k8 (fun g hg hm => by
   have := HGB.out g hg
   have := HB.out
   rw [List.mem_singleton] at hm
   omega)))
  replace HS := Lib.hid (show OneSt w W8 w.heap.size X from ⟨HS.out.k.trans k8 (fun y hy hlt => by have := HB.out; simp at hy; omega), HS.out.r1.keep k8 (by have := HB.out; simp; omega)⟩)
  have H9 := Lib.hid r8
  clear r8 k8 HO5 H8 y6 g6 hW8
  go_wp2_with (refine wpList_loadX (by kernel_rfl) rfl rfl H9.out Tryz.underlying29 rfl H3.out.sz ?_)
  refine (H3.out.raw _ HS.out.k (few_id HF1.out)).mono ?_
  intro e w9 hp
  obtain ⟨A3, n3, c3, z3, rfl, hk, hr3⟩ := hp.parts
  replace HS := Lib.hid (HS.out.go hk)
  have HO7 := Lib.hid (And.intro HO6.out.1 (own_keep HO6.out.2 hk (by simp)))
  clear hk hp HO6 H9
  rcases hr3 with ⟨o3, rfl, rfl, hv3⟩ | ⟨_, rfl⟩
  case inr =>
   go_wp2_with fail
   refine (HKN.out _ HS.out.k).mono ?_
   rintro e w9 ⟨rfl, hk⟩
   replace HS := Lib.hid (HS.out.go hk)
   clear hk
   go_wp2_with fail
   go_ret
   exact ⟨rfl, HS.out.k⟩
  obtain ⟨q1, q2, q3⟩ := id_raw HO7.out.1 o3
  obtain ⟨b3, f3, rfl, _, _⟩ := Lies.of_own hv3 (by rw [List.length_map]; exact pkRaw_pos _)
  have hc3 : (pkRaw (pkId2 p n)).length ≤ c3 := by
   obtain ⟨_, _, e, h, _⟩ := own_slice hv3
   injection e with _ _ e
   omega
  have HL1 := Lib.hid (Lies.of_own HO7.out.2)
  have HL3 := Lib.hid (Lies.of_own hv3)
  have hmax : N ≤ 10000 := by
   have h1 := HNP.out
   unfold pkRaw at h1
   rw [List.length_cons, List.length_append, lnRaw_length] at h1
   have := lnSize_le (pkBody p).length
   have := pkBody_len HO7.out.1
   omega
  have q4 := HNP.out
  rw [← q1, q4] at hc3 ⊢
  clear hv3 o3 HO7
  obtain ⟨L1, hL1⟩ : ∃ L, pkRaw p = L := ⟨_, rfl⟩
  obtain ⟨L3, hL3⟩ : ∃ L, pkRaw (pkId2 p n) = L := ⟨_, rfl⟩
  rw [hL1] at q1 q2 q3 q4 HL1
  rw [hL3] at q1 q2 q3 HL3
  have HQ := Lib.hid (And.intro q4 (And.intro (q1.symm.trans q4) (And.intro q2 q3)))
  clear q1 q2 q3 q4 hL1 hL3 HNP
  go_wp2_with fail
  go_loopw [12, 13] (fun c i wr => ∃ k : Nat, k ≤ N ∧ i = .int .i64 k ∧ c = .int .i64 (diffs (L1.take k) (L3.take k) : Nat) ∧ Hid (Keeps w9 wr [])) (fun _ i _ => N - (intOf i).toNat)
  case atStart => exact ⟨0, by omega, rfl, rfl, Lib.hid (Keeps.refl _ _)⟩
  case round =>
   obtain ⟨k, hk, rfl, rfl, HR⟩ := hrel
   by_cases hkl : k < N
   ·have hs := diffs_step L1 L3 k (by have := HQ.out.1; omega) (by have := HQ.out.2.1; omega)
    have hd := diffs_le (L1.take k) (L3.take k)
    rw [List.length_take] at hd
    have MA := fun (W' : World) (hW : Keeps wr W' []) => (show W'.cell? ⟨b1, f1 + k, none⟩ = some (.int .u8 ((L1[k]'(by have := HQ.out.1; omega)).toNat : Nat)) from by
     have h1k : k < L1.length := by have := HQ.out.1; omega
     obtain ⟨b', o', e, h1, h2⟩ := HL1.out.keep (HR.out.then_ hW) (Nat.le_refl _) (by simp) (by rw [List.length_map]; omega)
     injection e with e
     injection e with e3 e4
     subst e3 e4
     exact h2 k _ (by rw [List.getElem?_map, List.getElem?_eq_getElem h1k]; rfl))
    have MB := fun (W' : World) (hW : Keeps wr W' []) => (show W'.cell? ⟨b3, f3 + k, none⟩ = some (.int .u8 ((L3[k]'(by have := HQ.out.2.1; omega)).toNat : Nat)) from by
     have h1k : k < L3.length := by have := HQ.out.2.1; omega
     obtain ⟨b', o', e, h1, h2⟩ := HL3.out.keep (HR.out.then_ hW) (Nat.le_refl _) (by simp) (by rw [List.length_map]; omega)
     injection e with e
     injection e with e3 e4
     subst e3 e4
     exact h2 k _ (by rw [List.getElem?_map, List.getElem?_eq_getElem h1k]; rfl))
    obtain ⟨x, hx⟩ : ∃ x, L1[k]'(by have := HQ.out.1; omega) = x := ⟨_, rfl⟩
    obtain ⟨y, hy⟩ : ∃ y, L3[k]'(by have := HQ.out.2.1; omega) = y := ⟨_, rfl⟩
    rw [hx] at MA hs
    rw [hy] at MB hs
    obtain ⟨D, hD⟩ : ∃ D, diffs (L1.take k) (L3.take k) = D := ⟨_, rfl⟩
    rw [hD] at hs hd
    simp only [hD]
    clear hx hy hD
    have HSS := Lib.hid hs
    clear hs
    have hd9 : D ≤ N := by omega
    clear hd
    by_cases hxy : x = y
    ·subst hxy
     go_wp2_with fail
     refine wp_region_keeps _ (by kernel_rfl) rfl (by kernel_rfl) ?_
     iterate 3
      refine ls ?_
      simp only [addEnt]
     apply loose_is
     ·intro W vals hW hkn
      simp only [knows] at hkn
      try simp only [and_true] at hkn
      clear hkn; have m := MA W hW
      refine ⟨?_⟩
      simp only [fill]
      go_simp
      first | exact ⟨Keeps.refl _ _, rfl⟩ | exact ⟨Keeps.alloc _ _, rfl⟩
     iterate 3
      simp only [addEnt]
      refine ls ?_
     simp only [addEnt]
     apply loose_is
     ·intro W vals hW hkn
      simp only [knows] at hkn
      try simp only [and_true] at hkn
      clear hkn; have m := MB W hW
      refine ⟨?_⟩
      simp only [fill]
      go_simp
      first | exact ⟨Keeps.refl _ _, rfl⟩ | exact ⟨Keeps.alloc _ _, rfl⟩
     simp only [addEnt]
     refine ls ?_
     simp only [addEnt]
     refine loose_nil (fun W vals hW hkn => ?_)
     simp only [knowsAll] at hkn
     try simp only [and_true] at hkn
     simp only [fill, Act.put, List.setIfInBounds_toArray, List.set_cons_succ, List.set_cons_zero]
     clear hkn MA MB
     have HKK := Lib.hid (HR.out.then_ hW)
     clear hW
     go_wp2_with fail
     exact ⟨⟨k + 1, by omega, by go_num, by rw [HSS.out]; simp, HKK⟩, by simp [intOf]; omega⟩
    ·have hb : ((x.toNat : Int) != (y.toNat : Int)) = true := by
      have : ¬ x.toNat = y.toNat := fun h => hxy (UInt8.toNat.inj h)
      rw [bne_iff_ne]
      omega
     have HNE := Lib.hid hxy
     clear hxy
     go_wp2_with fail
     refine wp_region_keeps _ (by kernel_rfl) rfl (by kernel_rfl) ?_
     iterate 3
      refine ls ?_
      simp only [addEnt]
     apply loose_is
     ·intro W vals hW hkn
      simp only [knows] at hkn
      try simp only [and_true] at hkn
      clear hkn; have m := MA W hW
      refine ⟨?_⟩
      simp only [fill]
      go_simp
      first | exact ⟨Keeps.refl _ _, rfl⟩ | exact ⟨Keeps.alloc _ _, rfl⟩
     iterate 3
      simp only [addEnt]
      refine ls ?_
     simp only [addEnt]
     apply loose_is
     ·intro W vals hW hkn
      simp only [knows] at hkn
      try simp only [and_true] at hkn
      clear hkn; have m := MB W hW
      refine ⟨?_⟩
      simp only [fill]
      go_simp
      first | exact ⟨Keeps.refl _ _, rfl⟩ | exact ⟨Keeps.alloc _ _, rfl⟩
     simp only [addEnt]
     refine ls ?_
     simp only [addEnt]
     refine loose_nil (fun W vals hW hkn => ?_)
     simp only [knowsAll] at hkn
     try simp only [and_true] at hkn
     simp only [fill, Act.put, List.setIfInBounds_toArray, List.set_cons_succ, List.set_cons_zero]
     clear hkn MA MB
     have HKK := Lib.hid (HR.out.then_ hW)
     clear hW
     go_wp2_with fail
     exact ⟨⟨k + 1, by omega, by go_num, by rw [HSS.out, if_neg HNE.out]; go_num, HKK⟩, by simp [intOf]; omega⟩
   ·obtain rfl : k = N := by omega
    have e1 : L1.take k = L1 := List.take_of_length_le (by have := HQ.out.1; omega)
    have e3 : L3.take k = L3 := List.take_of_length_le (by have := HQ.out.2.1; omega)
    rw [e1, e3]
    obtain ⟨D, hD⟩ : ∃ D, diffs L1 L3 = D := ⟨_, rfl⟩
    have q := HQ.out.2.2
    rw [hD] at q ⊢
    clear e1 e3 hD
    replace HS := Lib.hid (HS.out.go HR.out)
    have x6 := (HS.out.r1.cell 6).trans HC.out.c6
    have d2 : decide ((D : Int) ≤ 2) = true := by have := q.1; simp; omega
    by_cases hid : p.id = n
    ·have hD0 : D = 0 := q.2.2 hid
     subst hD0
     rw [hid] at x6
     clear q hid
     go_wp2_with fail
     refine (HKN.out _ HS.out.k).mono ?_
     rintro e w9 ⟨rfl, hk⟩
     replace HS := Lib.hid (HS.out.go hk)
     clear hk
     go_wp2_with fail
     go_ret
     exact ⟨rfl, HS.out.k⟩
    ·have hz1 : ((D : Int) == 0) = false := by
      have : ¬ D = 0 := fun h => hid (q.2.1 h)
      simpa using this
     have hz2 : (p.id == n) = false := by simpa using hid
     clear q hid
     go_wp2_with fail
     refine (HKN.out _ HS.out.k).mono ?_
     rintro e w9 ⟨rfl, hk⟩
     replace HS := Lib.hid (HS.out.go hk)
     clear hk
     go_wp2_with fail
     go_ret
     exact ⟨rfl, HS.out.k⟩
 case inl =>
  obtain ⟨u, v, tl, e1, e2, hxor⟩ := turn_raw HO4.out.1 o2
  have hk3 := turn_kind HO4.out.1 o2
  have hv1 := HO4.out.2
  rw [e1] at hv1 hc1 ⊢
  rw [e2] at hv2 ⊢
  obtain ⟨b2, f2, rfl, _, _⟩ := Lies.of_own hv2 (by simp)
  have hc2 : (v :: tl).length ≤ c2 := by
   obtain ⟨_, _, e, h, _⟩ := own_slice hv2
   injection e with _ _ e
   omega
  obtain ⟨N, hN⟩ : ∃ N, tl.length + 1 = N := ⟨_, rfl⟩
  have HL1 := Lib.hid (Lies.of_own hv1)
  have HL2 := Lib.hid (Lies.of_own hv2)
  have hl1 : (u :: tl).length = N := by rw [← hN]; rfl
  have hl2 : (v :: tl).length = N := by rw [← hN]; rfl
  rw [hl1] at hc1 ⊢
  rw [hl2] at hc2 ⊢
  have hN2 : 2 ≤ N := by have := pkRaw_two p; rw [e1, hl1] at this; exact this
  have HNT := Lib.hid hN
  have HNP := Lib.hid (show (pkRaw p).length = N by rw [e1, hl1])
  clear hN hl1 hl2 hv1 hv2
  have hx0 : bits .xor .u8 ((u.toNat : Nat) : Int) 9 = ((v.toNat : Nat) : Int) := by
   rw [hxor, show (9 : Int) = ((9 : Nat) : Int) from rfl]
   exact u8_xor_nat _ 9 u.toNat_lt (by omega)
  clear hxor
  have MX0 := fun (W' : World) (hW : Keeps w6 W' []) => ((HS.out.r1.keeps hW).cell 0).trans (show X[0]? = some (.int .i64 3) by rw [HC.out.c0, hk3])
  have MA := fun (W' : World) (hW : Keeps w6 W' []) => (show W'.cell? ⟨b1, f1, none⟩ = some (.int .u8 (u.toNat : Nat)) from by
   obtain ⟨b', o', e, h1, h2⟩ := HL1.out.keep hW (Nat.le_refl _) (by simp) (by simp)
   injection e with e
   injection e with e3 e4
   subst e3 e4
   exact h2 0 _ rfl)
  have MB := fun (W' : World) (hW : Keeps w6 W' []) => (show W'.cell? ⟨b2, f2, none⟩ = some (.int .u8 (v.toNat : Nat)) from by
   obtain ⟨b', o', e, h1, h2⟩ := HL2.out.keep hW (Nat.le_refl _) (by simp) (by simp)
   injection e with e
   injection e with e3 e4
   subst e3 e4
   exact h2 0 _ rfl)
  obtain ⟨S, hS⟩ : ∃ S : ByteArray, S = ⟨tl.toArray⟩ := ⟨_, rfl⟩
  have CV1 := fun (W : World) (hk : Keeps w6 W []) => (show (convert 32 9 (.slice (some ⟨b1, f1 + 1, none⟩) (N - 1) (c1 - 1))).run Tryz.prog W = .ok (.string S) W from by
   have hl := lies_drop (HL1.out.keep hk (Nat.le_refl _) (by simp)) 1
   have := conv_str W _ (some ⟨b1, f1 + 1, none⟩) (c1 - 1) tl hl
   rw [show N - 1 = tl.length by have := HNT.out; omega, this, hS])
  have CV2 := fun (W : World) (hk : Keeps w6 W []) => (show (convert 32 9 (.slice (some ⟨b2, f2 + 1, none⟩) (N - 1) (c2 - 1))).run Tryz.prog W = .ok (.string S) W from by
   have hl := lies_drop (HL2.out.keep hk (Nat.le_refl _) (by simp)) 1
   have := conv_str W _ (some ⟨b2, f2 + 1, none⟩) (c2 - 1) tl hl
   rw [show N - 1 = tl.length by have := HNT.out; omega, this, hS])
  clear hS hk3
  have n0 : 0 < N := by omega
  have n1 : ¬ c1 = 1 := by omega
  have n2 : ¬ c2 = 1 := by omega
  have n3 : ¬ ((N : Int) < 1) := by omega
  go_upto_region 9 with fail
  refine wp_region_keeps _ (by kernel_rfl) rfl (by kernel_rfl) ?_
  iterate 4
   refine ls ?_
   simp only [addEnt]
  apply loose_is
  ·intro W vals hW hkn
   simp only [knows] at hkn
   try simp only [and_true] at hkn
   clear hkn; have m := MX0 W hW
   refine ⟨?_⟩
   simp only [fill]
   go_simp
   first | exact ⟨Keeps.refl _ _, rfl⟩ | exact ⟨Keeps.alloc _ _, rfl⟩
  iterate 11
   simp only [addEnt]
   refine ls ?_
  simp only [addEnt]
  apply loose_is
  ·intro W vals hW hkn
   simp only [knows] at hkn
   try simp only [and_true] at hkn
   clear hkn; have m := MB W hW
   refine ⟨?_⟩
   simp only [fill]
   go_simp
   first | exact ⟨Keeps.refl _ _, rfl⟩ | exact ⟨Keeps.alloc _ _, rfl⟩
  iterate 2
   simp only [addEnt]
   refine ls ?_
  simp only [addEnt]
  apply loose_is
  ·intro W vals hW hkn
   simp only [knows] at hkn
   try simp only [and_true] at hkn
   clear hkn; have m := MA W hW
   refine ⟨?_⟩
   simp only [fill]
   go_simp
   first | exact ⟨Keeps.refl _ _, rfl⟩ | exact ⟨Keeps.alloc _ _, rfl⟩
  iterate 6
   simp only [addEnt]
   refine ls ?_
  simp only [addEnt]
  apply loose_is
  ·intro W vals hW hkn
   simp only [knows] at hkn
   try simp only [and_true] at hkn
   clear hkn; have m := CV2 W hW
   refine ⟨?_⟩
   simp only [fill]
   go_simp
   first | exact ⟨Keeps.refl _ _, rfl⟩ | exact ⟨Keeps.alloc _ _, rfl⟩
  iterate 2
   simp only [addEnt]
   refine ls ?_
  simp only [addEnt]
  apply loose_is
  ·intro W vals hW hkn
   simp only [knows] at hkn
   try simp only [and_true] at hkn
   clear hkn; have m := CV1 W hW
   refine ⟨?_⟩
   simp only [fill]
   go_simp
   first | exact ⟨Keeps.refl _ _, rfl⟩ | exact ⟨Keeps.alloc _ _, rfl⟩
  iterate 3
   simp only [addEnt]
   refine ls ?_
  simp only [addEnt]
  refine loose_nil (fun W vals hW hkn => ?_)
  simp only [knowsAll] at hkn
  try simp only [and_true] at hkn
  simp only [fill, Act.put, List.setIfInBounds_toArray, List.set_cons_succ, List.set_cons_zero]
  clear hkn
  replace HS := Lib.hid (HS.out.go hW)
  replace HO4 := Lib.hid (And.intro HO4.out.1 (own_keep HO4.out.2 hW (by simp)))
  have H7 := Lib.hid (H6.out.keeps hW)
  clear hW H6
  clear MX0 MA MB CV1 CV2 n0 n1 n2 n3 hx0
  go_wp2_with (first | (refine wpList_loadX (by kernel_rfl) rfl rfl HS.out.r1 Tryz.underlying29 rfl HX.out ?_) | (refine wpList_store_row rfl (.tmp 7) (.tmp 82) 29 rfl B X _ H7.out HX.out (by simp) HC.out.one rfl rfl ?_; intro w7 r7 k7; refine Hid.out ?_))
  refine Lib.hid ?_
  have HO5 := Lib.hid (And.intro HO4.out.1 (own_keep HO4.out.2 k7 (fun g hg hm => by
   have := HGB.out g hg
   have := HB.out
   rw [List.mem_singleton] at hm
   omega)))
  replace HS := Lib.hid (show OneSt w w7 w.heap.size X from ⟨HS.out.k.trans k7 (fun y hy hlt => by have := HB.out; simp at hy; omega), HS.out.r1.keep k7 (by have := HB.out; simp; omega)⟩)
  have H8 := Lib.hid r7
  clear r7 k7 HO4 H7
  have y6 := (H8.out.cell 6).trans HC.out.c6
  have g6 := H8.out.frozen 6
  go_upto_region 13 with fail
  obtain ⟨W8, hW8⟩ : ∃ W8, w7.setCell ⟨B, 6, none⟩ (.int .i64 n) = W8 := ⟨_, rfl⟩
  have k8 : Keeps w7 W8 [B] := by rw [← hW8]; exact Keeps.setCell _ _ _
  have r8 : Row W8 B 29 (X.setIfInBounds 6 (.int .i64 n)) := by rw [← hW8]; exact H8.out.store 6 _
  rw [hW8]
  have HO6 := Lib.hid (And.intro HO5.out.1 (own_keep HO5.out.2 k8 (fun g hg hm => by
   have := HGB.out g hg
   have := HB.out
   rw [List.mem_singleton] at hm
   omega)))
  replace HS := Lib.hid (show OneSt w W8 w.heap.size X from ⟨HS.out.k.trans k8 (fun y hy hlt => by have := HB.out; simp at hy; omega), HS.out.r1.keep k8 (by have := HB.out; simp; omega)⟩)
  have H9 := Lib.hid r8
  clear r8 k8 HO5 H8 y6 g6 hW8
  go_wp2_with (refine wpList_loadX (by kernel_rfl) rfl rfl H9.out Tryz.underlying29 rfl H3.out.sz ?_)
  refine (H3.out.raw _ HS.out.k (few_id HF1.out)).mono ?_
  intro e w9 hp
  obtain ⟨A3, n3, c3, z3, rfl, hk, hr3⟩ := hp.parts
  replace HS := Lib.hid (HS.out.go hk)
  have HO7 := Lib.hid (And.intro HO6.out.1 (own_keep HO6.out.2 hk (by simp)))
  clear hk hp HO6 H9
  rcases hr3 with ⟨o3, rfl, rfl, hv3⟩ | ⟨_, rfl⟩
  case inr =>
   go_wp2_with fail
   refine (HKN.out _ HS.out.k).mono ?_
   rintro e w9 ⟨rfl, hk⟩
   replace HS := Lib.hid (HS.out.go hk)
   clear hk
   go_wp2_with fail
   go_ret
   exact ⟨rfl, HS.out.k⟩
  obtain ⟨q1, q2, q3⟩ := id_raw HO7.out.1 o3
  obtain ⟨b3, f3, rfl, _, _⟩ := Lies.of_own hv3 (by rw [List.length_map]; exact pkRaw_pos _)
  have hc3 : (pkRaw (pkId2 p n)).length ≤ c3 := by
   obtain ⟨_, _, e, h, _⟩ := own_slice hv3
   injection e with _ _ e
   omega
  have HL1 := Lib.hid (Lies.of_own HO7.out.2)
  have HL3 := Lib.hid (Lies.of_own hv3)
  have hmax : N ≤ 10000 := by
   have h1 := HNP.out
   unfold pkRaw at h1
   rw [List.length_cons, List.length_append, lnRaw_length] at h1
   have := lnSize_le (pkBody p).length
   have := pkBody_len HO7.out.1
   omega
  have q4 := HNP.out
  rw [← q1, q4] at hc3 ⊢
  clear hv3 o3 HO7
  obtain ⟨L1, hL1⟩ : ∃ L, pkRaw p = L := ⟨_, rfl⟩
  obtain ⟨L3, hL3⟩ : ∃ L, pkRaw (pkId2 p n) = L := ⟨_, rfl⟩
  rw [hL1] at q1 q2 q3 q4 HL1
  rw [hL3] at q1 q2 q3 HL3
  have HQ := Lib.hid (And.intro q4 (And.intro (q1.symm.trans q4) (And.intro q2 q3)))
  clear q1 q2 q3 q4 hL1 hL3 HNP
  go_wp2_with fail
  go_loopw [12, 13] (fun c i wr => ∃ k : Nat, k ≤ N ∧ i = .int .i64 k ∧ c = .int .i64 (diffs (L1.take k) (L3.take k) : Nat) ∧ Hid (Keeps w9 wr [])) (fun _ i _ => N - (intOf i).toNat)
  case atStart => exact ⟨0, by omega, rfl, rfl, Lib.hid (Keeps.refl _ _)⟩
  case round =>
   obtain ⟨k, hk, rfl, rfl, HR⟩ := hrel
   by_cases hkl : k < N
   ·have hs := diffs_step L1 L3 k (by have := HQ.out.1; omega) (by have := HQ.out.2.1; omega)
    have hd := diffs_le (L1.take k) (L3.take k)
    rw [List.length_take] at hd
    have MA := fun (W' : World) (hW : Keeps wr W' []) => (show W'.cell? ⟨b1, f1 + k, none⟩ = some (.int .u8 ((L1[k]'(by have := HQ.out.1; omega)).toNat : Nat)) from by
     have h1k : k < L1.length := by have := HQ.out.1; omega
     obtain ⟨b', o', e, h1, h2⟩ := HL1.out.keep (HR.out.then_ hW) (Nat.le_refl _) (by simp) (by rw [List.length_map]; omega)
     injection e with e
     injection e with e3 e4
     subst e3 e4
     exact h2 k _ (by rw [List.getElem?_map, List.getElem?_eq_getElem h1k]; rfl))
    have MB := fun (W' : World) (hW : Keeps wr W' []) => (show W'.cell? ⟨b3, f3 + k, none⟩ = some (.int .u8 ((L3[k]'(by have := HQ.out.2.1; omega)).toNat : Nat)) from by
     have h1k : k < L3.length := by have := HQ.out.2.1; omega
     obtain ⟨b', o', e, h1, h2⟩ := HL3.out.keep (HR.out.then_ hW) (Nat.le_refl _) (by simp) (by rw [List.length_map]; omega)
     injection e with e
     injection e with e3 e4
     subst e3 e4
     exact h2 k _ (by rw [List.getElem?_map, List.getElem?_eq_getElem h1k]; rfl))
    obtain ⟨x, hx⟩ : ∃ x, L1[k]'(by have := HQ.out.1; omega) = x := ⟨_, rfl⟩
    obtain ⟨y, hy⟩ : ∃ y, L3[k]'(by have := HQ.out.2.1; omega) = y := ⟨_, rfl⟩
    rw [hx] at MA hs
    rw [hy] at MB hs
    obtain ⟨D, hD⟩ : ∃ D, diffs (L1.take k) (L3.take k) = D := ⟨_, rfl⟩
    rw [hD] at hs hd
    simp only [hD]
    clear hx hy hD
    have HSS := Lib.hid hs
    clear hs
    have hd9 : D ≤ N := by omega
    clear hd
    by_cases hxy : x = y
    ·subst hxy
     go_wp2_with fail
     refine wp_region_keeps _ (by kernel_rfl) rfl (by kernel_rfl) ?_
     iterate 3
      refine ls ?_
      simp only [addEnt]
     apply loose_is
     ·intro W vals hW hkn
      simp only [knows] at hkn
      try simp only [and_true] at hkn
      clear hkn; have m := MA W hW
      refine ⟨?_⟩
      simp only [fill]
      go_simp
      first | exact ⟨Keeps.refl _ _, rfl⟩ | exact ⟨Keeps.alloc _ _, rfl⟩
     iterate 3
      simp only [addEnt]
      refine ls ?_
     simp only [addEnt]
     apply loose_is
     ·intro W vals hW hkn
      simp only [knows] at hkn
      try simp only [and_true] at hkn
      clear hkn; have m := MB W hW
      refine ⟨?_⟩
      simp only [fill]
      go_simp
      first | exact ⟨Keeps.refl _ _, rfl⟩ | exact ⟨Keeps.alloc _ _, rfl⟩
     simp only [addEnt]
     refine ls ?_
     simp only [addEnt]
     refine loose_nil (fun W vals hW hkn => ?_)
     simp only [knowsAll] at hkn
     try simp only [and_true] at hkn
     simp only [fill, Act.put, List.setIfInBounds_toArray, List.set_cons_succ, List.set_cons_zero]
     clear hkn MA MB
     have HKK := Lib.hid (HR.out.then_ hW)
     clear hW
     go_wp2_with fail
     exact ⟨⟨k + 1, by omega, by go_num, by rw [HSS.out]; simp, HKK⟩, by simp [intOf]; omega⟩
    ·have hb : ((x.toNat : Int) != (y.toNat : Int)) = true := by
      have : ¬ x.toNat = y.toNat := fun h => hxy (UInt8.toNat.inj h)
      rw [bne_iff_ne]
      omega
     have HNE := Lib.hid hxy
     clear hxy
     go_wp2_with fail
     refine wp_region_keeps _ (by kernel_rfl) rfl (by kernel_rfl) ?_
     iterate 3
      refine ls ?_
      simp only [addEnt]
     apply loose_is
     ·intro W vals hW hkn
      simp only [knows] at hkn
      try simp only [and_true] at hkn
      clear hkn; have m := MA W hW
      refine ⟨?_⟩
      simp only [fill]
      go_simp
      first | exact ⟨Keeps.refl _ _, rfl⟩ | exact ⟨Keeps.alloc _ _, rfl⟩
     iterate 3
      simp only [addEnt]
      refine ls ?_
     simp only [addEnt]
     apply loose_is
     ·intro W vals hW hkn
      simp only [knows] at hkn
      try simp only [and_true] at hkn
      clear hkn; have m := MB W hW
      refine ⟨?_⟩
      simp only [fill]
      go_simp
      first | exact ⟨Keeps.refl _ _, rfl⟩ | exact ⟨Keeps.alloc _ _, rfl⟩
     simp only [addEnt]
     refine ls ?_
     simp only [addEnt]
     refine loose_nil (fun W vals hW hkn => ?_)
     simp only [knowsAll] at hkn
     try simp only [and_true] at hkn
     simp only [fill, Act.put, List.setIfInBounds_toArray, List.set_cons_succ, List.set_cons_zero]
     clear hkn MA MB
     have HKK := Lib.hid (HR.out.then_ hW)
     clear hW
     go_wp2_with fail
     exact ⟨⟨k + 1, by omega, by go_num, by rw [HSS.out, if_neg HNE.out]; go_num, HKK⟩, by simp [intOf]; omega⟩
   ·obtain rfl : k = N := by omega
    have e1 : L1.take k = L1 := List.take_of_length_le (by have := HQ.out.1; omega)
    have e3 : L3.take k = L3 := List.take_of_length_le (by have := HQ.out.2.1; omega)
    rw [e1, e3]
    obtain ⟨D, hD⟩ : ∃ D, diffs L1 L3 = D := ⟨_, rfl⟩
    have q := HQ.out.2.2
    rw [hD] at q ⊢
    clear e1 e3 hD
    replace HS := Lib.hid (HS.out.go HR.out)
    have x6 := (HS.out.r1.cell 6).trans HC.out.c6
    have d2 : decide ((D : Int) ≤ 2) = true := by have := q.1; simp; omega
    by_cases hid : p.id = n
    ·have hD0 : D = 0 := q.2.2 hid
     subst hD0
     rw [hid] at x6
     clear q hid
     go_wp2_with fail
     refine (HKN.out _ HS.out.k).mono ?_
     rintro e w9 ⟨rfl, hk⟩
     replace HS := Lib.hid (HS.out.go hk)
     clear hk
     go_wp2_with fail
     go_ret
     exact ⟨rfl, HS.out.k⟩
    ·have hz1 : ((D : Int) == 0) = false := by
      have : ¬ D = 0 := fun h => hid (q.2.1 h)
      simpa using this
     have hz2 : (p.id == n) = false := by simpa using hid
     clear q hid
     go_wp2_with fail
     refine (HKN.out _ HS.out.k).mono ?_
     rintro e w9 ⟨rfl, hk⟩
     replace HS := Lib.hid (HS.out.go hk)
     clear hk
     go_wp2_with fail
     go_ret
     exact ⟨rfl, HS.out.k⟩
set_option maxRecDepth 100000 in
theorem packetFlags_any (p : Pk) (n : Int) (sw sc sf : Value) (w : World) (hm : MaxL w) (h1 : PkL w p sw sc sf) (hk : -9223372036854775808 ≤ p.k ∧ p.k ≤ 9223372036854775807) (hb : p.t.length + p.c.length + p.u.length ≤ 9223372036854775807) : Calls Tryz.prog 6 #[pkV p sw sc sf, .int .i64 n] w (TruePost w true) := by
 obtain ⟨A1, d1, A2, d2, A3, d3, rfl, rfl, rfl⟩ := h1.slices
 refine flags_walk p n _ w hm (PkA.of hm h1 hk.1 hk.2 hb rfl) ⟨rfl, rfl, rfl, rfl, rfl, by simp [Value.oneCell']⟩ (PkA.of (p := pkTurn p) hm ⟨h1.lw, h1.lc, h1.lf⟩ hk.1 hk.2 hb rfl) (PkA.of (p := pkId2 p n) hm ⟨h1.lw, h1.lc, h1.lf⟩ hk.1 hk.2 hb rfl)
end Go.Proofs.YtahbikfbjenfpaaGreatDoor
