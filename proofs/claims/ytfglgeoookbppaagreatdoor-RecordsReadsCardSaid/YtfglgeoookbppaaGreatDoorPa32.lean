/- Package records: Read. -/
import Derived.Test.YtfglgeoookbppaaGreatDoorPa30
import Derived.Test.YtfglgeoookbppaaGreatDoorPa23
import Derived.Test.YtfglgeoookbppaaGreatDoorPa31

namespace Go.Proofs.YtfglgeoookbppaaGreatDoor
open Go.RowKit Go.Shelf

set_option maxRecDepth 100000 in
set_option maxHeartbeats 8000000 in
theorem rvRead_any (w : World) (T K V : List UInt8) (hM : MaxL w) (hK : K.length ≤ 100000) (hV : V.length ≤ 40000) : Calls Tryz.prog 16 #[.string ⟨T.toArray⟩, .string ⟨K.toArray⟩, .string ⟨V.toArray⟩] w (RvPost w T K V) := by
 have hmf : ∀ (fn : Fn) (first cap : Array Value) (w : World), (Instr.makeFunc fn first cap).run Tryz.prog w = .ok (.func fn first cap) w := fun _ _ _ _ => rfl
 have C1 := Lib.hid (fun w => rcKind_any w T)
 have C2 := Lib.hid (fun (w : World) (h : MaxL w) => kParse_any w K h hK)
 simp only [strV] at C2
 obtain ⟨W0, hW0⟩ : ∃ W', ((w.alloc (.cells rwZC 25)).alloc (.cells #[.int .i64 0] 2)).alloc (.cells #[.int .i64 0] 29) = W' := ⟨_, rfl⟩
 have hk0 : Keeps w W0 [] := by rw [← hW0]; exact ((Keeps.alloc _ _).then_alloc _).then_alloc _
 have hr1 : Row W0 w.heap.size 25 rwZC := by rw [← hW0]; exact ((Row.new w _ _).alloc _).alloc _
 have hr2 : Row W0 (w.heap.size + 1) 2 #[.int .i64 0] := by
  rw [← hW0]
  have := (Row.new (w.alloc (.cells rwZC 25)) 2 #[.int .i64 0]).alloc (.cells #[.int .i64 0] 29)
  rw [show (w.alloc (.cells rwZC 25)).heap.size = w.heap.size + 1 by simp] at this
  exact this
 have hr3 : Row W0 (w.heap.size + 1 + 1) 29 #[.int .i64 0] := by
  rw [← hW0]
  have := Row.new ((w.alloc (.cells rwZC 25)).alloc (.cells #[.int .i64 0] 2)) 29 #[.int .i64 0]
  rw [show ((w.alloc (.cells rwZC 25)).alloc (.cells #[.int .i64 0] 2)).heap.size = w.heap.size + 1 + 1 by simp] at this
  exact this
 go_enter_defers Tryz.func16, Tryz.ntmps16
 go_wp2_with fail
 try rw [hW0]
 clear hW0
 have HM := Lib.hid hM
 obtain ⟨B, hB⟩ : ∃ B, w.heap.size = B := ⟨_, rfl⟩
 rw [hB] at hr1 hr2 hr3 ⊢
 have ST := Lib.hid (show RvSt w W0 B rwZC (.int .i64 0) (.int .i64 0) from ⟨hk0, hr1, hr2, hr3, by omega, rfl⟩)
 clear hk0 hr1 hr2 hr3 hB hM
 refine (C1.out _).mono ?_
 rintro e w1 ⟨kd, ok, rfl, hyes, hno, hk⟩
 replace ST := Lib.hid (ST.out.go hk)
 clear hk
 cases ok with
 | false =>
  have HN := Lib.hid (hno rfl).2
  clear hyes hno
  go_wp2_with (go_at_call 37; refine (rvMust_no _).mono ?_; rintro e w' ⟨rfl, rfl⟩)
  refine rvRead_dies _ _ B ST.out (fun x q h => HN.out x.k (rcOk_is (rcFits_ok h.fits)) h.tree) rfl rfl rfl
 | true =>
  obtain ⟨hki, hkt⟩ := hyes rfl
  have HKD := Lib.hid (And.intro hki hkt)
  clear hyes hno hki hkt
  go_wp2_with (go_at_call 37; refine (rvMust_yes _).mono ?_; rintro e w' ⟨rfl, rfl⟩)
  refine (C2.out _ (HM.out.keeps ST.out.k)).mono ?_
  rintro e w2 ⟨hk, h⟩
  replace ST := Lib.hid (ST.out.go hk)
  clear hk
  have c3 := ST.out.r3.cell 0
  have f3 := ST.out.r3.frozen 0
  simp only [List.getElem?_toArray, List.getElem?_cons_zero] at c3
  rcases h with ⟨l, v, h48, hp, he, rfl, ho⟩ | ⟨hbad, rfl⟩
  ·have HP := Lib.hid (And.intro hp he)
   obtain ⟨b0, hb0⟩ : ∃ b0, w1.heap.size = b0 := ⟨_, rfl⟩
   rw [hb0] at ho
   clear hb0
   have HO := Lib.hid ho
   have H48 := Lib.hid h48
   have HKB := Lib.hid (show -9223372036854775808 ≤ kd ∧ kd ≤ 9223372036854775807 from by
    have := HKD.out.1
    unfold rcIs at this
    rw [inN_iff] at this
    omega)
   clear h48 hp he ho
   have n3 := ownP_ne HO.out ST.out.r3 (by decide)
   obtain ⟨A, cl, rfl, _⟩ := ownP_slice HO.out
   obtain ⟨se, ke⟩ := ST.out.err (.int .i64 0)
   obtain ⟨Wc, hWc⟩ : ∃ Wc, w2.setCell ⟨B + 1 + 1, 0, none⟩ (.int .i64 0) = Wc := ⟨_, rfl⟩
   rw [hWc] at se ke
   replace HO := Lib.hid (ownP_keep HO.out ke (fun g hg => by rw [hg] at n3; simpa using n3))
   obtain ⟨cap, W3, hcv, hby, k3⟩ := conv_by3 Wc V (by omega)
   replace HO := Lib.hid (ownP_keep HO.out k3 (by simp))
   have d3 := se.r3.cell 0
   simp only [List.getElem?_toArray, List.getElem?_cons_zero] at d3
   replace ST := Lib.hid (se.go k3)
   have HB3 := Lib.hid (show B + 1 + 1 < W3.heap.size from ST.out.r3.lt)
   have HBY := Lib.hid hby
   clear n3 se ke k3 hby
   go_wp2_with (go_at_call 37; refine (rvMust_yes _).mono ?_; rintro e w' ⟨rfl, rfl⟩)
   refine (newReader_any _ _ V HBY.out).mono ?_
   rintro e w4 ⟨r, rfl, hrd, hk4⟩
   replace ST := Lib.hid (ST.out.go hk4)
   replace HO := Lib.hid (ownP_keep HO.out hk4 (by simp))
   have HRD := Lib.hid hrd
   clear hrd hk4 hWc hcv d3 c3 f3 HBY
   go_upto_region 7 with fail
   obtain ⟨W5, hW5⟩ : ∃ W5, w4.alloc (.cells #[.pointer (some ⟨r, 0, none⟩)] 80) = W5 := ⟨_, rfl⟩
   have k5 : Keeps w4 W5 [] := by rw [← hW5]; exact Keeps.alloc _ _
   have ri : Row W5 w4.heap.size 80 #[.pointer (some ⟨r, 0, none⟩)] := by rw [← hW5]; exact Row.new _ _ _
   obtain ⟨bi, hbi⟩ : ∃ bi, w4.heap.size = bi := ⟨_, rfl⟩
   obtain ⟨base, hbase⟩ : ∃ base, W3.heap.size = base := ⟨_, rfl⟩
   have hlt3 : B + 1 + 1 < base := by
    have := HB3.out
    omega
   rw [hbase] at HRD
   have hrl : base ≤ r ∧ r < bi := by
    obtain ⟨A', c', q1, q2, _⟩ := HRD.out
    have := q1.lt
    exact ⟨q2, by omega⟩
   have hbr : B + 1 + 1 < r := by omega
   rw [hW5, hbi]
   rw [hbi] at ri
   replace HRD := Lib.hid (HRD.out.keep k5 (by simp))
   replace ST := Lib.hid (ST.out.go k5)
   replace HO := Lib.hid (ownP_keep HO.out k5 (by simp))
   have RI := Lib.hid ri
   obtain ⟨rx, hr5⟩ : ∃ x, Row W5 r 123 #[x, .bool true] := by
    obtain ⟨A', c', q1, _⟩ := HRD.out
    exact ⟨_, q1⟩
   have HR5 := Lib.hid hr5
   clear hr5
   have MI : ∀ W', Keeps W5 W' [r] → W'.cell? ⟨bi, 0, none⟩ = some (.pointer (some ⟨r, 0, none⟩)) := fun W' hk => by
    have := (RI.out.keep hk (by simp; omega)).cell 0
    simpa using this
   clear hW5 k5 ri hbi hbase
   rcases hE1 : rdN 8 V with _ | ⟨n1, V1⟩
   ·have HNO := Lib.hid (rv_none (T := T) (K := K) (V := V) (by unfold rvDec; simp only [hE1, Option.bind_none]))
    have E1 := Lib.hid hE1
    clear hE1
    have LH : LightK [⟨2, [], []⟩] (rdC r) (rdA base r V (rdLs V V V V V)) := rdLight
    refine wp_region_writersD [⟨2, [], []⟩] (rdC r) (rdA base r V (rdLs V V V V V)) _ 2 [] _ rfl LH (by kernel_rfl) rfl (by kernel_rfl) ?_
    apply loosed_is 0 _ rfl (by decide)
    ·intro W vals hW hkn
     clear hkn
     have hC := hW.c
     refine ⟨?_⟩
     simp only [fill]
     go_simp
     first | exact ⟨LH.stp (Keeps.refl _ _), rfl⟩ | exact ⟨LH.stp (Keeps.alloc _ _), rfl⟩
    simp only [addEnt]
    apply loosed_is 1 _ rfl (by decide)
    ·intro W vals hW hkn
     have hC := hW.c
     simp only [knowsK] at hkn
     try simp only [and_true] at hkn
     clear hkn; have m := MI W hC
     refine ⟨?_⟩
     simp only [fill]
     go_simp
     first | exact ⟨LH.stp (Keeps.refl _ _), rfl⟩ | exact ⟨LH.stp (Keeps.alloc _ _), rfl⟩
    simp only [addEnt]
    refine loosed_dies rfl (fun W vals hW hkn => ?_) ?_
    ·have hC := hW.c
     simp only [knowsK] at hkn
     try simp only [and_true] at hkn
     have hr : Rd W base r V := (hW.a ⟨2, [], []⟩ (by simp) (.inl rfl)).1 HRD.out
     clear hkn
     simp only [fill, Act.put, List.setIfInBounds_toArray, List.set_cons_succ, List.set_cons_zero]
     refine ⟨rfl, 40, #[.agg #[.pointer (some ⟨r, 0, none⟩)], .int .i64 8], W, by go_simp, ?_⟩
     refine (rvNum_none hr E1.out (by omega) (by omega) rfl).mono ?_
     rintro e w9 ⟨hk9, rfl⟩
     refine ⟨_, rfl, fun a' hd' ht' => ?_⟩
     obtain ⟨t', d'⟩ := a'
     simp only at hd'
     subst hd'
     have t6 := ht' 6 (off_all (by kernel_rfl))
     have t7 := ht' 7 (off_all (by kernel_rfl))
     have t8 := ht' 8 (off_all (by kernel_rfl))
     simp only [Exit.then]
     exact rvRead_dies w9 t' B ((ST.out.goR hC hbr).goR hk9 hbr) HNO.out (by rw [Array.getD_eq_getD_getElem?, t6]; rfl) (by rw [Array.getD_eq_getD_getElem?, t7]; rfl) (by rw [Array.getD_eq_getD_getElem?, t8]; rfl)
    simp only [addEnt]
    apply loosed_is 3 _ rfl (by decide)
    ·intro W vals hW hkn
     have hC := hW.c
     simp only [knowsK] at hkn
     try simp only [and_true] at hkn
     clear hkn; have m := MI W hC
     refine ⟨?_⟩
     simp only [fill]
     go_simp
     first | exact ⟨LH.stp (Keeps.refl _ _), rfl⟩ | exact ⟨LH.stp (Keeps.alloc _ _), rfl⟩
    simp only [addEnt]
    refine loosed_skip 4 rfl (by decide) (by kernel_rfl) ?_
    simp only [addEnt]
    apply loosed_is 5 _ rfl (by decide)
    ·intro W vals hW hkn
     have hC := hW.c
     simp only [knowsK] at hkn
     try simp only [and_true] at hkn
     clear hkn; have m := MI W hC
     refine ⟨?_⟩
     simp only [fill]
     go_simp
     first | exact ⟨LH.stp (Keeps.refl _ _), rfl⟩ | exact ⟨LH.stp (Keeps.alloc _ _), rfl⟩
    simp only [addEnt]
    refine loosed_skip 6 rfl (by decide) (by kernel_rfl) ?_
    simp only [addEnt]
    apply loosed_is 7 _ rfl (by decide)
    ·intro W vals hW hkn
     have hC := hW.c
     simp only [knowsK] at hkn
     try simp only [and_true] at hkn
     clear hkn; have m := MI W hC
     refine ⟨?_⟩
     simp only [fill]
     go_simp
     first | exact ⟨LH.stp (Keeps.refl _ _), rfl⟩ | exact ⟨LH.stp (Keeps.alloc _ _), rfl⟩
    simp only [addEnt]
    refine loosed_skip 8 rfl (by decide) (by kernel_rfl) ?_
    simp only [addEnt]
    apply loosed_is 9 _ rfl (by decide)
    ·intro W vals hW hkn
     have hC := hW.c
     simp only [knowsK] at hkn
     try simp only [and_true] at hkn
     clear hkn; have m := MI W hC
     refine ⟨?_⟩
     simp only [fill]
     go_simp
     first | exact ⟨LH.stp (Keeps.refl _ _), rfl⟩ | exact ⟨LH.stp (Keeps.alloc _ _), rfl⟩
    simp only [addEnt]
    refine loosed_skip 10 rfl (by decide) (by kernel_rfl) ?_
    simp only [addEnt]
    refine loosed_skip 11 rfl (by decide) (by kernel_rfl) ?_
    simp only [addEnt]
    refine loosed_skip 12 rfl (by decide) (by kernel_rfl) ?_
    simp only [addEnt]
    exact loosed_nil
   have E1 := Lib.hid hE1
   have lE1 : V1.length < V.length := by
    have := (rdN_sound hE1).2.2
    omega
   clear hE1
   rcases hE2 : rdN 8 V1 with _ | ⟨n2, V2⟩
   ·have HNO := Lib.hid (rv_none (T := T) (K := K) (V := V) (by unfold rvDec; simp only [E1.out, hE2, Option.bind_some, Option.bind_none]))
    have E2 := Lib.hid hE2
    clear hE2
    have LH : LightK [⟨2, [], []⟩, ⟨4, [], []⟩] (rdC r) (rdA base r V1 (rdLs V V1 V1 V1 V1)) := rdLight
    refine wp_region_writersD [⟨2, [], []⟩, ⟨4, [], []⟩] (rdC r) (rdA base r V1 (rdLs V V1 V1 V1 V1)) _ 4 [37] _ rfl LH (by kernel_rfl) rfl (by kernel_rfl) ?_
    apply loosed_is 0 _ rfl (by decide)
    ·intro W vals hW hkn
     clear hkn
     have hC := hW.c
     refine ⟨?_⟩
     simp only [fill]
     go_simp
     first | exact ⟨LH.stp (Keeps.refl _ _), rfl⟩ | exact ⟨LH.stp (Keeps.alloc _ _), rfl⟩
    simp only [addEnt]
    apply loosed_is 1 _ rfl (by decide)
    ·intro W vals hW hkn
     have hC := hW.c
     simp only [knowsK] at hkn
     try simp only [and_true] at hkn
     clear hkn; have m := MI W hC
     refine ⟨?_⟩
     simp only [fill]
     go_simp
     first | exact ⟨LH.stp (Keeps.refl _ _), rfl⟩ | exact ⟨LH.stp (Keeps.alloc _ _), rfl⟩
    simp only [addEnt]
    refine loosed_had 2 [] (fun _ v W' => v = .int .i64 (wrap64 (n1 : Nat)) ∧ Rd W' base r V1) rfl (by decide) (by kernel_rfl) (fun W vals hW hkn φ' hφ => ?_) ?_
    ·have hC := hW.c
     simp only [knowsK] at hkn
     try simp only [and_true] at hkn
     have hr : Rd W base r V := (hW.a ⟨2, [], []⟩ (by simp) (.inl rfl)).1 HRD.out; clear hkn
     refine ⟨?_⟩
     simp only [fill]
     go_simp
     exact loosek_writes LH hφ ((rvNum_some hr E1.out (by omega) (by omega) rfl).mono (by rintro e w9 ⟨h1, h2, h3⟩; exact ⟨_, h2, rdStp hr h1 (by simp [rdLs] <;> omega) (by simp [rdLs] <;> omega), rfl, h3⟩))
    simp only [addEnt]
    apply loosed_is 3 _ rfl (by decide)
    ·intro W vals hW hkn
     have hC := hW.c
     simp only [knowsK] at hkn
     try simp only [and_true] at hkn
     clear hkn; have m := MI W hC
     refine ⟨?_⟩
     simp only [fill]
     go_simp
     first | exact ⟨LH.stp (Keeps.refl _ _), rfl⟩ | exact ⟨LH.stp (Keeps.alloc _ _), rfl⟩
    simp only [addEnt]
    refine loosed_dies rfl (fun W vals hW hkn => ?_) ?_
    ·have hC := hW.c
     simp only [knowsK] at hkn
     try simp only [and_true] at hkn
     obtain ⟨W1, h0, h1, _, hrd⟩ := hkn (by decide); have hr : Rd W base r V1 := (h1.a ⟨4, [], []⟩ (by simp) (.inr (.inr (.inl rfl)))).1 hrd
     clear hkn
     simp only [fill, Act.put, List.setIfInBounds_toArray, List.set_cons_succ, List.set_cons_zero]
     refine ⟨rfl, 40, #[.agg #[.pointer (some ⟨r, 0, none⟩)], .int .i64 8], W, by go_simp, ?_⟩
     refine (rvNum_none hr E2.out (by omega) (by omega) rfl).mono ?_
     rintro e w9 ⟨hk9, rfl⟩
     refine ⟨_, rfl, fun a' hd' ht' => ?_⟩
     obtain ⟨t', d'⟩ := a'
     simp only at hd'
     subst hd'
     have t6 := ht' 6 (off_all (by kernel_rfl))
     have t7 := ht' 7 (off_all (by kernel_rfl))
     have t8 := ht' 8 (off_all (by kernel_rfl))
     simp only [Exit.then]
     exact rvRead_dies w9 t' B ((ST.out.goR hC hbr).goR hk9 hbr) HNO.out (by rw [Array.getD_eq_getD_getElem?, t6]; rfl) (by rw [Array.getD_eq_getD_getElem?, t7]; rfl) (by rw [Array.getD_eq_getD_getElem?, t8]; rfl)
    simp only [addEnt]
    apply loosed_is 5 _ rfl (by decide)
    ·intro W vals hW hkn
     have hC := hW.c
     simp only [knowsK] at hkn
     try simp only [and_true] at hkn
     clear hkn; have m := MI W hC
     refine ⟨?_⟩
     simp only [fill]
     go_simp
     first | exact ⟨LH.stp (Keeps.refl _ _), rfl⟩ | exact ⟨LH.stp (Keeps.alloc _ _), rfl⟩
    simp only [addEnt]
    refine loosed_skip 6 rfl (by decide) (by kernel_rfl) ?_
    simp only [addEnt]
    apply loosed_is 7 _ rfl (by decide)
    ·intro W vals hW hkn
     have hC := hW.c
     simp only [knowsK] at hkn
     try simp only [and_true] at hkn
     clear hkn; have m := MI W hC
     refine ⟨?_⟩
     simp only [fill]
     go_simp
     first | exact ⟨LH.stp (Keeps.refl _ _), rfl⟩ | exact ⟨LH.stp (Keeps.alloc _ _), rfl⟩
    simp only [addEnt]
    refine loosed_skip 8 rfl (by decide) (by kernel_rfl) ?_
    simp only [addEnt]
    apply loosed_is 9 _ rfl (by decide)
    ·intro W vals hW hkn
     have hC := hW.c
     simp only [knowsK] at hkn
     try simp only [and_true] at hkn
     clear hkn; have m := MI W hC
     refine ⟨?_⟩
     simp only [fill]
     go_simp
     first | exact ⟨LH.stp (Keeps.refl _ _), rfl⟩ | exact ⟨LH.stp (Keeps.alloc _ _), rfl⟩
    simp only [addEnt]
    refine loosed_skip 10 rfl (by decide) (by kernel_rfl) ?_
    simp only [addEnt]
    refine loosed_skip 11 rfl (by decide) (by kernel_rfl) ?_
    simp only [addEnt]
    refine loosed_skip 12 rfl (by decide) (by kernel_rfl) ?_
    simp only [addEnt]
    exact loosed_nil
   have E2 := Lib.hid hE2
   have lE2 : V2.length < V1.length := by
    have := (rdN_sound hE2).2.2
    omega
   clear hE2
   rcases hE3 : rdTx V2 with _ | ⟨s3, V3⟩
   ·have HNO := Lib.hid (rv_none (T := T) (K := K) (V := V) (by unfold rvDec; simp only [E1.out, E2.out, hE3, Option.bind_some, Option.bind_none]))
    have E3 := Lib.hid hE3
    clear hE3
    have LH : LightK [⟨2, [], []⟩, ⟨4, [], []⟩, ⟨6, [], []⟩] (rdC r) (rdA base r V2 (rdLs V V1 V2 V2 V2)) := rdLight
    refine wp_region_writersD [⟨2, [], []⟩, ⟨4, [], []⟩, ⟨6, [], []⟩] (rdC r) (rdA base r V2 (rdLs V V1 V2 V2 V2)) _ 6 [39] _ rfl LH (by kernel_rfl) rfl (by kernel_rfl) ?_
    apply loosed_is 0 _ rfl (by decide)
    ·intro W vals hW hkn
     clear hkn
     have hC := hW.c
     refine ⟨?_⟩
     simp only [fill]
     go_simp
     first | exact ⟨LH.stp (Keeps.refl _ _), rfl⟩ | exact ⟨LH.stp (Keeps.alloc _ _), rfl⟩
    simp only [addEnt]
    apply loosed_is 1 _ rfl (by decide)
    ·intro W vals hW hkn
     have hC := hW.c
     simp only [knowsK] at hkn
     try simp only [and_true] at hkn
     clear hkn; have m := MI W hC
     refine ⟨?_⟩
     simp only [fill]
     go_simp
     first | exact ⟨LH.stp (Keeps.refl _ _), rfl⟩ | exact ⟨LH.stp (Keeps.alloc _ _), rfl⟩
    simp only [addEnt]
    refine loosed_had 2 [] (fun _ v W' => v = .int .i64 (wrap64 (n1 : Nat)) ∧ Rd W' base r V1) rfl (by decide) (by kernel_rfl) (fun W vals hW hkn φ' hφ => ?_) ?_
    ·have hC := hW.c
     simp only [knowsK] at hkn
     try simp only [and_true] at hkn
     have hr : Rd W base r V := (hW.a ⟨2, [], []⟩ (by simp) (.inl rfl)).1 HRD.out; clear hkn
     refine ⟨?_⟩
     simp only [fill]
     go_simp
     exact loosek_writes LH hφ ((rvNum_some hr E1.out (by omega) (by omega) rfl).mono (by rintro e w9 ⟨h1, h2, h3⟩; exact ⟨_, h2, rdStp hr h1 (by simp [rdLs] <;> omega) (by simp [rdLs] <;> omega), rfl, h3⟩))
    simp only [addEnt]
    apply loosed_is 3 _ rfl (by decide)
    ·intro W vals hW hkn
     have hC := hW.c
     simp only [knowsK] at hkn
     try simp only [and_true] at hkn
     clear hkn; have m := MI W hC
     refine ⟨?_⟩
     simp only [fill]
     go_simp
     first | exact ⟨LH.stp (Keeps.refl _ _), rfl⟩ | exact ⟨LH.stp (Keeps.alloc _ _), rfl⟩
    simp only [addEnt]
    refine loosed_had 4 [37] (fun _ v W' => v = .int .i64 (wrap64 (n2 : Nat)) ∧ Rd W' base r V2) rfl (by decide) (by kernel_rfl) (fun W vals hW hkn φ' hφ => ?_) ?_
    ·have hC := hW.c
     simp only [knowsK] at hkn
     try simp only [and_true] at hkn
     obtain ⟨W1, h0, h1, _, hrd⟩ := hkn (by decide); have hr : Rd W base r V1 := (h1.a ⟨4, [], []⟩ (by simp) (.inr (.inr (.inl rfl)))).1 hrd; clear hkn
     refine ⟨?_⟩
     simp only [fill]
     go_simp
     exact loosek_writes LH hφ ((rvNum_some hr E2.out (by omega) (by omega) rfl).mono (by rintro e w9 ⟨h1, h2, h3⟩; exact ⟨_, h2, rdStp hr h1 (by simp [rdLs] <;> omega) (by simp [rdLs] <;> omega), rfl, h3⟩))
    simp only [addEnt]
    apply loosed_is 5 _ rfl (by decide)
    ·intro W vals hW hkn
     have hC := hW.c
     simp only [knowsK] at hkn
     try simp only [and_true] at hkn
     clear hkn; have m := MI W hC
     refine ⟨?_⟩
     simp only [fill]
     go_simp
     first | exact ⟨LH.stp (Keeps.refl _ _), rfl⟩ | exact ⟨LH.stp (Keeps.alloc _ _), rfl⟩
    simp only [addEnt]
    refine loosed_dies rfl (fun W vals hW hkn => ?_) ?_
    ·have hC := hW.c
     simp only [knowsK] at hkn
     try simp only [and_true] at hkn
     obtain ⟨W1, h0, h1, _, hrd⟩ := hkn.1 (by decide); have hr : Rd W base r V2 := (h1.a ⟨6, [], []⟩ (by simp) (.inr (.inr (.inl rfl)))).1 hrd
     clear hkn
     simp only [fill, Act.put, List.setIfInBounds_toArray, List.set_cons_succ, List.set_cons_zero]
     refine ⟨rfl, 41, #[.agg #[.pointer (some ⟨r, 0, none⟩)]], W, by go_simp, ?_⟩
     refine (rvTxt_none hr E3.out).mono ?_
     rintro e w9 ⟨hk9, rfl⟩
     refine ⟨_, rfl, fun a' hd' ht' => ?_⟩
     obtain ⟨t', d'⟩ := a'
     simp only at hd'
     subst hd'
     have t6 := ht' 6 (off_all (by kernel_rfl))
     have t7 := ht' 7 (off_all (by kernel_rfl))
     have t8 := ht' 8 (off_all (by kernel_rfl))
     simp only [Exit.then]
     exact rvRead_dies w9 t' B ((ST.out.goR hC hbr).goR hk9 hbr) HNO.out (by rw [Array.getD_eq_getD_getElem?, t6]; rfl) (by rw [Array.getD_eq_getD_getElem?, t7]; rfl) (by rw [Array.getD_eq_getD_getElem?, t8]; rfl)
    simp only [addEnt]
    apply loosed_is 7 _ rfl (by decide)
    ·intro W vals hW hkn
     have hC := hW.c
     simp only [knowsK] at hkn
     try simp only [and_true] at hkn
     clear hkn; have m := MI W hC
     refine ⟨?_⟩
     simp only [fill]
     go_simp
     first | exact ⟨LH.stp (Keeps.refl _ _), rfl⟩ | exact ⟨LH.stp (Keeps.alloc _ _), rfl⟩
    simp only [addEnt]
    refine loosed_skip 8 rfl (by decide) (by kernel_rfl) ?_
    simp only [addEnt]
    apply loosed_is 9 _ rfl (by decide)
    ·intro W vals hW hkn
     have hC := hW.c
     simp only [knowsK] at hkn
     try simp only [and_true] at hkn
     clear hkn; have m := MI W hC
     refine ⟨?_⟩
     simp only [fill]
     go_simp
     first | exact ⟨LH.stp (Keeps.refl _ _), rfl⟩ | exact ⟨LH.stp (Keeps.alloc _ _), rfl⟩
    simp only [addEnt]
    refine loosed_skip 10 rfl (by decide) (by kernel_rfl) ?_
    simp only [addEnt]
    refine loosed_skip 11 rfl (by decide) (by kernel_rfl) ?_
    simp only [addEnt]
    refine loosed_skip 12 rfl (by decide) (by kernel_rfl) ?_
    simp only [addEnt]
    exact loosed_nil
   have E3 := Lib.hid hE3
   have lE3 : V3.length < V2.length := by
    have := (rdTx_sound hE3).2.2
    omega
   clear hE3
   rcases hE4 : rdTx V3 with _ | ⟨s4, V4⟩
   ·have HNO := Lib.hid (rv_none (T := T) (K := K) (V := V) (by unfold rvDec; simp only [E1.out, E2.out, E3.out, hE4, Option.bind_some, Option.bind_none]))
    have E4 := Lib.hid hE4
    clear hE4
    have LH : LightK [⟨2, [], []⟩, ⟨4, [], []⟩, ⟨6, [], []⟩, ⟨8, [], []⟩] (rdC r) (rdA base r V3 (rdLs V V1 V2 V3 V3)) := rdLight
    refine wp_region_writersD [⟨2, [], []⟩, ⟨4, [], []⟩, ⟨6, [], []⟩, ⟨8, [], []⟩] (rdC r) (rdA base r V3 (rdLs V V1 V2 V3 V3)) _ 8 [41] _ rfl LH (by kernel_rfl) rfl (by kernel_rfl) ?_
    apply loosed_is 0 _ rfl (by decide)
    ·intro W vals hW hkn
     clear hkn
     have hC := hW.c
     refine ⟨?_⟩
     simp only [fill]
     go_simp
     first | exact ⟨LH.stp (Keeps.refl _ _), rfl⟩ | exact ⟨LH.stp (Keeps.alloc _ _), rfl⟩
    simp only [addEnt]
    apply loosed_is 1 _ rfl (by decide)
    ·intro W vals hW hkn
     have hC := hW.c
     simp only [knowsK] at hkn
     try simp only [and_true] at hkn
     clear hkn; have m := MI W hC
     refine ⟨?_⟩
     simp only [fill]
     go_simp
     first | exact ⟨LH.stp (Keeps.refl _ _), rfl⟩ | exact ⟨LH.stp (Keeps.alloc _ _), rfl⟩
    simp only [addEnt]
    refine loosed_had 2 [] (fun _ v W' => v = .int .i64 (wrap64 (n1 : Nat)) ∧ Rd W' base r V1) rfl (by decide) (by kernel_rfl) (fun W vals hW hkn φ' hφ => ?_) ?_
    ·have hC := hW.c
     simp only [knowsK] at hkn
     try simp only [and_true] at hkn
     have hr : Rd W base r V := (hW.a ⟨2, [], []⟩ (by simp) (.inl rfl)).1 HRD.out; clear hkn
     refine ⟨?_⟩
     simp only [fill]
     go_simp
     exact loosek_writes LH hφ ((rvNum_some hr E1.out (by omega) (by omega) rfl).mono (by rintro e w9 ⟨h1, h2, h3⟩; exact ⟨_, h2, rdStp hr h1 (by simp [rdLs] <;> omega) (by simp [rdLs] <;> omega), rfl, h3⟩))
    simp only [addEnt]
    apply loosed_is 3 _ rfl (by decide)
    ·intro W vals hW hkn
     have hC := hW.c
     simp only [knowsK] at hkn
     try simp only [and_true] at hkn
     clear hkn; have m := MI W hC
     refine ⟨?_⟩
     simp only [fill]
     go_simp
     first | exact ⟨LH.stp (Keeps.refl _ _), rfl⟩ | exact ⟨LH.stp (Keeps.alloc _ _), rfl⟩
    simp only [addEnt]
    refine loosed_had 4 [37] (fun _ v W' => v = .int .i64 (wrap64 (n2 : Nat)) ∧ Rd W' base r V2) rfl (by decide) (by kernel_rfl) (fun W vals hW hkn φ' hφ => ?_) ?_
    ·have hC := hW.c
     simp only [knowsK] at hkn
     try simp only [and_true] at hkn
     obtain ⟨W1, h0, h1, _, hrd⟩ := hkn (by decide); have hr : Rd W base r V1 := (h1.a ⟨4, [], []⟩ (by simp) (.inr (.inr (.inl rfl)))).1 hrd; clear hkn
     refine ⟨?_⟩
     simp only [fill]
     go_simp
     exact loosek_writes LH hφ ((rvNum_some hr E2.out (by omega) (by omega) rfl).mono (by rintro e w9 ⟨h1, h2, h3⟩; exact ⟨_, h2, rdStp hr h1 (by simp [rdLs] <;> omega) (by simp [rdLs] <;> omega), rfl, h3⟩))
    simp only [addEnt]
    apply loosed_is 5 _ rfl (by decide)
    ·intro W vals hW hkn
     have hC := hW.c
     simp only [knowsK] at hkn
     try simp only [and_true] at hkn
     clear hkn; have m := MI W hC
     refine ⟨?_⟩
     simp only [fill]
     go_simp
     first | exact ⟨LH.stp (Keeps.refl _ _), rfl⟩ | exact ⟨LH.stp (Keeps.alloc _ _), rfl⟩
    simp only [addEnt]
    refine loosed_had 6 [39] (fun _ v W' => v = strV s3 ∧ Rd W' base r V3) rfl (by decide) (by kernel_rfl) (fun W vals hW hkn φ' hφ => ?_) ?_
    ·have hC := hW.c
     simp only [knowsK] at hkn
     try simp only [and_true] at hkn
     obtain ⟨W1, h0, h1, _, hrd⟩ := hkn.1 (by decide); have hr : Rd W base r V2 := (h1.a ⟨6, [], []⟩ (by simp) (.inr (.inr (.inl rfl)))).1 hrd; clear hkn
     refine ⟨?_⟩
     simp only [fill]
     go_simp
     exact loosek_writes LH hφ ((rvTxt_some hr E3.out).mono (by rintro e w9 ⟨h1, h2, h3⟩; exact ⟨_, h2, rdStp hr h1 (by simp [rdLs] <;> omega) (by simp [rdLs] <;> omega), rfl, h3⟩))
    simp only [addEnt]
    apply loosed_is 7 _ rfl (by decide)
    ·intro W vals hW hkn
     have hC := hW.c
     simp only [knowsK] at hkn
     try simp only [and_true] at hkn
     clear hkn; have m := MI W hC
     refine ⟨?_⟩
     simp only [fill]
     go_simp
     first | exact ⟨LH.stp (Keeps.refl _ _), rfl⟩ | exact ⟨LH.stp (Keeps.alloc _ _), rfl⟩
    simp only [addEnt]
    refine loosed_dies rfl (fun W vals hW hkn => ?_) ?_
    ·have hC := hW.c
     simp only [knowsK] at hkn
     try simp only [and_true] at hkn
     obtain ⟨W1, h0, h1, _, hrd⟩ := hkn.1 (by decide); have hr : Rd W base r V3 := (h1.a ⟨8, [], []⟩ (by simp) (.inr (.inr (.inl rfl)))).1 hrd
     clear hkn
     simp only [fill, Act.put, List.setIfInBounds_toArray, List.set_cons_succ, List.set_cons_zero]
     refine ⟨rfl, 41, #[.agg #[.pointer (some ⟨r, 0, none⟩)]], W, by go_simp, ?_⟩
     refine (rvTxt_none hr E4.out).mono ?_
     rintro e w9 ⟨hk9, rfl⟩
     refine ⟨_, rfl, fun a' hd' ht' => ?_⟩
     obtain ⟨t', d'⟩ := a'
     simp only at hd'
     subst hd'
     have t6 := ht' 6 (off_all (by kernel_rfl))
     have t7 := ht' 7 (off_all (by kernel_rfl))
     have t8 := ht' 8 (off_all (by kernel_rfl))
     simp only [Exit.then]
     exact rvRead_dies w9 t' B ((ST.out.goR hC hbr).goR hk9 hbr) HNO.out (by rw [Array.getD_eq_getD_getElem?, t6]; rfl) (by rw [Array.getD_eq_getD_getElem?, t7]; rfl) (by rw [Array.getD_eq_getD_getElem?, t8]; rfl)
    simp only [addEnt]
    apply loosed_is 9 _ rfl (by decide)
    ·intro W vals hW hkn
     have hC := hW.c
     simp only [knowsK] at hkn
     try simp only [and_true] at hkn
     clear hkn; have m := MI W hC
     refine ⟨?_⟩
     simp only [fill]
     go_simp
     first | exact ⟨LH.stp (Keeps.refl _ _), rfl⟩ | exact ⟨LH.stp (Keeps.alloc _ _), rfl⟩
    simp only [addEnt]
    refine loosed_skip 10 rfl (by decide) (by kernel_rfl) ?_
    simp only [addEnt]
    refine loosed_skip 11 rfl (by decide) (by kernel_rfl) ?_
    simp only [addEnt]
    refine loosed_skip 12 rfl (by decide) (by kernel_rfl) ?_
    simp only [addEnt]
    exact loosed_nil
   have E4 := Lib.hid hE4
   have lE4 : V4.length < V3.length := by
    have := (rdTx_sound hE4).2.2
    omega
   clear hE4
   rcases hE5 : rdN 1 V4 with _ | ⟨n5, V5⟩
   ·have HNO := Lib.hid (rv_none (T := T) (K := K) (V := V) (by unfold rvDec; simp only [E1.out, E2.out, E3.out, E4.out, hE5, Option.bind_some, Option.bind_none]))
    have E5 := Lib.hid hE5
    clear hE5
    have LH : LightK [⟨2, [], []⟩, ⟨4, [], []⟩, ⟨6, [], []⟩, ⟨8, [], []⟩, ⟨10, [], []⟩] (rdC r) (rdA base r V4 (rdLs V V1 V2 V3 V4)) := rdLight
    refine wp_region_writersD [⟨2, [], []⟩, ⟨4, [], []⟩, ⟨6, [], []⟩, ⟨8, [], []⟩, ⟨10, [], []⟩] (rdC r) (rdA base r V4 (rdLs V V1 V2 V3 V4)) _ 10 [43] _ rfl LH (by kernel_rfl) rfl (by kernel_rfl) ?_
    apply loosed_is 0 _ rfl (by decide)
    ·intro W vals hW hkn
     clear hkn
     have hC := hW.c
     refine ⟨?_⟩
     simp only [fill]
     go_simp
     first | exact ⟨LH.stp (Keeps.refl _ _), rfl⟩ | exact ⟨LH.stp (Keeps.alloc _ _), rfl⟩
    simp only [addEnt]
    apply loosed_is 1 _ rfl (by decide)
    ·intro W vals hW hkn
     have hC := hW.c
     simp only [knowsK] at hkn
     try simp only [and_true] at hkn
     clear hkn; have m := MI W hC
     refine ⟨?_⟩
     simp only [fill]
     go_simp
     first | exact ⟨LH.stp (Keeps.refl _ _), rfl⟩ | exact ⟨LH.stp (Keeps.alloc _ _), rfl⟩
    simp only [addEnt]
    refine loosed_had 2 [] (fun _ v W' => v = .int .i64 (wrap64 (n1 : Nat)) ∧ Rd W' base r V1) rfl (by decide) (by kernel_rfl) (fun W vals hW hkn φ' hφ => ?_) ?_
    ·have hC := hW.c
     simp only [knowsK] at hkn
     try simp only [and_true] at hkn
     have hr : Rd W base r V := (hW.a ⟨2, [], []⟩ (by simp) (.inl rfl)).1 HRD.out; clear hkn
     refine ⟨?_⟩
     simp only [fill]
     go_simp
     exact loosek_writes LH hφ ((rvNum_some hr E1.out (by omega) (by omega) rfl).mono (by rintro e w9 ⟨h1, h2, h3⟩; exact ⟨_, h2, rdStp hr h1 (by simp [rdLs] <;> omega) (by simp [rdLs] <;> omega), rfl, h3⟩))
    simp only [addEnt]
    apply loosed_is 3 _ rfl (by decide)
    ·intro W vals hW hkn
     have hC := hW.c
     simp only [knowsK] at hkn
     try simp only [and_true] at hkn
     clear hkn; have m := MI W hC
     refine ⟨?_⟩
     simp only [fill]
     go_simp
     first | exact ⟨LH.stp (Keeps.refl _ _), rfl⟩ | exact ⟨LH.stp (Keeps.alloc _ _), rfl⟩
    simp only [addEnt]
    refine loosed_had 4 [37] (fun _ v W' => v = .int .i64 (wrap64 (n2 : Nat)) ∧ Rd W' base r V2) rfl (by decide) (by kernel_rfl) (fun W vals hW hkn φ' hφ => ?_) ?_
    ·have hC := hW.c
     simp only [knowsK] at hkn
     try simp only [and_true] at hkn
     obtain ⟨W1, h0, h1, _, hrd⟩ := hkn (by decide); have hr : Rd W base r V1 := (h1.a ⟨4, [], []⟩ (by simp) (.inr (.inr (.inl rfl)))).1 hrd; clear hkn
     refine ⟨?_⟩
     simp only [fill]
     go_simp
     exact loosek_writes LH hφ ((rvNum_some hr E2.out (by omega) (by omega) rfl).mono (by rintro e w9 ⟨h1, h2, h3⟩; exact ⟨_, h2, rdStp hr h1 (by simp [rdLs] <;> omega) (by simp [rdLs] <;> omega), rfl, h3⟩))
    simp only [addEnt]
    apply loosed_is 5 _ rfl (by decide)
    ·intro W vals hW hkn
     have hC := hW.c
     simp only [knowsK] at hkn
     try simp only [and_true] at hkn
     clear hkn; have m := MI W hC
     refine ⟨?_⟩
     simp only [fill]
     go_simp
     first | exact ⟨LH.stp (Keeps.refl _ _), rfl⟩ | exact ⟨LH.stp (Keeps.alloc _ _), rfl⟩
    simp only [addEnt]
    refine loosed_had 6 [39] (fun _ v W' => v = strV s3 ∧ Rd W' base r V3) rfl (by decide) (by kernel_rfl) (fun W vals hW hkn φ' hφ => ?_) ?_
    ·have hC := hW.c
     simp only [knowsK] at hkn
     try simp only [and_true] at hkn
     obtain ⟨W1, h0, h1, _, hrd⟩ := hkn.1 (by decide); have hr : Rd W base r V2 := (h1.a ⟨6, [], []⟩ (by simp) (.inr (.inr (.inl rfl)))).1 hrd; clear hkn
     refine ⟨?_⟩
     simp only [fill]
     go_simp
     exact loosek_writes LH hφ ((rvTxt_some hr E3.out).mono (by rintro e w9 ⟨h1, h2, h3⟩; exact ⟨_, h2, rdStp hr h1 (by simp [rdLs] <;> omega) (by simp [rdLs] <;> omega), rfl, h3⟩))
    simp only [addEnt]
    apply loosed_is 7 _ rfl (by decide)
    ·intro W vals hW hkn
     have hC := hW.c
     simp only [knowsK] at hkn
     try simp only [and_true] at hkn
     clear hkn; have m := MI W hC
     refine ⟨?_⟩
     simp only [fill]
     go_simp
     first | exact ⟨LH.stp (Keeps.refl _ _), rfl⟩ | exact ⟨LH.stp (Keeps.alloc _ _), rfl⟩
    simp only [addEnt]
    refine loosed_had 8 [41] (fun _ v W' => v = strV s4 ∧ Rd W' base r V4) rfl (by decide) (by kernel_rfl) (fun W vals hW hkn φ' hφ => ?_) ?_
    ·have hC := hW.c
     simp only [knowsK] at hkn
     try simp only [and_true] at hkn
     obtain ⟨W1, h0, h1, _, hrd⟩ := hkn.1 (by decide); have hr : Rd W base r V3 := (h1.a ⟨8, [], []⟩ (by simp) (.inr (.inr (.inl rfl)))).1 hrd; clear hkn
     refine ⟨?_⟩
     simp only [fill]
     go_simp
     exact loosek_writes LH hφ ((rvTxt_some hr E4.out).mono (by rintro e w9 ⟨h1, h2, h3⟩; exact ⟨_, h2, rdStp hr h1 (by simp [rdLs] <;> omega) (by simp [rdLs] <;> omega), rfl, h3⟩))
    simp only [addEnt]
    apply loosed_is 9 _ rfl (by decide)
    ·intro W vals hW hkn
     have hC := hW.c
     simp only [knowsK] at hkn
     try simp only [and_true] at hkn
     clear hkn; have m := MI W hC
     refine ⟨?_⟩
     simp only [fill]
     go_simp
     first | exact ⟨LH.stp (Keeps.refl _ _), rfl⟩ | exact ⟨LH.stp (Keeps.alloc _ _), rfl⟩
    simp only [addEnt]
    refine loosed_dies rfl (fun W vals hW hkn => ?_) ?_
    ·have hC := hW.c
     simp only [knowsK] at hkn
     try simp only [and_true] at hkn
     obtain ⟨W1, h0, h1, _, hrd⟩ := hkn.1 (by decide); have hr : Rd W base r V4 := (h1.a ⟨10, [], []⟩ (by simp) (.inr (.inr (.inl rfl)))).1 hrd
     clear hkn
     simp only [fill, Act.put, List.setIfInBounds_toArray, List.set_cons_succ, List.set_cons_zero]
     refine ⟨rfl, 40, #[.agg #[.pointer (some ⟨r, 0, none⟩)], .int .i64 1], W, by go_simp, ?_⟩
     refine (rvNum_none (k' := 1) hr E5.out (by omega) (by omega) rfl).mono ?_
     rintro e w9 ⟨hk9, rfl⟩
     refine ⟨_, rfl, fun a' hd' ht' => ?_⟩
     obtain ⟨t', d'⟩ := a'
     simp only at hd'
     subst hd'
     have t6 := ht' 6 (off_all (by kernel_rfl))
     have t7 := ht' 7 (off_all (by kernel_rfl))
     have t8 := ht' 8 (off_all (by kernel_rfl))
     simp only [Exit.then]
     exact rvRead_dies w9 t' B ((ST.out.goR hC hbr).goR hk9 hbr) HNO.out (by rw [Array.getD_eq_getD_getElem?, t6]; rfl) (by rw [Array.getD_eq_getD_getElem?, t7]; rfl) (by rw [Array.getD_eq_getD_getElem?, t8]; rfl)
    simp only [addEnt]
    refine loosed_skip 11 rfl (by decide) (by kernel_rfl) ?_
    simp only [addEnt]
    refine loosed_skip 12 rfl (by decide) (by kernel_rfl) ?_
    simp only [addEnt]
    exact loosed_nil
   have E5 := Lib.hid hE5
   have lE5 : V5.length < V4.length := by
    have := (rdN_sound hE5).2.2
    omega
   clear hE5
   have LH : LightK [⟨2, [], []⟩, ⟨4, [], []⟩, ⟨6, [], []⟩, ⟨8, [], []⟩, ⟨10, [], []⟩] (rdC r) (rdA base r V5 (rdLs V V1 V2 V3 V4)) := rdLight
   refine wp_region_writersL [⟨2, [], []⟩, ⟨4, [], []⟩, ⟨6, [], []⟩, ⟨8, [], []⟩, ⟨10, [], []⟩] (rdC r) (rdA base r V5 (rdLs V V1 V2 V3 V4)) _ 12 LH (by kernel_rfl) rfl (by kernel_rfl) ?_
   simp only [List.take_succ_cons, List.take_zero, List.drop_succ_cons, List.drop_zero]
   apply loosek_is 0 _ rfl
   ·intro W vals hW hkn
    clear hkn
    have hC := hW.c
    refine ⟨?_⟩
    simp only [fill]
    go_simp
    first | exact ⟨LH.stp (Keeps.refl _ _), rfl⟩ | exact ⟨LH.stp (Keeps.alloc _ _), rfl⟩
   simp only [addEnt]
   apply loosek_is 1 _ rfl
   ·intro W vals hW hkn
    have hC := hW.c
    simp only [knowsK] at hkn
    try simp only [and_true] at hkn
    clear hkn; have m := MI W hC
    refine ⟨?_⟩
    simp only [fill]
    go_simp
    first | exact ⟨LH.stp (Keeps.refl _ _), rfl⟩ | exact ⟨LH.stp (Keeps.alloc _ _), rfl⟩
   simp only [addEnt]
   refine loosek_had 2 [] (fun _ v W' => v = .int .i64 (wrap64 (n1 : Nat)) ∧ Rd W' base r V1) rfl (by kernel_rfl) (fun W vals hW hkn φ' hφ => ?_) ?_
   ·have hC := hW.c
    simp only [knowsK] at hkn
    try simp only [and_true] at hkn
    have hr : Rd W base r V := (hW.a ⟨2, [], []⟩ (by simp) (.inl rfl)).1 HRD.out; clear hkn
    refine ⟨?_⟩
    simp only [fill]
    go_simp
    exact loosek_writes LH hφ ((rvNum_some hr E1.out (by omega) (by omega) rfl).mono (by rintro e w9 ⟨h1, h2, h3⟩; exact ⟨_, h2, rdStp hr h1 (by simp [rdLs] <;> omega) (by simp [rdLs] <;> omega), rfl, h3⟩))
   simp only [addEnt]
   apply loosek_is 3 _ rfl
   ·intro W vals hW hkn
    have hC := hW.c
    simp only [knowsK] at hkn
    try simp only [and_true] at hkn
    clear hkn; have m := MI W hC
    refine ⟨?_⟩
    simp only [fill]
    go_simp
    first | exact ⟨LH.stp (Keeps.refl _ _), rfl⟩ | exact ⟨LH.stp (Keeps.alloc _ _), rfl⟩
   simp only [addEnt]
   refine loosek_had 4 [37] (fun _ v W' => v = .int .i64 (wrap64 (n2 : Nat)) ∧ Rd W' base r V2) rfl (by kernel_rfl) (fun W vals hW hkn φ' hφ => ?_) ?_
   ·have hC := hW.c
    simp only [knowsK] at hkn
    try simp only [and_true] at hkn
    obtain ⟨W1, h0, h1, _, hrd⟩ := hkn (by decide); have hr : Rd W base r V1 := (h1.a ⟨4, [], []⟩ (by simp) (.inr (.inr (.inl rfl)))).1 hrd; clear hkn
    refine ⟨?_⟩
    simp only [fill]
    go_simp
    exact loosek_writes LH hφ ((rvNum_some hr E2.out (by omega) (by omega) rfl).mono (by rintro e w9 ⟨h1, h2, h3⟩; exact ⟨_, h2, rdStp hr h1 (by simp [rdLs] <;> omega) (by simp [rdLs] <;> omega), rfl, h3⟩))
   simp only [addEnt]
   apply loosek_is 5 _ rfl
   ·intro W vals hW hkn
    have hC := hW.c
    simp only [knowsK] at hkn
    try simp only [and_true] at hkn
    clear hkn; have m := MI W hC
    refine ⟨?_⟩
    simp only [fill]
    go_simp
    first | exact ⟨LH.stp (Keeps.refl _ _), rfl⟩ | exact ⟨LH.stp (Keeps.alloc _ _), rfl⟩
   simp only [addEnt]
   refine loosek_had 6 [39] (fun _ v W' => v = strV s3 ∧ Rd W' base r V3) rfl (by kernel_rfl) (fun W vals hW hkn φ' hφ => ?_) ?_
   ·have hC := hW.c
    simp only [knowsK] at hkn
    try simp only [and_true] at hkn
    obtain ⟨W1, h0, h1, _, hrd⟩ := hkn.1 (by decide); have hr : Rd W base r V2 := (h1.a ⟨6, [], []⟩ (by simp) (.inr (.inr (.inl rfl)))).1 hrd; clear hkn
    refine ⟨?_⟩
    simp only [fill]
    go_simp
    exact loosek_writes LH hφ ((rvTxt_some hr E3.out).mono (by rintro e w9 ⟨h1, h2, h3⟩; exact ⟨_, h2, rdStp hr h1 (by simp [rdLs] <;> omega) (by simp [rdLs] <;> omega), rfl, h3⟩))
   simp only [addEnt]
   apply loosek_is 7 _ rfl
   ·intro W vals hW hkn
    have hC := hW.c
    simp only [knowsK] at hkn
    try simp only [and_true] at hkn
    clear hkn; have m := MI W hC
    refine ⟨?_⟩
    simp only [fill]
    go_simp
    first | exact ⟨LH.stp (Keeps.refl _ _), rfl⟩ | exact ⟨LH.stp (Keeps.alloc _ _), rfl⟩
   simp only [addEnt]
   refine loosek_had 8 [41] (fun _ v W' => v = strV s4 ∧ Rd W' base r V4) rfl (by kernel_rfl) (fun W vals hW hkn φ' hφ => ?_) ?_
   ·have hC := hW.c
    simp only [knowsK] at hkn
    try simp only [and_true] at hkn
    obtain ⟨W1, h0, h1, _, hrd⟩ := hkn.1 (by decide); have hr : Rd W base r V3 := (h1.a ⟨8, [], []⟩ (by simp) (.inr (.inr (.inl rfl)))).1 hrd; clear hkn
    refine ⟨?_⟩
    simp only [fill]
    go_simp
    exact loosek_writes LH hφ ((rvTxt_some hr E4.out).mono (by rintro e w9 ⟨h1, h2, h3⟩; exact ⟨_, h2, rdStp hr h1 (by simp [rdLs] <;> omega) (by simp [rdLs] <;> omega), rfl, h3⟩))
   simp only [addEnt]
   apply loosek_is 9 _ rfl
   ·intro W vals hW hkn
    have hC := hW.c
    simp only [knowsK] at hkn
    try simp only [and_true] at hkn
    clear hkn; have m := MI W hC
    refine ⟨?_⟩
    simp only [fill]
    go_simp
    first | exact ⟨LH.stp (Keeps.refl _ _), rfl⟩ | exact ⟨LH.stp (Keeps.alloc _ _), rfl⟩
   simp only [addEnt]
   refine loosek_had 10 [43] (fun _ v W' => v = .int .i64 (n5 : Nat) ∧ Rd W' base r V5) rfl (by kernel_rfl) (fun W vals hW hkn φ' hφ => ?_) ?_
   ·have hC := hW.c
    simp only [knowsK] at hkn
    try simp only [and_true] at hkn
    obtain ⟨W1, h0, h1, _, hrd⟩ := hkn.1 (by decide); have hr : Rd W base r V4 := (h1.a ⟨10, [], []⟩ (by simp) (.inr (.inr (.inl rfl)))).1 hrd; clear hkn
    refine ⟨?_⟩
    simp only [fill]
    go_simp
    exact loosek_writes LH hφ ((rvNum1_some hr E5.out).mono (by rintro e w9 ⟨h1, h2, h3⟩; exact ⟨_, h2, rdStp hr h1 (by simp [rdLs] <;> omega) (by simp [rdLs] <;> omega), rfl, h3⟩))
   simp only [addEnt]
   refine loosek_has 11 (fun v _ => v = .agg #[.int .i64 kd, .string ⟨#[]⟩, .int .i64 (wrap64 (n1 : Nat)), .int .i64 (wrap64 (n2 : Nat)), .string ⟨s3.toArray⟩, .string ⟨s4.toArray⟩, .int .i64 (n5 : Nat), .bool false, .int .i64 0]) rfl (fun W vals hW hkn φ' hφ => ?_) ?_
   ·have hC := hW.c
    simp only [knowsK] at hkn
    try simp only [and_true] at hkn
    obtain ⟨q45, q43, q41, q39, q37⟩ := hkn; obtain ⟨_, _, _, v45, _⟩ := q45 (by decide); obtain ⟨_, _, _, v43, _⟩ := q43 (by decide); obtain ⟨_, _, _, v41, _⟩ := q41 (by decide); obtain ⟨_, _, _, v39, _⟩ := q39 (by decide); obtain ⟨_, _, _, v37, _⟩ := q37 (by decide); clear q45 q43 q41 q39 q37; simp only [strV] at v41 v43
    refine ⟨?_⟩
    simp only [fill]
    go_simp
    exact ⟨LH.stp (Keeps.refl _ _), hφ.out _ _ rfl⟩
   simp only [addEnt]
   refine loosek_nil (fun W9 vals hW hkn => ?_)
   simp only [knowsAllK] at hkn
   try simp only [and_true] at hkn
   simp only [fill, Act.put, List.setIfInBounds_toArray, List.set_cons_succ, List.set_cons_zero]
   obtain ⟨⟨_, _, _, v46⟩, ⟨W1, _, p1, _, hrd⟩, _⟩ := hkn
   replace HRD := Lib.hid (show Rd W9 base r V5 from (p1.a ⟨10, [], []⟩ (by simp) (.inl rfl)).2 hrd)
   clear p1 hrd
   have hC9 : Keeps W5 W9 [r] := hW
   replace ST := Lib.hid (ST.out.goR hC9 hbr)
   have nr := ownP_ne HO.out HR5.out (by decide)
   replace HO := Lib.hid (ownP_keep HO.out hC9 (fun g hg => by rw [hg] at nr; simpa using nr))
   rw [v46]
   replace RI := Lib.hid (RI.out.keep hC9 (by simp; omega))
   clear v46 nr hC9 hW LH MI
   have r9 : Row W9 B 25 #[.int .i64 0, .string ⟨#[]⟩, .int .i64 0, .int .i64 0, .string ⟨#[]⟩, .string ⟨#[]⟩, .int .i64 0, .bool false, .int .i64 0] := ST.out.r1
   have x0 := r9.cell 0
   have x1 := r9.cell 1
   have x2 := r9.cell 2
   have x3 := r9.cell 3
   have x4 := r9.cell 4
   have x5 := r9.cell 5
   have x6 := r9.cell 6
   have x7 := r9.cell 7
   have x8 := r9.cell 8
   simp only [List.getElem?_toArray, List.getElem?_cons_zero, List.getElem?_cons_succ] at x0 x1 x2 x3 x4 x5 x6 x7 x8
   have g0 := r9.frozen 0
   have g1 := r9.frozen 1
   have g2 := r9.frozen 2
   have g3 := r9.frozen 3
   have g4 := r9.frozen 4
   have g5 := r9.frozen 5
   have g6 := r9.frozen 6
   have g7 := r9.frozen 7
   have g8 := r9.frozen 8
   have nB := ownP_ne HO.out r9 (by decide)
   obtain ⟨sr, kr⟩ := ST.out.row (.int .i64 kd) (.string ⟨#[]⟩) (.int .i64 (wrap64 (n1 : Nat))) (.int .i64 (wrap64 (n2 : Nat))) (.string ⟨s3.toArray⟩) (.string ⟨s4.toArray⟩) (.int .i64 (n5 : Nat)) (.bool false) (.int .i64 0)
   obtain ⟨Wd, hWd⟩ : ∃ Wd, rwSet W9 B (.int .i64 kd) (.string ⟨#[]⟩) (.int .i64 (wrap64 (n1 : Nat))) (.int .i64 (wrap64 (n2 : Nat))) (.string ⟨s3.toArray⟩) (.string ⟨s4.toArray⟩) (.int .i64 (n5 : Nat)) (.bool false) (.int .i64 0) = Wd := ⟨_, rfl⟩
   rw [hWd] at sr kr
   unfold rwSet at hWd
   replace ST := Lib.hid sr
   replace HO := Lib.hid (ownP_keep HO.out kr (fun g hg => by rw [hg] at nB; simpa using nB))
   replace HRD := Lib.hid (HRD.out.keep kr (by simp; omega))
   replace RI := Lib.hid (RI.out.keep kr (by simp; omega))
   clear sr kr nB r9
   go_upto_region 8 with fail
   try rw [hWd]
   clear x0 x1 x2 x3 x4 x5 x6 x7 x8 g0 g1 g2 g3 g4 g5 g6 g7 g8 hWd rx HR5
   have c3 := ST.out.r3.cell 0
   have f3 := ST.out.r3.frozen 0
   simp only [List.getElem?_toArray, List.getElem?_cons_zero] at c3
   have m := RI.out.cell 0
   simp only [List.getElem?_toArray, List.getElem?_cons_zero] at m
   have HT := Lib.hid (rdTruth_is _ base r V5 HRD.out)
   rcases hE6 : rdTr V5 with _ | ⟨b6, V6⟩
   ·rw [hE6] at HT
    have HNO := Lib.hid (rv_none (T := T) (K := K) (V := V) (by unfold rvDec; simp only [E1.out, E2.out, E3.out, E4.out, E5.out, hE6, Option.bind_some, Option.bind_none]))
    clear hE6
    go_wp2_with fail
    refine HT.out.mono ?_
    rintro e w9 ⟨hk9, rfl, hrd9⟩
    replace HO := Lib.hid (own_goR HO.out HRD.out hk9)
    replace RI := Lib.hid (RI.out.keep hk9 (by simp; omega))
    replace ST := Lib.hid (ST.out.goR hk9 hbr)
    replace HRD := Lib.hid hrd9
    clear hk9 hrd9
    clear c3 f3
    have c3 := ST.out.r3.cell 0
    have f3 := ST.out.r3.frozen 0
    simp only [List.getElem?_toArray, List.getElem?_cons_zero] at c3
    obtain ⟨We, hWe⟩ : ∃ W', w9.setCell ⟨B + 1 + 1, 0, none⟩ (.int .i64 130) = W' := ⟨_, rfl⟩
    obtain ⟨se, ke⟩ := ST.out.err (.int .i64 130)
    rw [hWe] at se ke
    replace HO := Lib.hid (own_other HO.out ST.out.r3 (by decide) ke)
    replace HRD := Lib.hid (HRD.out.keep ke (by simp; omega))
    replace RI := Lib.hid (RI.out.keep ke (by simp; omega))
    replace ST := Lib.hid se
    have d3 := ST.out.r3.cell 0
    simp only [List.getElem?_toArray, List.getElem?_cons_zero] at d3
    clear se ke
    go_wp2_with (go_at_call 37; refine (rvMust_no _).mono ?_; rintro e w' ⟨rfl, rfl⟩)
    exact rvRead_dies _ _ B ST.out HNO.out rfl rfl rfl
   ·rw [hE6] at HT
    have E6 := Lib.hid hE6
    clear hE6
    go_wp2_with fail
    refine HT.out.mono ?_
    rintro e w9 ⟨hk9, rfl, hrd9⟩
    replace HO := Lib.hid (own_goR HO.out HRD.out hk9)
    replace RI := Lib.hid (RI.out.keep hk9 (by simp; omega))
    replace ST := Lib.hid (ST.out.goR hk9 hbr)
    replace HRD := Lib.hid hrd9
    clear hk9 hrd9
    clear c3 f3
    have c3 := ST.out.r3.cell 0
    have f3 := ST.out.r3.frozen 0
    simp only [List.getElem?_toArray, List.getElem?_cons_zero] at c3
    obtain ⟨We, hWe⟩ : ∃ W', w9.setCell ⟨B + 1 + 1, 0, none⟩ (.int .i64 0) = W' := ⟨_, rfl⟩
    obtain ⟨se, ke⟩ := ST.out.err (.int .i64 0)
    rw [hWe] at se ke
    replace HO := Lib.hid (own_other HO.out ST.out.r3 (by decide) ke)
    replace HRD := Lib.hid (HRD.out.keep ke (by simp; omega))
    replace RI := Lib.hid (RI.out.keep ke (by simp; omega))
    replace ST := Lib.hid se
    have d3 := ST.out.r3.cell 0
    simp only [List.getElem?_toArray, List.getElem?_cons_zero] at d3
    clear se ke
    clear m
    have m := RI.out.cell 0
    simp only [List.getElem?_toArray, List.getElem?_cons_zero] at m
    go_wp2_with (go_at_call 37; refine (rvMust_yes _).mono ?_; rintro e w' ⟨rfl, rfl⟩)
    rcases hE7 : rdN 1 V6 with _ | ⟨n7, V7⟩
    ·have HNO := Lib.hid (rv_none (T := T) (K := K) (V := V) (by unfold rvDec; simp only [E1.out, E2.out, E3.out, E4.out, E5.out, E6.out, hE7, Option.bind_some, Option.bind_none]))
     refine (rvNum_none (k' := 1) HRD.out hE7 (by omega) (by omega) rfl).mono ?_
     rintro e w9 ⟨hk9, rfl⟩
     have SX := Lib.hid (ST.out.goR hk9 hbr)
     clear hE7 hk9
     go_wp2_with fail
     exact rvRead_dies _ _ B SX.out HNO.out rfl rfl rfl
    ·refine (rvNum1_some HRD.out hE7).mono ?_
     rintro e w9 ⟨hk9, rfl, hrd9⟩
     have E7 := Lib.hid hE7
     clear hE7 hWe d3 c3 f3 m
     replace HO := Lib.hid (own_goR HO.out HRD.out hk9)
     replace RI := Lib.hid (RI.out.keep hk9 (by simp; omega))
     replace ST := Lib.hid (ST.out.goR hk9 hbr)
     replace HRD := Lib.hid hrd9
     clear hk9 hrd9
     have r9 := ST.out.r1
     have x0 := r9.cell 0
     have x1 := r9.cell 1
     have x2 := r9.cell 2
     have x3 := r9.cell 3
     have x4 := r9.cell 4
     have x5 := r9.cell 5
     have x6 := r9.cell 6
     have x7 := r9.cell 7
     have x8 := r9.cell 8
     simp only [List.getElem?_toArray, List.getElem?_cons_zero, List.getElem?_cons_succ] at x0 x1 x2 x3 x4 x5 x6 x7 x8
     have g0 := r9.frozen 0
     have g1 := r9.frozen 1
     have g2 := r9.frozen 2
     have g3 := r9.frozen 3
     have g4 := r9.frozen 4
     have g5 := r9.frozen 5
     have g6 := r9.frozen 6
     have g7 := r9.frozen 7
     have g8 := r9.frozen 8
     clear r9
     obtain ⟨Wf, hWf⟩ : ∃ Wf, w9.setCell ⟨B, 7, none⟩ (.bool b6) = Wf := ⟨_, rfl⟩
     obtain ⟨s7, k7⟩ := ST.out.cell 7 (.bool b6)
     rw [hWf] at s7 k7
     have f8 := s7.r1.frozen 8
     have y8 := s7.r1.cell 8
     simp only [List.setIfInBounds_toArray, List.set_cons_succ, List.set_cons_zero, List.getElem?_toArray, List.getElem?_cons_zero, List.getElem?_cons_succ] at y8
     obtain ⟨Wg, hWg⟩ : ∃ Wg, Wf.setCell ⟨B, 8, none⟩ (.int .i64 (n7 : Nat)) = Wg := ⟨_, rfl⟩
     obtain ⟨s8, k8⟩ := s7.cell 8 (.int .i64 (n7 : Nat))
     rw [hWg] at s8 k8
     have k78 := k7.trans k8 (fun _ h _ => h)
     replace HO := Lib.hid (own_other HO.out ST.out.r1 (by decide) k78)
     replace HRD := Lib.hid (HRD.out.keep k78 (by simp; omega))
     replace RI := Lib.hid (RI.out.keep k78 (by simp; omega))
     replace ST := Lib.hid (show RvSt w Wg B #[.int .i64 kd, .string ⟨#[]⟩, .int .i64 (wrap64 (n1 : Nat)), .int .i64 (wrap64 (n2 : Nat)), .string ⟨s3.toArray⟩, .string ⟨s4.toArray⟩, .int .i64 (n5 : Nat), .bool b6, .int .i64 (n7 : Nat)] (.int .i64 0) (.int .i64 0) from s8)
     have HALL := Lib.hid (show Nonempty (RvAll V ⟨n1, n2, s3, s4, n5, b6, n7, V7⟩) from ⟨⟨V1, V2, V3, V4, V5, V6, E1.out, E2.out, E3.out, E4.out, E5.out, E6.out, E7.out⟩⟩)
     clear s7 s8 k7 k8 k78
     go_wp2_with fail
     clear x0 x1 x2 x3 x4 x5 x6 x7 x8 g0 g1 g2 g3 g4 g5 g6 g7 g8 hWf hWg f8 y8
     obtain ⟨hp0, hp4⟩ := rvErr_len HP.out.2
     have hL := own_lies HO.out
     have HSM := Lib.hid (show s3.length + s4.length ≤ 40000 from by
      obtain ⟨hd⟩ := HALL.out
      have := hd.is.2.2.2.2
      simp only at this
      omega)
     refine (rvIndex2_any _ A cl l hL (by omega)).mono ?_
     rintro e w9 ⟨hk9, i, rfl, hi⟩
     have HI := Lib.hid hi
     replace HO := Lib.hid (ownP_keep HO.out hk9 (by simp))
     replace ST := Lib.hid (ST.out.go hk9)
     replace HRD := Lib.hid (HRD.out.keep hk9 (by simp))
     replace RI := Lib.hid (RI.out.keeps hk9)
     clear hL hk9 hi
     go_upto_if 64 with fail
     go_cut [] from 61 (fun wx => Hid (RvSt w wx B #[.int .i64 kd, .string ⟨(rcCl l).toArray⟩, .int .i64 (wrap64 (n1 : Nat)), .int .i64 (wrap64 (n2 : Nat)), .string ⟨s3.toArray⟩, .string ⟨s4.toArray⟩, .int .i64 (n5 : Nat), .bool b6, .int .i64 (n7 : Nat)] (.int .i64 0) (.int .i64 0) ∧ OwnedP wx b0 (.slice A l.length cl) l ∧ Rd wx base r V7 ∧ Row wx bi 80 #[.pointer (some ⟨r, 0, none⟩)]))
     case first =>
      rcases HI.out with ⟨j, hj, rfl, hcl⟩ | ⟨rfl, hcl⟩
      ·have hL := own_lies HO.out
       obtain ⟨b, o, hA, hb, hc⟩ := kpAt hL (Nat.le_refl _) hj
       cases hA
       obtain ⟨q, hq⟩ : ∃ q, q = l[j] := ⟨_, rfl⟩
       rw [← hq] at hc hcl
       obtain ⟨z0, z1, z2, z3⟩ := hc _ (Keeps.refl _ _)
       obtain ⟨k', n', f', cc⟩ := q
       simp only [strV] at z0 z1 z2 z3 hcl
       have HCL := Lib.hid hcl
       have r9 := ST.out.r1
       have x0 := r9.cell 0
       have x1 := r9.cell 1
       have x2 := r9.cell 2
       have x3 := r9.cell 3
       have x4 := r9.cell 4
       have x5 := r9.cell 5
       have x6 := r9.cell 6
       have x7 := r9.cell 7
       have x8 := r9.cell 8
       simp only [List.getElem?_toArray, List.getElem?_cons_zero, List.getElem?_cons_succ] at x0 x1 x2 x3 x4 x5 x6 x7 x8
       have g1 := r9.frozen 1
       have hge : decide ((j : Int) ≥ 0) = true := by simp
       obtain ⟨Wh, hWh⟩ : ∃ Wh, w9.setCell ⟨B, 1, none⟩ (.string ⟨cc.toArray⟩) = Wh := ⟨_, rfl⟩
       obtain ⟨s1, k1⟩ := ST.out.cell 1 (.string ⟨cc.toArray⟩)
       rw [hWh] at s1 k1
       replace HO := Lib.hid (own_other HO.out ST.out.r1 (by decide) k1)
       replace HRD := Lib.hid (HRD.out.keep k1 (by simp; omega))
       replace RI := Lib.hid (RI.out.keep k1 (by simp; omega))
       replace ST := Lib.hid (show RvSt w Wh B #[.int .i64 kd, .string ⟨cc.toArray⟩, .int .i64 (wrap64 (n1 : Nat)), .int .i64 (wrap64 (n2 : Nat)), .string ⟨s3.toArray⟩, .string ⟨s4.toArray⟩, .int .i64 (n5 : Nat), .bool b6, .int .i64 (n7 : Nat)] (.int .i64 0) (.int .i64 0) from s1)
       clear s1 k1 r9 hc hcl hL hq
       go_wp2_with fail
       go_meet
       case rel => exact Lib.hid ⟨by rw [HCL.out]; exact ST.out, HO.out, HRD.out, RI.out⟩
      ·have HCL := Lib.hid hcl
       clear hcl
       go_wp2_with fail
       go_meet
       case rel => exact Lib.hid ⟨by rw [HCL.out]; exact ST.out, HO.out, HRD.out, RI.out⟩
     case rest =>
      clear ST HO HRD RI HI
      obtain ⟨cc, hcc⟩ : ∃ cc, rcCl l = cc := ⟨_, rfl⟩
      rw [hcc] at hcut
      have ST := Lib.hid hcut.out.1
      have HO := Lib.hid hcut.out.2.1
      have HRD := Lib.hid hcut.out.2.2.1
      have RI := Lib.hid hcut.out.2.2.2
      have HCL := Lib.hid hcc
      clear hcut hcc
      obtain ⟨pl, hpl⟩ : ∃ pl, rcPlaced kd = pl := ⟨_, rfl⟩
      have CPl := Lib.hid (fun w => rvPlaced_any w kd HKD.out.1)
      rw [hpl] at CPl
      go_wp2_with fail
      refine (CPl.out _).mono ?_
      rintro e w8 ⟨rfl, hk8⟩
      replace HO := Lib.hid (ownP_keep HO.out hk8 (by simp))
      replace ST := Lib.hid (ST.out.go hk8)
      replace HRD := Lib.hid (HRD.out.keep hk8 (by simp))
      replace RI := Lib.hid (RI.out.keeps hk8)
      clear hk8 CPl
      go_upto_if 72 with fail
      go_cut [] from 71 (fun wx => Hid (RvSt w wx B #[.int .i64 kd, .string ⟨cc.toArray⟩, .int .i64 (wrap64 (n1 : Nat)), .int .i64 (wrap64 (n2 : Nat)), .string ⟨s3.toArray⟩, .string ⟨s4.toArray⟩, .int .i64 (n5 : Nat), .bool b6, .int .i64 (n7 : Nat)] (.int .i64 (rcAt kd l)) (.int .i64 0) ∧ Rd wx base r V7 ∧ Row wx bi 80 #[.pointer (some ⟨r, 0, none⟩)]))
      case first =>
       cases pl with
       | true =>
        have hL := own_lies HO.out
        have hj1 : l.length - 1 < l.length := by omega
        obtain ⟨b', o', hA, hb', hc'⟩ := kpAt hL (Nat.le_refl _) hj1
        cases hA
        obtain ⟨q, hq⟩ : ∃ q, q = l[l.length - 1] := ⟨_, rfl⟩
        rw [← hq] at hc'
        obtain ⟨z0, z1, z2, z3⟩ := hc' _ (Keeps.refl _ _)
        obtain ⟨k'', pn, f'', s''⟩ := q
        simp only [strV] at z0 z1 z2 z3
        have HPL := Lib.hid (show rcAt kd l = pn by rw [rcAt_yes hpl hj1, ← hq])
        have r2 := ST.out.r2.cell 0
        have g2 := ST.out.r2.frozen 0
        simp only [List.getElem?_toArray, List.getElem?_cons_zero] at r2
        obtain ⟨Wi, hWi⟩ : ∃ Wi, w8.setCell ⟨B + 1, 0, none⟩ (.int .i64 pn) = Wi := ⟨_, rfl⟩
        obtain ⟨s1, k1⟩ := ST.out.place (.int .i64 pn)
        rw [hWi] at s1 k1
        replace HRD := Lib.hid (HRD.out.keep k1 (by simp; omega))
        replace RI := Lib.hid (RI.out.keep k1 (by simp; omega))
        replace ST := Lib.hid s1
        obtain ⟨m, hm⟩ : ∃ m : Nat, l.length - 1 = m := ⟨_, rfl⟩
        have hm1 : ((l.length : Int) - 1) = (m : Int) := by omega
        rw [hm] at z0 z1 z2 z3
        have hml : m < l.length := by omega
        clear s1 k1 hc' hL hq hm hj1 hb'
        go_wp2_with fail
        go_meet
        case rel => exact Lib.hid ⟨by rw [HPL.out]; exact ST.out, HRD.out, RI.out⟩
       | false =>
        have HPL := Lib.hid (rcAt_no (l := l) hpl)
        go_wp2_with fail
        go_meet
        case rel => exact Lib.hid ⟨by rw [HPL.out]; exact ST.out, HRD.out, RI.out⟩
      case rest =>
       clear ST HO HRD RI hpl
       obtain ⟨pn, hpn⟩ : ∃ pn, rcAt kd l = pn := ⟨_, rfl⟩
       rw [hpn] at hcut
       have ST := Lib.hid hcut.out.1
       have HRD := Lib.hid hcut.out.2.1
       have RI := Lib.hid hcut.out.2.2
       have HPL := Lib.hid hpn
       clear hcut hpn
       obtain ⟨f, hf⟩ : ∃ f, rcFits ⟨kd, cc, wrap64 (n1 : Nat), wrap64 (n2 : Nat), s3, s4, (n5 : Nat), b6, (n7 : Nat)⟩ pn = f := ⟨_, rfl⟩
       obtain ⟨S, hS⟩ : ∃ S, kRaw (rcKeyL ⟨kd, cc, wrap64 (n1 : Nat), wrap64 (n2 : Nat), s3, s4, (n5 : Nat), b6, (n7 : Nat)⟩ pn) = S := ⟨_, rfl⟩
       have HKY := Lib.hid (show Calls _ _ _ _ (fun e w' => e = .returned (.tuple #[.string ⟨(rcKeyS ⟨kd, cc, wrap64 (n1 : Nat), wrap64 (n2 : Nat), s3, s4, (n5 : Nat), b6, (n7 : Nat)⟩ pn).toArray⟩, .int .i64 (rcKeyE ⟨kd, cc, wrap64 (n1 : Nat), wrap64 (n2 : Nat), s3, s4, (n5 : Nat), b6, (n7 : Nat)⟩ pn)]) ∧ Keeps _ w' []) from rcKey_any ⟨kd, cc, wrap64 (n1 : Nat), wrap64 (n2 : Nat), s3, s4, (n5 : Nat), b6, (n7 : Nat)⟩ pn _ ⟨by have := rcCl_small HP.out.1; rw [HCL.out] at this; have := H48.out; show cc.length ≤ 50000; omega, by have := HSM.out; show s3.length ≤ 50000; omega, by have := HSM.out; show s4.length ≤ 50000; omega⟩ (HM.out.keeps ST.out.k) HKB.out.1 HKB.out.2)
       have HOT := fun h => rv_other (d := ⟨n1, n2, s3, s4, n5, b6, n7, V7⟩) HKD.out.1 HKD.out.2 HP.out.1 HALL.out HCL.out HPL.out hf h
       have HFO := fun (h1 : f = true) => rv_found (K := K) (d := ⟨n1, n2, s3, s4, n5, b6, n7, V7⟩) HKD.out.2 HALL.out (hf.trans h1)
       simp only at HOT HFO
       rw [hS] at HOT HFO
       replace HOT := Lib.hid HOT
       replace HFO := Lib.hid HFO
       cases f with
       | false =>
        rw [show rcKeyS ⟨kd, cc, wrap64 (n1 : Nat), wrap64 (n2 : Nat), s3, s4, (n5 : Nat), b6, (n7 : Nat)⟩ pn = [] by unfold rcKeyS; rw [hf]; rfl, show rcKeyE ⟨kd, cc, wrap64 (n1 : Nat), wrap64 (n2 : Nat), s3, s4, (n5 : Nat), b6, (n7 : Nat)⟩ pn = 2 by unfold rcKeyE; rw [hf]; rfl] at HKY
        clear hf hS
        have rr := ST.out.r1
        have x0 := rr.cell 0
        have x1 := rr.cell 1
        have x2 := rr.cell 2
        have x3 := rr.cell 3
        have x4 := rr.cell 4
        have x5 := rr.cell 5
        have x6 := rr.cell 6
        have x7 := rr.cell 7
        have x8 := rr.cell 8
        simp only [List.getElem?_toArray, List.getElem?_cons_zero, List.getElem?_cons_succ] at x0 x1 x2 x3 x4 x5 x6 x7 x8
        have r2 := ST.out.r2.cell 0
        simp only [List.getElem?_toArray, List.getElem?_cons_zero] at r2
        clear rr
        go_wp2_with fail
        refine HKY.out.mono ?_
        rintro e w6 ⟨rfl, hk6⟩
        replace ST := Lib.hid (ST.out.go hk6)
        replace HRD := Lib.hid (HRD.out.keep hk6 (by simp))
        replace RI := Lib.hid (RI.out.keeps hk6)
        clear hk6
        clear x0 x1 x2 x3 x4 x5 x6 x7 x8 r2
        have c3 := ST.out.r3.cell 0
        have f3 := ST.out.r3.frozen 0
        simp only [List.getElem?_toArray, List.getElem?_cons_zero] at c3
        obtain ⟨Wk, hWk⟩ : ∃ W', w6.setCell ⟨B + 1 + 1, 0, none⟩ (.int .i64 2) = W' := ⟨_, rfl⟩
        obtain ⟨se, ke⟩ := ST.out.err (.int .i64 2)
        rw [hWk] at se ke
        replace HRD := Lib.hid (HRD.out.keep ke (by simp; omega))
        replace RI := Lib.hid (RI.out.keep ke (by simp; omega))
        replace ST := Lib.hid se
        have d3 := ST.out.r3.cell 0
        have mi := RI.out.cell 0
        simp only [List.getElem?_toArray, List.getElem?_cons_zero] at d3 mi
        clear se ke
        go_wp2_with fail
        clear c3 f3 hWk
        refine (rdLeft_any _ base r V7 HRD.out).mono ?_
        rintro e w' ⟨rfl, rfl⟩
        obtain ⟨z, hz⟩ : ∃ z, ((V7.length : Int) == 0) = z := ⟨_, rfl⟩
        cases z
        all_goals
         go_wp2_with (go_at_call 37; refine (rvMust_no _).mono ?_; rintro e w' ⟨rfl, rfl⟩)
         exact rvRead_dies _ _ B ST.out (HOT.out (.inr (.inl (by first | rfl | trivial)))) rfl rfl rfl
       | true =>
        rw [show rcKeyS ⟨kd, cc, wrap64 (n1 : Nat), wrap64 (n2 : Nat), s3, s4, (n5 : Nat), b6, (n7 : Nat)⟩ pn = S by unfold rcKeyS; rw [if_pos hf]; exact hS, show rcKeyE ⟨kd, cc, wrap64 (n1 : Nat), wrap64 (n2 : Nat), s3, s4, (n5 : Nat), b6, (n7 : Nat)⟩ pn = 0 by unfold rcKeyE; rw [if_pos hf]] at HKY
        clear hf hS
        have rr := ST.out.r1
        have x0 := rr.cell 0
        have x1 := rr.cell 1
        have x2 := rr.cell 2
        have x3 := rr.cell 3
        have x4 := rr.cell 4
        have x5 := rr.cell 5
        have x6 := rr.cell 6
        have x7 := rr.cell 7
        have x8 := rr.cell 8
        simp only [List.getElem?_toArray, List.getElem?_cons_zero, List.getElem?_cons_succ] at x0 x1 x2 x3 x4 x5 x6 x7 x8
        have r2 := ST.out.r2.cell 0
        simp only [List.getElem?_toArray, List.getElem?_cons_zero] at r2
        clear rr
        go_wp2_with fail
        refine HKY.out.mono ?_
        rintro e w6 ⟨rfl, hk6⟩
        replace ST := Lib.hid (ST.out.go hk6)
        replace HRD := Lib.hid (HRD.out.keep hk6 (by simp))
        replace RI := Lib.hid (RI.out.keeps hk6)
        clear hk6
        clear x0 x1 x2 x3 x4 x5 x6 x7 x8 r2
        have c3 := ST.out.r3.cell 0
        have f3 := ST.out.r3.frozen 0
        simp only [List.getElem?_toArray, List.getElem?_cons_zero] at c3
        obtain ⟨Wk, hWk⟩ : ∃ W', w6.setCell ⟨B + 1 + 1, 0, none⟩ (.int .i64 0) = W' := ⟨_, rfl⟩
        obtain ⟨se, ke⟩ := ST.out.err (.int .i64 0)
        rw [hWk] at se ke
        replace HRD := Lib.hid (HRD.out.keep ke (by simp; omega))
        replace RI := Lib.hid (RI.out.keep ke (by simp; omega))
        replace ST := Lib.hid se
        have d3 := ST.out.r3.cell 0
        have mi := RI.out.cell 0
        simp only [List.getElem?_toArray, List.getElem?_cons_zero] at d3 mi
        clear se ke
        go_wp2_with fail
        clear c3 f3 hWk
        refine (rdLeft_any _ base r V7 HRD.out).mono ?_
        rintro e w' ⟨rfl, rfl⟩
        obtain ⟨z, hz⟩ : ∃ z, ((V7.length : Int) == 0) = z := ⟨_, rfl⟩
        cases z with
        | false =>
         go_wp2_with (go_at_call 37; refine (rvMust_no _).mono ?_; rintro e w' ⟨rfl, rfl⟩)
         exact rvRead_dies _ _ B ST.out (HOT.out (.inl (fun e => by rw [e] at hz; cases hz))) rfl rfl rfl
        | true =>
         have hv7 : V7 = [] := by
          have : (V7.length : Int) = 0 := by simpa using hz
          exact List.length_eq_zero_iff.1 (by omega)
         obtain ⟨q, hq⟩ : ∃ q, (S == K) = q := ⟨_, rfl⟩
         cases q with
         | false =>
          have HQ := Lib.hid hq
          clear hv7
          go_wp2_with (go_at_call 37; refine (rvMust_no _).mono ?_; rintro e w' ⟨rfl, rfl⟩)
          exact rvRead_dies _ _ B ST.out (HOT.out (.inr (.inr (fun e => by have := HQ.out; rw [e] at this; simp at this)))) rfl rfl rfl
         | true =>
          have HQ := Lib.hid (show S = K by simpa using hq)
          have HV7 := Lib.hid hv7
          clear hv7
          go_wp2_with (go_at_call 37; refine (rvMust_yes _).mono ?_; rintro e w' ⟨rfl, rfl⟩)
          go_upto_region 18 with fail
          clear d3 mi hq hz
          obtain ⟨Wl, hWl⟩ : ∃ x, x = Wk := ⟨_, rfl⟩
          rw [← hWl] at ST HRD RI ⊢
          clear hWl
          have LE : LightK [⟨2, [0], []⟩] (rdC B) (oneA 2 KeepsAll) := LightK.one ⟨fun h => Keeps.weaken h (by simp), fun h k => Keeps.trans (T := [B]) h k (fun _ hx _ => hx)⟩ keepsAll_ok
          have M0 := fun (W' : World) (hW : Keeps Wl W' []) => (ST.out.r1.keeps hW).cell 0
          have M1 := fun (W' : World) (hW : Keeps Wl W' []) => (ST.out.r1.keeps hW).cell 1
          have M2 := fun (W' : World) (hW : Keeps Wl W' []) => (ST.out.r1.keeps hW).cell 2
          have M3 := fun (W' : World) (hW : Keeps Wl W' []) => (ST.out.r1.keeps hW).cell 3
          have M4 := fun (W' : World) (hW : Keeps Wl W' []) => (ST.out.r1.keeps hW).cell 4
          have M5 := fun (W' : World) (hW : Keeps Wl W' []) => (ST.out.r1.keeps hW).cell 5
          have M6 := fun (W' : World) (hW : Keeps Wl W' []) => (ST.out.r1.keeps hW).cell 6
          have M7 := fun (W' : World) (hW : Keeps Wl W' []) => (ST.out.r1.keeps hW).cell 7
          have M8 := fun (W' : World) (hW : Keeps Wl W' []) => (ST.out.r1.keeps hW).cell 8
          have MP := fun (W' : World) (hW : Keeps Wl W' [B]) => (ST.out.r2.keep hW (by simp)).cell 0
          simp only [List.getElem?_toArray, List.getElem?_cons_zero, List.getElem?_cons_succ] at M0 M1 M2 M3 M4 M5 M6 M7 M8 MP
          refine wp_region_writersL [⟨2, [0], []⟩] (rdC B) (oneA 2 KeepsAll) _ 3 LE (by kernel_rfl) rfl (by kernel_rfl) ?_
          simp only [List.take_succ_cons, List.take_zero, List.drop_succ_cons, List.drop_zero]
          apply loosek_is 0 _ rfl
          ·intro W vals hW hkn
           have hC := hW.c
           simp only [knowsK] at hkn
           try simp only [and_true] at hkn
           clear hkn; have q := PreK.one hW (.inr (by simp)); have m0 := M0 W q; have m1 := M1 W q; have m2 := M2 W q; have m3 := M3 W q; have m4 := M4 W q; have m5 := M5 W q; have m6 := M6 W q; have m7 := M7 W q; have m8 := M8 W q
           refine ⟨?_⟩
           simp only [fill]
           go_simp
           first | exact ⟨LE.stp (Keeps.refl _ _), rfl⟩ | exact ⟨LE.stp (Keeps.alloc _ _), rfl⟩
          simp only [addEnt]
          apply loosek_is 1 _ rfl
          ·intro W vals hW hkn
           have hC := hW.c
           simp only [knowsK] at hkn
           try simp only [and_true] at hkn
           clear hkn; have m := MP W hC
           refine ⟨?_⟩
           simp only [fill]
           go_simp
           first | exact ⟨LE.stp (Keeps.refl _ _), rfl⟩ | exact ⟨LE.stp (Keeps.alloc _ _), rfl⟩
          simp only [addEnt]
          refine loosek_has 2 (fun _ W' => Row W' B 25 #[.int .i64 kd, .string ⟨cc.toArray⟩, .int .i64 (wrap64 (n1 : Nat)), .int .i64 (wrap64 (n2 : Nat)), .string ⟨s3.toArray⟩, .string ⟨s4.toArray⟩, .int .i64 (n5 : Nat), .bool b6, .int .i64 (n7 : Nat)]) rfl (fun W vals hW hkn φ' hφ => ?_) ?_
          ·have hC := hW.c
           simp only [knowsK] at hkn
           try simp only [and_true] at hkn
           clear hkn; have q := PreK.one hW (.inl rfl); have rr := ST.out.r1.keeps q; have g0 := rr.frozen 0; have g1 := rr.frozen 1; have g2 := rr.frozen 2; have g3 := rr.frozen 3; have g4 := rr.frozen 4; have g5 := rr.frozen 5; have g6 := rr.frozen 6; have g7 := rr.frozen 7; have g8 := rr.frozen 8; have m0 := M0 W q; have m1 := M1 W q; have m2 := M2 W q; have m3 := M3 W q; have m4 := M4 W q; have m5 := M5 W q; have m6 := M6 W q; have m7 := M7 W q; have m8 := M8 W q
           refine ⟨?_⟩
           simp only [fill]
           go_simp
           exact ⟨StpK.one (rwFill9 rr _ _ _ _ _ _ _ _ _).2 (fun h => absurd rfl h), hφ.out _ _ (rwFill9 rr _ _ _ _ _ _ _ _ _).1⟩
          simp only [addEnt]
          refine loosek_nil (fun W9 vals hW hkn => ?_)
          simp only [knowsAllK] at hkn
          try simp only [and_true] at hkn
          simp only [fill, Act.put, List.setIfInBounds_toArray, List.set_cons_succ, List.set_cons_zero]
          obtain ⟨_, W1, _, p1, hrow⟩ := hkn
          have r9 := hrow.keeps (PostK.one p1 (.inl rfl))
          have hC9 : Keeps Wl W9 [B] := hW
          have s9 : RvSt w W9 B #[.int .i64 kd, .string ⟨cc.toArray⟩, .int .i64 (wrap64 (n1 : Nat)), .int .i64 (wrap64 (n2 : Nat)), .string ⟨s3.toArray⟩, .string ⟨s4.toArray⟩, .int .i64 (n5 : Nat), .bool b6, .int .i64 (n7 : Nat)] (.int .i64 pn) (.int .i64 0) := ⟨ST.out.k.trans hC9 (fun x hx hlt => by have := ST.out.hB; simp at hx; omega), r9, ST.out.r2.keep hC9 (by simp), ST.out.r3.keep hC9 (by simp; omega), ST.out.hB, rfl⟩
          clear p1 hrow r9 hC9 hW M0 M1 M2 M3 M4 M5 M6 M7 M8 MP LE
          have r2 := s9.r2.cell 0
          have g2 := s9.r2.frozen 0
          simp only [List.getElem?_toArray, List.getElem?_cons_zero] at r2
          obtain ⟨Wm, hWm⟩ : ∃ W', W9.setCell ⟨B + 1, 0, none⟩ (.int .i64 pn) = W' := ⟨_, rfl⟩
          obtain ⟨sp, _⟩ := s9.place (.int .i64 pn)
          rw [hWm] at sp
          have r3 := sp.r3.cell 0
          have g3 := sp.r3.frozen 0
          simp only [List.getElem?_toArray, List.getElem?_cons_zero] at r3
          obtain ⟨Wn, hWn⟩ : ∃ W', Wm.setCell ⟨B + 1 + 1, 0, none⟩ (.int .i64 0) = W' := ⟨_, rfl⟩
          obtain ⟨sq, _⟩ := sp.err (.int .i64 0)
          rw [hWn] at sq
          replace ST := Lib.hid sq
          have HIS := Lib.hid (HFO.out (by first | rfl | trivial) HV7.out HQ.out)
          clear s9 sp sq
          go_wp2_with fail
          exact rvRead_ends (x := ⟨kd, cc, wrap64 (n1 : Nat), wrap64 (n2 : Nat), s3, s4, (n5 : Nat), b6, (n7 : Nat)⟩) _ _ B ST.out HIS.out rfl rfl rfl
  ·have HBAD := Lib.hid hbad
   clear hbad
   have se := (ST.out.err (.int .i64 280)).1
   have d3 := se.r3.cell 0
   simp only [List.getElem?_toArray, List.getElem?_cons_zero] at d3
   have STE := Lib.hid se
   clear se
   go_wp2_with (go_at_call 37; refine (rvMust_no _).mono ?_; rintro e w' ⟨rfl, rfl⟩)
   refine rvRead_dies _ _ B STE.out (fun x q h => HBAD.out ?_) rfl rfl rfl
   have hk := rc_key h.fits
   have e := h.key
   exact ⟨by rw [← e]; exact hk.len, _, by rw [← e]; exact rc_par h.fits, hk.err⟩
end Go.Proofs.YtfglgeoookbppaaGreatDoor
