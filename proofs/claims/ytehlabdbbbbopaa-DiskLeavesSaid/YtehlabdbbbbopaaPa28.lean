/- Layer 2: the statements' own 'known'. The statement DiskNil (layer 2): its walk. -/
import Derived.Test.YtehlabdbbbbopaaPa27
import Derived.Test.YtehlabdbbbbopaaPa25

namespace Go.Proofs.Ytehlabdbbbbopaa
open Go.RowKit Go.Maps Go.Shelf

theorem lies_row {w : World} {b : Nat} {t : TypeId} {cs : Array Value} (h : Row w b t cs) {l : List Value} (hl : cs.toList = l) : Lies w w.heap.size (some ⟨b, 0, none⟩) l := fun _ => by
  refine ⟨b, 0, rfl, h.lt, fun i u hu => ?_⟩
  subst hl
  rw [Nat.zero_add, h.cell, ← hu, Array.getElem?_toList]
theorem lies_page {w : World} {b : Nat} {t : TypeId} {l : List UInt8} (h : Row w b t (leafC l)) : Lies w w.heap.size (some ⟨b, 0, none⟩) (l.map byteV) := lies_row h (leafC_list l)
section
variable {w0 w : World} {d : Nat} {D : Dk}
theorem dkWrite_now (h : DkIn w0 w d D) (page : Int) {b c : Nat} {t : TypeId} {l : List UInt8} (hr : Row w b t (leafC l)) {n : Nat} (hn : l.length = n) (hl : D.waits.length ≤ 1000000) {k : Nat} {r : Int} {D' : Dk} (e : D.write page l = (k, D')) (hr0 : (k : Int) = r) :
    Calls Try.prog 13 #[.pointer (some ⟨d, 0, none⟩), .int .i64 page, .slice (some ⟨b, 0, none⟩) n c] w fun e w' => e = .returned (.int .i64 r) ∧ DkIn w0 w' d D' ∧ Apart w w' d := by
  refine (dkWrite_dk h page _ n c l hn (lies_page hr) hl).mono ?_
  rintro e' w' ⟨rfl, h1, h2⟩
  rw [e] at h1 ⊢
  exact ⟨by rw [hr0], h1, h2⟩
theorem dkFlush_now (h : DkIn w0 w d D) {k : Nat} {r : Int} {D' : Dk} (e : D.flush = (k, D')) (hr0 : (k : Int) = r) :
    Calls Try.prog 12 #[.pointer (some ⟨d, 0, none⟩)] w fun e w' => e = .returned (.int .i64 r) ∧ DkIn w0 w' d D' ∧ Apart w w' d := by
  refine (dkFlush_dk h).mono ?_
  rintro e' w' ⟨rfl, h1, h2⟩
  rw [e] at h1 ⊢
  exact ⟨by rw [hr0], h1, h2⟩
theorem dkArm_now (h : DkIn w0 w d D) (kind steps : Int) (hs : -9223372036854775808 ≤ steps ∧ steps ≤ 9223372036854775807) {k : Nat} {r : Int} {D' : Dk} (e : D.arm kind steps = (k, D')) (hr0 : (k : Int) = r) :
    Calls Try.prog 11 #[.pointer (some ⟨d, 0, none⟩), .int .i64 kind, .int .i64 steps] w fun e w' => e = .returned (.int .i64 r) ∧ DkIn w0 w' d D' ∧ Apart w w' d := by
  refine (dkArm_dk h kind steps hs).mono ?_
  rintro e' w' ⟨rfl, h1, h2⟩
  rw [e] at h1 ⊢
  exact ⟨by rw [hr0], h1, h2⟩
end
theorem dkNew_good (w : World) (pages : Int) (h : 2 ≤ pages ∧ pages ≤ 4096) : Calls Try.prog 10 #[.int .i64 pages] w fun e w' => ∃ d, e = .returned (.tuple #[.pointer (some ⟨d, 0, none⟩), .int .i64 0]) ∧ DkIn w w' d (Dk.fresh pages.toNat) :=
  (dkNew_dk w pages).mono fun e w' hp => by rwa [if_pos h] at hp
theorem dkNew_bad (w : World) (pages : Int) (h : ¬ (2 ≤ pages ∧ pages ≤ 4096)) : Calls Try.prog 10 #[.int .i64 pages] w fun e w' => e = .returned (.tuple #[.pointer none, .int .i64 2]) ∧ Keeps w w' [] :=
  (dkNew_dk w pages).mono fun e w' hp => by rwa [if_neg h] at hp
set_option maxRecDepth 100000 in
set_option maxHeartbeats 4000000 in
theorem known2_any (w : World) : Calls Try.prog 9 #[] w fun e w' => e = .returned (.bool true) ∧ Keeps w w' [] := by
  go_enter Try.func9, Try.ntmps9
  go_wp2_with fail
  refine (dkNew_good w 2 (by omega)).mono ?_
  rintro e w1 ⟨d, rfl, hN⟩
  have H := Lib.hid (show DkIn w w1 d (Dk.fresh 2) from hN)
  clear hN
  go_wp2_with fail
  refine (all_any _ 97).mono ?_
  rintro e w' ⟨b, rfl, hb, hr, hk⟩
  have H := Lib.hid (And.intro (H.out.keeps hk) hr)
  clear hb hr hk
  go_wp2_with fail
  refine (dkWrite_now H.out.1 0 H.out.2 (by simp) (by simp [Dk.fresh]) two_1 rfl).mono ?_
  rintro e w' ⟨rfl, h, -⟩
  have H := Lib.hid h
  clear h
  go_wp2_with fail
  refine (all_any _ 98).mono ?_
  rintro e w' ⟨b, rfl, hb, hr, hk⟩
  have H := Lib.hid (And.intro (H.out.keeps hk) hr)
  clear hb hr hk
  go_wp2_with fail
  refine (dkWrite_now H.out.1 0 H.out.2 (by simp) (by simp [two1]) two_2 rfl).mono ?_
  rintro e w' ⟨rfl, h, -⟩
  have H := Lib.hid h
  clear h
  go_wp2_with fail
  have HL := Lib.hid (lies_row (Row.new w' 3 #[.int .i64 1, .int .i64 2, .int .i64 0]) rfl)
  refine (dkCrash_dk (H.out.keeps (Keeps.alloc _ _)) (by simp [two2]) _ 3 [1, 2, 0] HL.out (by simp)).mono ?_
  rintro e w3 ⟨c, rfl, hC⟩
  rw [two_3] at hC
  have H := Lib.hid (hC.base (H.out.h.trans (Keeps.alloc _ _) (by simp)))
  clear hC HL
  go_wp2_with fail
  refine (dkRead_dk H.out 0).mono ?_
  rintro e w4 ⟨hk, hv⟩
  rw [if_pos (show (0 : Int) ≤ 0 ∧ 0 < ((two3.pages : Nat) : Int) from ⟨by omega, by show (0 : Int) < 2; omega⟩)] at hv
  obtain ⟨v, rfl, hO⟩ := hv
  rw [two_page] at hO
  obtain ⟨A7, c7, rfl, -, -, -, -⟩ := hO.parts
  have e256 : (List.replicate 64 97 ++ List.replicate 64 98 ++ List.replicate 128 0 : List UInt8).length = 256 := by simp
  rw [e256] at hO ⊢
  have H := Lib.hid (And.intro (H.out.keeps hk) hO)
  clear hk hO
  go_wp2_with fail
  refine (dkArm_now H.out.1 2 0 (by omega) two_4 rfl).mono ?_
  rintro e w5 ⟨rfl, h, ha⟩
  obtain ⟨cs, hcs⟩ := H.out.1.row
  have H := Lib.hid (And.intro h (own_rows H.out.2 (RowsBut.of_apart ha) hcs (by decide)))
  clear h ha hcs
  go_wp2_with fail
  refine (dkFlush_now H.out.1 two_5 rfl).mono ?_
  rintro e w6 ⟨rfl, h, ha⟩
  obtain ⟨cs2, hcs2⟩ := H.out.1.row
  have H := Lib.hid (And.intro h (own_rows H.out.2 (RowsBut.of_apart ha) hcs2 (by decide)))
  clear h ha hcs2
  go_wp2_with fail
  obtain ⟨SA, hSA⟩ : ∃ S : ByteArray, S = ⟨(List.replicate 64 (97 : UInt8)).toArray⟩ := ⟨_, rfl⟩
  obtain ⟨SB, hSB⟩ : ∃ S : ByteArray, S = ⟨(List.replicate 64 (98 : UInt8)).toArray⟩ := ⟨_, rfl⟩
  obtain ⟨SZ, hSZ⟩ : ∃ S : ByteArray, S = ⟨(List.replicate 128 (0 : UInt8)).toArray⟩ := ⟨_, rfl⟩
  obtain ⟨S7, hS7⟩ : ∃ S : ByteArray, S = ⟨(List.replicate 64 97 ++ List.replicate 64 98 ++ List.replicate 128 0 : List UInt8).toArray⟩ := ⟨_, rfl⟩
  have HSE := Lib.hid (show S7 = SA ++ SB ++ SZ by subst hSA hSB hSZ hS7; kernel_rfl)
  have HC7 := Lib.hid (show ∀ W : World, Keeps w6 W [] → (convert 32 9 (.slice A7 256 c7)).run Try.prog W = .ok (.string S7) W from fun W hk => by
    have hl := (Lies.of_own H.out.2).keep hk (Nat.le_refl _) (by simp)
    have := conv_str W _ A7 c7 _ hl
    rw [e256] at this
    rw [this, hS7])
  have HCA := Lib.hid (show ∀ (W : World) (b : Nat), Row W b 5 (leafC (List.replicate 256 97)) → (convert 32 9 (.slice (some ⟨b, 0, none⟩) 64 256)).run Try.prog W = .ok (.string SA) W from fun W b hr => by
    have := conv_str W _ (some ⟨b, 0, none⟩) 256 (List.replicate 64 97) (by have := (lies_page hr).take 64; rw [← List.map_take, List.take_replicate] at this; exact this)
    rw [List.length_replicate] at this
    rw [this, hSA])
  have HCB := Lib.hid (show ∀ (W : World) (b : Nat), Row W b 5 (leafC (List.replicate 256 98)) → (convert 32 9 (.slice (some ⟨b, 0, none⟩) 64 256)).run Try.prog W = .ok (.string SB) W from fun W b hr => by
    have := conv_str W _ (some ⟨b, 0, none⟩) 256 (List.replicate 64 98) (by have := (lies_page hr).take 64; rw [← List.map_take, List.take_replicate] at this; exact this)
    rw [List.length_replicate] at this
    rw [this, hSB])
  have HCZ := Lib.hid (show ∀ (W : World) (b : Nat), Row W b 5 (leafC (List.replicate 128 0)) → (convert 32 9 (.slice (some ⟨b, 0, none⟩) 128 128)).run Try.prog W = .ok (.string SZ) W from fun W b hr => by
    have := conv_str W _ (some ⟨b, 0, none⟩) 128 (List.replicate 128 0) (lies_page hr)
    rw [List.length_replicate] at this
    rw [this, hSZ])
  have HMK := Lib.hid (show ∀ w : World, (Instr.makeSlice 32 (.int .i64 128) (.int .i64 128)).run Try.prog w = .ok (.slice (some ⟨w.heap.size, 0, none⟩) 128 128) (w.alloc (.cells (leafC (List.replicate 128 0)) 5)) from fun w => mk_bytes w 128 (by omega))
  have hz1 : SA.size = 64 := by rw [hSA]; exact List.length_replicate ..
  have hz2 : SB.size = 64 := by rw [hSB]; exact List.length_replicate ..
  have hz3 : SZ.size = 128 := by rw [hSZ]; exact List.length_replicate ..
  have hz4 : (SA ++ SB).size = 128 := by rw [ByteArray.size_append, hz1, hz2]
  clear hSA hSB hSZ hS7
  have HLK := Lib.hid (show LightK [⟨43, [20, 21, 22, 23, 24, 25, 26, 28, 29], []⟩] (KeepsOld w) (oneA 43 KeepsAll) from .one (KeepsOld.ok w) keepsAll_ok)
  refine wp_region_writersL [⟨43, [20, 21, 22, 23, 24, 25, 26, 28, 29], []⟩] (KeepsOld w) (oneA 43 KeepsAll) _ 47 HLK.out (by kernel_rfl) rfl (by kernel_rfl) ?_
  simp only [List.take_succ_cons, List.take_zero, List.drop_succ_cons, List.drop_zero]
  apply loosek_is 0 _ rfl
  · intro W vals hW hkn
    clear hkn
    have hC := hW.c
    refine ⟨?_⟩
    simp only [fill]
    go_simp
    first | exact ⟨HLK.out.stp (Keeps.refl _ _), rfl⟩ | exact ⟨HLK.out.stp (Keeps.alloc _ _), rfl⟩
  simp only [addEnt]
  apply loosek_is 1 _ rfl
  · intro W vals hW hkn
    clear hkn
    have hC := hW.c
    refine ⟨?_⟩
    simp only [fill]
    go_simp
    first | exact ⟨HLK.out.stp (Keeps.refl _ _), rfl⟩ | exact ⟨HLK.out.stp (Keeps.alloc _ _), rfl⟩
  simp only [addEnt]
  apply loosek_is 2 _ rfl
  · intro W vals hW hkn
    clear hkn
    have hC := hW.c
    refine ⟨?_⟩
    simp only [fill]
    go_simp
    first | exact ⟨HLK.out.stp (Keeps.refl _ _), rfl⟩ | exact ⟨HLK.out.stp (Keeps.alloc _ _), rfl⟩
  simp only [addEnt]
  apply loosek_is 3 _ rfl
  · intro W vals hW hkn
    clear hkn
    have hC := hW.c
    refine ⟨?_⟩
    simp only [fill]
    go_simp
    first | exact ⟨HLK.out.stp (Keeps.refl _ _), rfl⟩ | exact ⟨HLK.out.stp (Keeps.alloc _ _), rfl⟩
  simp only [addEnt]
  apply loosek_is 4 _ rfl
  · intro W vals hW hkn
    clear hkn
    have hC := hW.c
    refine ⟨?_⟩
    simp only [fill]
    go_simp
    first | exact ⟨HLK.out.stp (Keeps.refl _ _), rfl⟩ | exact ⟨HLK.out.stp (Keeps.alloc _ _), rfl⟩
  simp only [addEnt]
  apply loosek_is 5 _ rfl
  · intro W vals hW hkn
    clear hkn
    have hC := hW.c
    refine ⟨?_⟩
    simp only [fill]
    go_simp
    first | exact ⟨HLK.out.stp (Keeps.refl _ _), rfl⟩ | exact ⟨HLK.out.stp (Keeps.alloc _ _), rfl⟩
  simp only [addEnt]
  apply loosek_is 6 _ rfl
  · intro W vals hW hkn
    clear hkn
    have hC := hW.c
    refine ⟨?_⟩
    simp only [fill]
    go_simp
    first | exact ⟨HLK.out.stp (Keeps.refl _ _), rfl⟩ | exact ⟨HLK.out.stp (Keeps.alloc _ _), rfl⟩
  simp only [addEnt]
  apply loosek_is 7 _ rfl
  · intro W vals hW hkn
    clear hkn
    have hC := hW.c
    refine ⟨?_⟩
    simp only [fill]
    go_simp
    first | exact ⟨HLK.out.stp (Keeps.refl _ _), rfl⟩ | exact ⟨HLK.out.stp (Keeps.alloc _ _), rfl⟩
  simp only [addEnt]
  apply loosek_is 8 _ rfl
  · intro W vals hW hkn
    clear hkn
    have hC := hW.c
    refine ⟨?_⟩
    simp only [fill]
    go_simp
    first | exact ⟨HLK.out.stp (Keeps.refl _ _), rfl⟩ | exact ⟨HLK.out.stp (Keeps.alloc _ _), rfl⟩
  simp only [addEnt]
  apply loosek_is 9 _ rfl
  · intro W vals hW hkn
    clear hkn
    have hC := hW.c
    refine ⟨?_⟩
    simp only [fill]
    go_simp
    first | exact ⟨HLK.out.stp (Keeps.refl _ _), rfl⟩ | exact ⟨HLK.out.stp (Keeps.alloc _ _), rfl⟩
  simp only [addEnt]
  apply loosek_is 10 _ rfl
  · intro W vals hW hkn
    clear hkn
    have hC := hW.c
    refine ⟨?_⟩
    simp only [fill]
    go_simp
    first | exact ⟨HLK.out.stp (Keeps.refl _ _), rfl⟩ | exact ⟨HLK.out.stp (Keeps.alloc _ _), rfl⟩
  simp only [addEnt]
  apply loosek_is 11 _ rfl
  · intro W vals hW hkn
    clear hkn
    have hC := hW.c
    refine ⟨?_⟩
    simp only [fill]
    go_simp
    first | exact ⟨HLK.out.stp (Keeps.refl _ _), rfl⟩ | exact ⟨HLK.out.stp (Keeps.alloc _ _), rfl⟩
  simp only [addEnt]
  apply loosek_is 12 _ rfl
  · intro W vals hW hkn
    clear hkn
    have hC := hW.c
    refine ⟨?_⟩
    simp only [fill]
    go_simp
    first | exact ⟨HLK.out.stp (Keeps.refl _ _), rfl⟩ | exact ⟨HLK.out.stp (Keeps.alloc _ _), rfl⟩
  simp only [addEnt]
  apply loosek_is 13 _ rfl
  · intro W vals hW hkn
    clear hkn
    have hC := hW.c
    refine ⟨?_⟩
    simp only [fill]
    go_simp
    first | exact ⟨HLK.out.stp (Keeps.refl _ _), rfl⟩ | exact ⟨HLK.out.stp (Keeps.alloc _ _), rfl⟩
  simp only [addEnt]
  apply loosek_is 14 _ rfl
  · intro W vals hW hkn
    clear hkn
    have hC := hW.c
    refine ⟨?_⟩
    simp only [fill]
    go_simp
    first | exact ⟨HLK.out.stp (Keeps.refl _ _), rfl⟩ | exact ⟨HLK.out.stp (Keeps.alloc _ _), rfl⟩
  simp only [addEnt]
  apply loosek_is 15 _ rfl
  · intro W vals hW hkn
    clear hkn
    have hC := hW.c
    refine ⟨?_⟩
    simp only [fill]
    go_simp
    first | exact ⟨HLK.out.stp (Keeps.refl _ _), rfl⟩ | exact ⟨HLK.out.stp (Keeps.alloc _ _), rfl⟩
  simp only [addEnt]
  apply loosek_is 16 _ rfl
  · intro W vals hW hkn
    clear hkn
    have hC := hW.c
    refine ⟨?_⟩
    simp only [fill]
    go_simp
    first | exact ⟨HLK.out.stp (Keeps.refl _ _), rfl⟩ | exact ⟨HLK.out.stp (Keeps.alloc _ _), rfl⟩
  simp only [addEnt]
  apply loosek_is 17 _ rfl
  · intro W vals hW hkn
    clear hkn
    have hC := hW.c
    refine ⟨?_⟩
    simp only [fill]
    go_simp
    first | exact ⟨HLK.out.stp (Keeps.refl _ _), rfl⟩ | exact ⟨HLK.out.stp (Keeps.alloc _ _), rfl⟩
  simp only [addEnt]
  apply loosek_is 18 _ rfl
  · intro W vals hW hkn
    clear hkn
    have hC := hW.c
    refine ⟨?_⟩
    simp only [fill]
    go_simp
    first | exact ⟨HLK.out.stp (Keeps.refl _ _), rfl⟩ | exact ⟨HLK.out.stp (Keeps.alloc _ _), rfl⟩
  simp only [addEnt]
  apply loosek_is 19 _ rfl
  · intro W vals hW hkn
    clear hkn
    have hC := hW.c
    refine ⟨?_⟩
    simp only [fill]
    go_simp
    first | exact ⟨HLK.out.stp (Keeps.refl _ _), rfl⟩ | exact ⟨HLK.out.stp (Keeps.alloc _ _), rfl⟩
  simp only [addEnt]
  apply loosek_is 20 _ rfl
  · intro W vals hW hkn
    have hC := hW.c
    simp only [knowsK] at hkn
    try simp only [and_true] at hkn
    have hcv := HC7.out W (PreK.one hW (.inr (by decide))); clear hC hW
    refine ⟨?_⟩
    simp only [fill]
    go_simp
    first | exact ⟨HLK.out.stp (Keeps.refl _ _), rfl⟩ | exact ⟨HLK.out.stp (Keeps.alloc _ _), rfl⟩
  simp only [addEnt]
  refine loosek_has 21 (fun v W' => ∃ b, v = .slice (some ⟨b, 0, none⟩) 256 256 ∧ Row W' b 5 (leafC (List.replicate 256 97))) rfl (fun W vals hW hkn φ' hφ => ?_) ?_
  · have hC := hW.c
    simp only [knowsK] at hkn
    try simp only [and_true] at hkn
    clear hkn
    refine ⟨?_⟩
    simp only [fill]
    go_simp
    ((with_reducible refine loosek_calls_has HLK.out hφ ?_); refine (all_any _ 97).mono ?_; rintro e w7 ⟨b, rfl, hb, hr, hk⟩; exact ⟨_, rfl, hk, b, rfl, hr⟩)
  simp only [addEnt]
  refine loosek_has 22 (fun v W' => ∃ b, v = .slice (some ⟨b, 0, none⟩) 64 256 ∧ Row W' b 5 (leafC (List.replicate 256 97))) rfl (fun W vals hW hkn φ' hφ => ?_) ?_
  · have hC := hW.c
    simp only [knowsK] at hkn
    try simp only [and_true] at hkn
    obtain ⟨W1, h0, h1, b, hv, hr⟩ := hkn (by decide); clear hkn; have HR := Lib.hid (hr.keeps (BtwK.one h1 (.inr (.inr (.inr (by decide)))))); clear hr h0 h1 hC hW
    refine ⟨?_⟩
    simp only [fill]
    go_simp
    exact ⟨HLK.out.stp (Keeps.refl _ _), hφ.out _ _ ⟨b, rfl, HR.out⟩⟩
  simp only [addEnt]
  apply loosek_is 23 _ rfl
  · intro W vals hW hkn
    have hC := hW.c
    simp only [knowsK] at hkn
    try simp only [and_true] at hkn
    obtain ⟨W1, h0, h1, b, hv, hr⟩ := hkn.1 (by decide); clear hkn; have hcv := HCA.out W b (hr.keeps (BtwK.one h1 (.inr (.inr (.inr (by decide)))))); clear hr h0 h1 hC hW
    refine ⟨?_⟩
    simp only [fill]
    go_simp
    first | exact ⟨HLK.out.stp (Keeps.refl _ _), rfl⟩ | exact ⟨HLK.out.stp (Keeps.alloc _ _), rfl⟩
  simp only [addEnt]
  refine loosek_has 24 (fun v W' => ∃ b, v = .slice (some ⟨b, 0, none⟩) 256 256 ∧ Row W' b 5 (leafC (List.replicate 256 98))) rfl (fun W vals hW hkn φ' hφ => ?_) ?_
  · have hC := hW.c
    simp only [knowsK] at hkn
    try simp only [and_true] at hkn
    clear hkn
    refine ⟨?_⟩
    simp only [fill]
    go_simp
    ((with_reducible refine loosek_calls_has HLK.out hφ ?_); refine (all_any _ 98).mono ?_; rintro e w7 ⟨b, rfl, hb, hr, hk⟩; exact ⟨_, rfl, hk, b, rfl, hr⟩)
  simp only [addEnt]
  refine loosek_has 25 (fun v W' => ∃ b, v = .slice (some ⟨b, 0, none⟩) 64 256 ∧ Row W' b 5 (leafC (List.replicate 256 98))) rfl (fun W vals hW hkn φ' hφ => ?_) ?_
  · have hC := hW.c
    simp only [knowsK] at hkn
    try simp only [and_true] at hkn
    obtain ⟨W1, h0, h1, b, hv, hr⟩ := hkn.1 (by decide); clear hkn; have HR := Lib.hid (hr.keeps (BtwK.one h1 (.inr (.inr (.inr (by decide)))))); clear hr h0 h1 hC hW
    refine ⟨?_⟩
    simp only [fill]
    go_simp
    exact ⟨HLK.out.stp (Keeps.refl _ _), hφ.out _ _ ⟨b, rfl, HR.out⟩⟩
  simp only [addEnt]
  apply loosek_is 26 _ rfl
  · intro W vals hW hkn
    have hC := hW.c
    simp only [knowsK] at hkn
    try simp only [and_true] at hkn
    obtain ⟨W1, h0, h1, b, hv, hr⟩ := hkn.1 (by decide); clear hkn; have hcv := HCB.out W b (hr.keeps (BtwK.one h1 (.inr (.inr (.inr (by decide)))))); clear hr h0 h1 hC hW
    refine ⟨?_⟩
    simp only [fill]
    go_simp
    first | exact ⟨HLK.out.stp (Keeps.refl _ _), rfl⟩ | exact ⟨HLK.out.stp (Keeps.alloc _ _), rfl⟩
  simp only [addEnt]
  apply loosek_is 27 _ rfl
  · intro W vals hW hkn
    clear hkn
    have hC := hW.c
    refine ⟨?_⟩
    simp only [fill]
    go_simp
    first | exact ⟨HLK.out.stp (Keeps.refl _ _), rfl⟩ | exact ⟨HLK.out.stp (Keeps.alloc _ _), rfl⟩
  simp only [addEnt]
  refine loosek_has 28 (fun v W' => ∃ b, v = .slice (some ⟨b, 0, none⟩) 128 128 ∧ Row W' b 5 (leafC (List.replicate 128 0))) rfl (fun W vals hW hkn φ' hφ => ?_) ?_
  · have hC := hW.c
    simp only [knowsK] at hkn
    try simp only [and_true] at hkn
    clear hkn; have hmk := HMK.out W
    refine ⟨?_⟩
    simp only [fill]
    go_simp
    exact ⟨HLK.out.stp (Keeps.alloc _ _), hφ.out _ _ ⟨_, rfl, Row.new _ _ _⟩⟩
  simp only [addEnt]
  apply loosek_is 29 _ rfl
  · intro W vals hW hkn
    have hC := hW.c
    simp only [knowsK] at hkn
    try simp only [and_true] at hkn
    obtain ⟨W1, h0, h1, b, hv, hr⟩ := hkn.1 (by decide); clear hkn; have hcv := HCZ.out W b (hr.keeps (BtwK.one h1 (.inr (.inr (.inr (by decide)))))); clear hr h0 h1 hC hW
    refine ⟨?_⟩
    simp only [fill]
    go_simp
    first | exact ⟨HLK.out.stp (Keeps.refl _ _), rfl⟩ | exact ⟨HLK.out.stp (Keeps.alloc _ _), rfl⟩
  simp only [addEnt]
  apply loosek_is 30 _ rfl
  · intro W vals hW hkn
    clear hkn
    have hC := hW.c
    refine ⟨?_⟩
    simp only [fill]
    go_simp
    first | exact ⟨HLK.out.stp (Keeps.refl _ _), rfl⟩ | exact ⟨HLK.out.stp (Keeps.alloc _ _), rfl⟩
  simp only [addEnt]
  apply loosek_is 31 _ rfl
  · intro W vals hW hkn
    have hC := hW.c
    simp only [knowsK] at hkn
    try simp only [and_true] at hkn
    clear hkn; have hse := HSE.out
    refine ⟨?_⟩
    simp only [fill]
    go_simp
    first | exact ⟨HLK.out.stp (Keeps.refl _ _), rfl⟩ | exact ⟨HLK.out.stp (Keeps.alloc _ _), rfl⟩
  simp only [addEnt]
  apply loosek_is 32 _ rfl
  · intro W vals hW hkn
    clear hkn
    have hC := hW.c
    refine ⟨?_⟩
    simp only [fill]
    go_simp
    first | exact ⟨HLK.out.stp (Keeps.refl _ _), rfl⟩ | exact ⟨HLK.out.stp (Keeps.alloc _ _), rfl⟩
  simp only [addEnt]
  apply loosek_is 33 _ rfl
  · intro W vals hW hkn
    clear hkn
    have hC := hW.c
    refine ⟨?_⟩
    simp only [fill]
    go_simp
    first | exact ⟨HLK.out.stp (Keeps.refl _ _), rfl⟩ | exact ⟨HLK.out.stp (Keeps.alloc _ _), rfl⟩
  simp only [addEnt]
  apply loosek_is 34 _ rfl
  · intro W vals hW hkn
    clear hkn
    have hC := hW.c
    refine ⟨?_⟩
    simp only [fill]
    go_simp
    first | exact ⟨HLK.out.stp (Keeps.refl _ _), rfl⟩ | exact ⟨HLK.out.stp (Keeps.alloc _ _), rfl⟩
  simp only [addEnt]
  apply loosek_is 35 _ rfl
  · intro W vals hW hkn
    clear hkn
    have hC := hW.c
    refine ⟨?_⟩
    simp only [fill]
    go_simp
    first | exact ⟨HLK.out.stp (Keeps.refl _ _), rfl⟩ | exact ⟨HLK.out.stp (Keeps.alloc _ _), rfl⟩
  simp only [addEnt]
  apply loosek_is 36 _ rfl
  · intro W vals hW hkn
    clear hkn
    have hC := hW.c
    refine ⟨?_⟩
    simp only [fill]
    go_simp
    first | exact ⟨HLK.out.stp (Keeps.refl _ _), rfl⟩ | exact ⟨HLK.out.stp (Keeps.alloc _ _), rfl⟩
  simp only [addEnt]
  apply loosek_is 37 _ rfl
  · intro W vals hW hkn
    clear hkn
    have hC := hW.c
    refine ⟨?_⟩
    simp only [fill]
    go_simp
    first | exact ⟨HLK.out.stp (Keeps.refl _ _), rfl⟩ | exact ⟨HLK.out.stp (Keeps.alloc _ _), rfl⟩
  simp only [addEnt]
  apply loosek_is 38 _ rfl
  · intro W vals hW hkn
    clear hkn
    have hC := hW.c
    refine ⟨?_⟩
    simp only [fill]
    go_simp
    first | exact ⟨HLK.out.stp (Keeps.refl _ _), rfl⟩ | exact ⟨HLK.out.stp (Keeps.alloc _ _), rfl⟩
  simp only [addEnt]
  apply loosek_is 39 _ rfl
  · intro W vals hW hkn
    clear hkn
    have hC := hW.c
    refine ⟨?_⟩
    simp only [fill]
    go_simp
    first | exact ⟨HLK.out.stp (Keeps.refl _ _), rfl⟩ | exact ⟨HLK.out.stp (Keeps.alloc _ _), rfl⟩
  simp only [addEnt]
  apply loosek_is 40 _ rfl
  · intro W vals hW hkn
    clear hkn
    have hC := hW.c
    refine ⟨?_⟩
    simp only [fill]
    go_simp
    first | exact ⟨HLK.out.stp (Keeps.refl _ _), rfl⟩ | exact ⟨HLK.out.stp (Keeps.alloc _ _), rfl⟩
  simp only [addEnt]
  apply loosek_is 41 _ rfl
  · intro W vals hW hkn
    clear hkn
    have hC := hW.c
    refine ⟨?_⟩
    simp only [fill]
    go_simp
    first | exact ⟨HLK.out.stp (Keeps.refl _ _), rfl⟩ | exact ⟨HLK.out.stp (Keeps.alloc _ _), rfl⟩
  simp only [addEnt]
  apply loosek_is 42 _ rfl
  · intro W vals hW hkn
    clear hkn
    have hC := hW.c
    refine ⟨?_⟩
    simp only [fill]
    go_simp
    first | exact ⟨HLK.out.stp (Keeps.refl _ _), rfl⟩ | exact ⟨HLK.out.stp (Keeps.alloc _ _), rfl⟩
  simp only [addEnt]
  refine loosek_has 43 (fun v W' => v = .int .i64 0) rfl (fun W vals hW hkn φ' hφ => ?_) ?_
  · have hC := hW.c
    simp only [knowsK] at hkn
    try simp only [and_true] at hkn
    clear hkn; have HP := Lib.hid (PreK.one hW (.inl rfl)); clear hC hW
    refine ⟨?_⟩
    simp only [fill]
    go_simp
    ((with_reducible refine loosek_writes HLK.out hφ ?_); refine (dkFlush_dk (H.out.1.keeps HP.out)).mono ?_; rintro e w7 ⟨rfl, h, -⟩; exact ⟨_, rfl, .one (fun _ => h.h) (fun h => absurd rfl h), by rw [two_6]; rfl⟩)
  simp only [addEnt]
  apply loosek_is 44 _ rfl
  · intro W vals hW hkn
    have hC := hW.c
    simp only [knowsK] at hkn
    try simp only [and_true] at hkn
    obtain ⟨W1, h0, h1, hv⟩ := hkn.1 (by decide); clear hkn h0 h1 hC hW
    refine ⟨?_⟩
    simp only [fill]
    go_simp
    first | exact ⟨HLK.out.stp (Keeps.refl _ _), rfl⟩ | exact ⟨HLK.out.stp (Keeps.alloc _ _), rfl⟩
  simp only [addEnt]
  apply loosek_is 45 _ rfl
  · intro W vals hW hkn
    clear hkn
    have hC := hW.c
    refine ⟨?_⟩
    simp only [fill]
    go_simp
    first | exact ⟨HLK.out.stp (Keeps.refl _ _), rfl⟩ | exact ⟨HLK.out.stp (Keeps.alloc _ _), rfl⟩
  simp only [addEnt]
  apply loosek_is 46 _ rfl
  · intro W vals hW hkn
    clear hkn
    have hC := hW.c
    refine ⟨?_⟩
    simp only [fill]
    go_simp
    first | exact ⟨HLK.out.stp (Keeps.refl _ _), rfl⟩ | exact ⟨HLK.out.stp (Keeps.alloc _ _), rfl⟩
  simp only [addEnt]
  refine loosek_nil (fun W9 vals hW hkn => ?_)
  simp only [knowsAllK] at hkn
  try simp only [and_true] at hkn
  simp only [fill, Act.put, List.setIfInBounds_toArray, List.set_cons_succ, List.set_cons_zero]
  have HF := Lib.hid (hW H.out.1.h)
  clear hkn hW
  go_wp2_with fail
  go_ret
  exact ⟨rfl, HF.out⟩
theorem known2_go {w w' : World} (h : Keeps w w' []) : Calls Try.prog 9 #[] w' fun e w'' => e = .returned (.bool true) ∧ Keeps w w'' [] :=
  (known2_any w').mono fun _ _ ⟨a, b⟩ => ⟨a, h.then_ b⟩
end Go.Proofs.Ytehlabdbbbbopaa

namespace Go.Proofs.Ytehlabdbbbbopaa
open Go.RowKit Go.Maps Go.Shelf

set_option maxRecDepth 100000 in
set_option maxHeartbeats 4000000 in
theorem diskNil_any (w : World) (page : Int) (A : Option Addr) (n c : Nat) : Calls Try.prog 8 #[.int .i64 page, .slice A n c] w fun e w' => e = .returned (.bool true) ∧ Keeps w w' [] := by
  by_cases hn : (300 : Int) < n
  · go_enter Try.func8, Try.ntmps8
    go_wp2_with fail
    refine (known2_go (Keeps.refl w [])).mono ?_
    rintro e w' ⟨rfl, hk⟩
    have HK := Lib.hid hk
    clear hk
    go_wp2_with fail
    go_ret
    exact ⟨rfl, HK.out⟩
  · go_enter Try.func8, Try.ntmps8
    go_wp2_with fail
    obtain ⟨W0, hW0⟩ : ∃ W0, w.alloc (.cells #[.int .i64 0, .int .i64 0, .int .i64 0, .map none, .map none, .slice none 0 0, .bool false, .int .i64 0] 67) = W0 := ⟨_, rfl⟩
    have r0 : Row W0 w.heap.size 67 #[.int .i64 0, .int .i64 0, .int .i64 0, .map none, .map none, .slice none 0 0, .bool false, .int .i64 0] := by rw [← hW0]; exact Row.new _ _ _
    have k0 : Keeps w W0 [] := by rw [← hW0]; exact Keeps.alloc _ _
    have Z := Lib.hid (show NoDk W0 (some ⟨w.heap.size, 0, none⟩) from .inr ⟨_, _, rfl, r0, rfl⟩)
    have K0 := Lib.hid k0
    rw [hW0]
    clear r0 k0 hW0
    have K := Lib.hid (Keeps.refl W0 [])
    refine (noDk_read (p := none) (.inl rfl) page).mono ?_
    rintro e w' ⟨rfl, hk⟩
    have K := Lib.hid (K.out.then_ hk)
    clear hk
    go_wp2_with fail
    refine (noDk_crash (Z.out.keeps (K.out.then_alloc _)) _ _ _).mono ?_
    rintro e w' ⟨rfl, hk⟩
    have K := Lib.hid ((K.out.then_alloc _).then_ hk)
    clear hk
    go_wp2_with fail
    refine (noDk_write (p := none) (.inl rfl) page A n c).mono ?_
    rintro e w' ⟨rfl, hk⟩
    have K := Lib.hid (K.out.then_ hk)
    clear hk
    go_wp2_with fail
    refine (noDk_flush (Z.out.keeps K.out)).mono ?_
    rintro e w' ⟨rfl, hk⟩
    have K := Lib.hid (K.out.then_ hk)
    clear hk
    go_wp2_with fail
    refine (noDk_arm (p := none) (.inl rfl) 1 page).mono ?_
    rintro e w' ⟨rfl, hk⟩
    have K := Lib.hid (K.out.then_ hk)
    clear hk
    go_wp2_with fail
    refine (noDk_dead (Z.out.keeps K.out) 0).mono ?_
    rintro e w' ⟨rfl, hk⟩
    have K := Lib.hid (K.out.then_ hk)
    clear hk
    go_wp2_with fail
    refine (noDk_pages (p := none) (.inl rfl) 0).mono ?_
    rintro e w' ⟨rfl, hk⟩
    have K := Lib.hid (K.out.then_ hk)
    clear hk
    go_wp2_with fail
    refine (noDk_waits (Z.out.keeps K.out) 0).mono ?_
    rintro e w' ⟨rfl, hk⟩
    have K := Lib.hid (K.out.then_ hk)
    clear hk
    go_wp2_with fail
    refine (noDk_steps (p := none) (.inl rfl) 0).mono ?_
    rintro e w' ⟨rfl, hk⟩
    have K := Lib.hid (K.out.then_ hk)
    clear hk
    go_wp2_with fail
    refine (noDk_copy (Z.out.keeps K.out) 0).mono ?_
    rintro e w' ⟨rfl, hk⟩
    have K := Lib.hid (K.out.then_ hk)
    clear hk
    go_wp2_with fail
    refine (noDk_same (p := none) (.inl rfl) (Z.out.keeps K.out)).mono ?_
    rintro e w' ⟨rfl, hk⟩
    have K := Lib.hid (K.out.then_ hk)
    clear hk
    go_wp2_with fail
    refine (known2_any _).mono ?_
    rintro e w' ⟨rfl, hk⟩
    have K := Lib.hid (K.out.then_ hk)
    clear hk
    go_wp2_with fail
    go_ret
    exact ⟨rfl, K0.out.then_ K.out⟩
end Go.Proofs.Ytehlabdbbbbopaa
