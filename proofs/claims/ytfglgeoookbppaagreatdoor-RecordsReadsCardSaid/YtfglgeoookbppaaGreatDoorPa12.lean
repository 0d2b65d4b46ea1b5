/- Package keys: parts' bytes. -/
import Derived.Test.YtfglgeoookbppaaGreatDoorPa11

namespace Go.Proofs.YtfglgeoookbppaaGreatDoor
open Go.RowKit

theorem toBE_len8 (n : Nat) : (toBE 8 n).length = 8 := toBE_length 8 n
theorem kPart_length {p : KP} (hs : p.s.length ≤ 1000) : (kPart p).length ≤ 2010 := by
 unfold kPart kTail
 have := kEsc_length p.s
 split
 ·simp [toBE_len8]
 ·split
  ·simp [toBE_len8]
  ·simp; omega
theorem kRaw_length : ∀ {l : List KP}, (∀ p ∈ l, p.s.length ≤ 1000) → (kRaw l).length ≤ 2010 * l.length
 | [], _ => by simp [kRaw]
 | p :: l, h => by
  have h1 := kPart_length (h p (by simp))
  have h2 := kRaw_length (l := l) fun q hq => h q (by simp [hq])
  simp only [kRaw, List.length_append, List.length_cons]
  omega
theorem kRaw_take {l : List KP} {j : Nat} (hj : j < l.length) : kRaw (l.take (j + 1)) = kRaw (l.take j) ++ kPart l[j] := by
 rw [List.take_succ_eq_append_getElem hj, kRaw_append, kRaw_one]

def kArr (k : Nat) : Array Value := match k with
 | 1 => #[kFn 105, kFn 106, kFn 108, kFn 110]
 | 2 => #[kFn 112, kFn 113, kFn 115, kFn 118]
 | _ => #[kFn 120, kFn 121, kFn 123, kFn 124]
theorem conv_one {W : World} {g : Nat} {b : UInt8} (h : Row W g 5 #[byteV b]) : (convert 39 9 (.slice (some ⟨g, 0, none⟩) 1 1)).run Tryz.prog W = .ok (.string ⟨#[b]⟩) W := by
 refine conv_str W W.heap.size (some ⟨g, 0, none⟩) 1 [b] fun _ => ⟨g, 0, rfl, h.lt, fun i u hu => ?_⟩
 rcases i with _ | i
 ·rw [h.cell]
  simpa using hu
 ·simp at hu

set_option maxRecDepth 100000 in
set_option maxHeartbeats 4000000 in
theorem kRaw_any (w : World) (A : Option Addr) (c : Nat) (l : List KP) (hok : ∀ p ∈ l, p.Ok) (hmay : l.all kMay = true) (hL : Lies w w.heap.size A (kFlat l)) (hM : MaxL w) (hl : l.length ≤ 100) (hs : ∀ p ∈ l, p.s.length ≤ 1000) :
  Calls Tryz.prog 79 #[.slice A l.length c] w fun e w' => e = .returned (strV (kRaw l)) ∧ Keeps w w' [] := by
 have hsf := @run_store_float Tryz.prog
 go_enter Tryz.func79, Tryz.ntmps79
 go_wp2_with fail
 go_loopw [3, 8] (fun v i wr => ∃ j : Nat, j ≤ l.length ∧ i = .int .i64 j ∧ v = strV (kRaw (l.take j)) ∧ Keeps w wr []) (fun _ i _ => l.length - (intOf i).toNat)
 case atStart => exact ⟨0, by omega, rfl, rfl, Keeps.refl _ _⟩
 case round =>
  obtain ⟨j, hj, rfl, rfl, hkp⟩ := hrel
  by_cases hjl : j < l.length
  ·obtain ⟨b, o, rfl, hb, hc⟩ := kpAt hL (Nat.le_refl _) hjl
   have hp := hok l[j] (List.getElem_mem _)
   have hmj := List.all_eq_true.1 hmay l[j] (List.getElem_mem _)
   have hsj := hs l[j] (List.getElem_mem _)
   have hlt : (kRaw (l.take j)).length ≤ 201000 := by
    have := kRaw_length (l := l.take j) fun q hq => hs q (List.mem_of_mem_take hq)
    have h2 : (l.take j).length ≤ 100 := by rw [List.length_take]; omega
    omega
   obtain ⟨R, hR⟩ : ∃ R, kRaw (l.take j) = R := ⟨_, rfl⟩
   rw [hR] at hlt ⊢
   have HR := Lib.hid (show kRaw (l.take (j + 1)) = R ++ kPart l[j] by rw [kRaw_take hjl, hR])
   clear hR
   obtain ⟨p, hpd⟩ : ∃ p, p = l[j] := ⟨_, rfl⟩
   rw [← hpd] at hc hp hmj hsj
   obtain ⟨c0, c1, c2, c3⟩ := hc wr hkp
   have HM := Lib.hid (show ∀ W, Keeps w W [] → MaxL W from fun W h => hM.keeps h)
   have HH := Lib.hid (And.intro hc (And.intro hp (And.intro hpd (And.intro hsj (And.intro hkp hL)))))
   have HMJ := Lib.hid (kMay_cases hmj)
   clear hc hp hpd hkp hL hok hs hM hmay hmj hsj
   obtain ⟨k, n, f, s⟩ := p
   simp only [strV] at c0 c1 c2 c3 ⊢
   go_wp2_with fail
   obtain ⟨W0, hW0⟩ : ∃ W', wr.alloc (.cells #[.int .i64 k, .int .i64 n, .float .f64 f, .string ⟨s.toArray⟩] 63) = W' := ⟨_, rfl⟩
   have hk0 : Keeps wr W0 [] := by rw [← hW0]; exact Keeps.alloc _ _
   have hr0 : Row W0 wr.heap.size 63 #[.int .i64 k, .int .i64 n, .float .f64 f, .string ⟨s.toArray⟩] := by rw [← hW0]; exact Row.new _ _ _
   rw [hW0]
   clear hW0 c0 c1 c2 c3
   obtain ⟨N, hN⟩ : ∃ N, wr.heap.size = N := ⟨_, rfl⟩
   rw [hN] at hr0 ⊢
   have H2 := Lib.hid (And.intro hk0 hr0)
   have M1 := fun (W : World) (hW : Keeps W0 W []) => (hr0.keep hW (by simp)).cell 0
   have M2 := fun (W : World) (hW : Keeps W0 W []) => (hr0.keep hW (by simp)).cell 1
   have M3 := fun (W : World) (hW : Keeps W0 W []) => (hr0.keep hW (by simp)).cell 2
   have M4 := fun (W : World) (hW : Keeps W0 W []) => (hr0.keep hW (by simp)).cell 3
   clear hN hk0
   obtain ⟨T, hT⟩ : ∃ T, kTail ⟨k, n, f, s⟩ = T := ⟨_, rfl⟩
   have HT := Lib.hid (show kTail ⟨k, n, f, s⟩ = T ∧ ¬ 9223372036854775807 < 1 + T.length ∧ ¬ 9223372036854775807 < R.length + (1 + T.length) by
    have := kPart_length (p := ⟨k, n, f, s⟩) HH.out.2.2.2.1
    rw [kPart, hT, List.length_cons] at this
    exact ⟨hT, by omega, by omega⟩)
   have HQ := Lib.hid (show ∀ W, Keeps W0 W [] → Keeps w W [] from fun W h => (HH.out.2.2.2.2.1.trans H2.out.1 (by simp)).trans h (by simp))
   clear hT
   have hk3 : k = 1 ∨ k = 2 ∨ k = 3 := by rcases HMJ.out with h | h | h <;> simp [h.1]
   rcases hk3 with rfl | rfl | rfl
   ·have HC := Lib.hid (show ∀ W, Keeps w W [] → Calls Tryz.prog 106 #[.agg #[.int .i64 1, .int .i64 n, .float .f64 f, .string ⟨s.toArray⟩]] W fun e w' => e = .returned (.string ⟨T.toArray⟩) ∧ Keeps W w' [] from fun W hW => by
     rw [← HT.out.1]
     exact kRawI_any ⟨1, n, f, s⟩ HH.out.2.1 W)
    have hkv : kOfKind 1 = .agg (kArr 1) := by rfl
    simp only [kArr] at hkv
    have HKV := Lib.hid hkv
    clear hkv
    refine wp_region_keeps _ (by kernel_rfl) rfl (by kernel_rfl) ?_
    apply loose_is
    ·intro W vals hW hkn
     clear hkn
     refine ⟨?_⟩
     simp only [fill]
     go_simp
     first | exact ⟨Keeps.refl _ _, rfl⟩ | exact ⟨Keeps.alloc _ _, rfl⟩
    simp only [addEnt]
    apply loose_is
    ·intro W vals hW hkn
     clear hkn
     refine ⟨?_⟩
     simp only [fill]
     go_simp
     first | exact ⟨Keeps.refl _ _, rfl⟩ | exact ⟨Keeps.alloc _ _, rfl⟩
    simp only [addEnt]
    apply loose_is
    ·intro W vals hW hkn
     clear hkn
     refine ⟨?_⟩
     simp only [fill]
     go_simp
     first | exact ⟨Keeps.refl _ _, rfl⟩ | exact ⟨Keeps.alloc _ _, rfl⟩
    simp only [addEnt]
    apply loose_is
    ·intro W vals hW hkn
     clear hkn
     refine ⟨?_⟩
     simp only [fill]
     go_simp
     first | exact ⟨Keeps.refl _ _, rfl⟩ | exact ⟨Keeps.alloc _ _, rfl⟩
    simp only [addEnt]
    refine loose_has (fun v W => ∃ g, v = .slice (some ⟨g, 0, none⟩) 1 1 ∧ Row W g 5 #[.int .u8 1]) (fun W vals hW hkn φ' hφ => ?_) ?_
    ·simp only [knows] at hkn
     try simp only [and_true] at hkn
     clear hkn
     refine ⟨?_⟩
     simp only [fill]
     go_simp
     exact looseUpon_value hφ (Keeps.alloc _ _) ⟨_, rfl, Row.new _ _ _⟩
    simp only [addEnt]
    apply loose_is
    ·intro W vals hW hkn
     simp only [knows] at hkn
     try simp only [and_true] at hkn
     obtain ⟨W1, h0, h1, g, hv, hr⟩ := hkn (by decide); have hcs := conv_one (b := 1) (hr.keeps h1); clear hr
     refine ⟨?_⟩
     simp only [fill]
     go_simp
     first | exact ⟨Keeps.refl _ _, rfl⟩ | exact ⟨Keeps.alloc _ _, rfl⟩
    simp only [addEnt]
    refine loose_has (fun v W => ∃ b, v = .map (some b) ∧ Kinds W b) (fun W vals hW hkn φ' hφ => ?_) ?_
    ·simp only [knows] at hkn
     try simp only [and_true] at hkn
     clear hkn
     refine ⟨?_⟩
     simp only [fill]
     go_simp
     (with_reducible refine looseUpon_has hφ ?_; refine (kKinds_any W).mono ?_; rintro e w2 ⟨b, rfl, h1, h2⟩; exact ⟨_, rfl, h2, b, rfl, h1⟩)
    simp only [addEnt]
    apply loose_is
    ·intro W vals hW hkn
     clear hkn
     refine ⟨?_⟩
     simp only [fill]
     go_simp
     first | exact ⟨Keeps.refl _ _, rfl⟩ | exact ⟨Keeps.alloc _ _, rfl⟩
    simp only [addEnt]
    apply loose_is
    ·intro W vals hW hkn
     clear hkn
     refine ⟨?_⟩
     simp only [fill]
     go_simp
     first | exact ⟨Keeps.refl _ _, rfl⟩ | exact ⟨Keeps.alloc _ _, rfl⟩
    simp only [addEnt]
    apply loose_is
    ·intro W vals hW hkn
     simp only [knows] at hkn
     try simp only [and_true] at hkn
     obtain ⟨W1, h0, h1, b2, hv, hb⟩ := hkn.1 (by decide); have hlk := (hb.keep h1 (by simp)).look 1 HH.out.2.1.k1 HH.out.2.1.k2 false; rw [HKV.out] at hlk; simp only [Bool.false_eq_true, if_false] at hlk; clear hb
     refine ⟨?_⟩
     simp only [fill]
     go_simp
     first | exact ⟨Keeps.refl _ _, rfl⟩ | exact ⟨Keeps.alloc _ _, rfl⟩
    simp only [addEnt]
    apply loose_is
    ·intro W vals hW hkn
     clear hkn
     refine ⟨?_⟩
     simp only [fill]
     go_simp
     first | exact ⟨Keeps.refl _ _, rfl⟩ | exact ⟨Keeps.alloc _ _, rfl⟩
    simp only [addEnt]
    apply loose_is
    ·intro W vals hW hkn
     clear hkn
     refine ⟨?_⟩
     simp only [fill]
     go_simp
     first | exact ⟨Keeps.refl _ _, rfl⟩ | exact ⟨Keeps.alloc _ _, rfl⟩
    simp only [addEnt]
    apply loose_is
    ·intro W vals hW hkn
     clear hkn
     refine ⟨?_⟩
     simp only [fill]
     go_simp
     refine looseUpon_calls ?_
     exact (HC.out W (HQ.out W hW)).mono (by rintro e w3 ⟨rfl, hk3⟩; exact ⟨_, rfl, hk3, rfl⟩)
    simp only [addEnt]
    have a1 := HT.out.2.1
    apply loose_is
    ·intro W vals hW hkn
     clear hkn
     refine ⟨?_⟩
     simp only [fill]
     go_simp
     first | exact ⟨Keeps.refl _ _, rfl⟩ | exact ⟨Keeps.alloc _ _, rfl⟩
    simp only [addEnt]
    have a2 := HT.out.2.2
    apply loose_is
    ·intro W vals hW hkn
     clear hkn
     refine ⟨?_⟩
     simp only [fill]
     go_simp
     first | exact ⟨Keeps.refl _ _, rfl⟩ | exact ⟨Keeps.alloc _ _, rfl⟩
    simp only [addEnt]
    apply loose_is
    ·intro W vals hW hkn
     clear hkn
     refine ⟨?_⟩
     simp only [fill]
     go_simp
     first | exact ⟨Keeps.refl _ _, rfl⟩ | exact ⟨Keeps.alloc _ _, rfl⟩
    simp only [addEnt]
    refine loose_nil (fun W vals hW hkn => ?_)
    simp only [knowsAll] at hkn
    try simp only [and_true] at hkn
    simp only [fill, Act.put, List.setIfInBounds_toArray, List.set_cons_succ, List.set_cons_zero]
    clear hkn M1 M2 M3 M4
    have HK := Lib.hid (HQ.out W hW)
    clear hW a1 a2
    generalize vals 16 = v16
    generalize vals 18 = v18
    go_wp2_with fail
    refine ⟨⟨j + 1, by omega, by go_num, ?_, HK.out⟩, by simp [intOf]; omega⟩
    rw [HR.out, ← HH.out.2.2.1]
    have e1 := bytes_append [1] T
    have e2 := bytes_append R (1 :: T)
    simp only [kPart, HT.out.1]
    have e3 : (⟨R.toArray⟩ : ByteArray) ++ (⟨#[1]⟩ ++ ⟨T.toArray⟩) = ⟨(R ++ 1 :: T).toArray⟩ := by
     rw [show (⟨#[1]⟩ : ByteArray) = ⟨[(1 : UInt8)].toArray⟩ from rfl, e1]
     exact e2
    exact congrArg Value.string e3
   ·have HC := Lib.hid (show ∀ W, Keeps w W [] → Calls Tryz.prog 113 #[.agg #[.int .i64 2, .int .i64 n, .float .f64 f, .string ⟨s.toArray⟩]] W fun e w' => e = .returned (.string ⟨T.toArray⟩) ∧ Keeps W w' [] from fun W hW => by
     rw [← HT.out.1]
     exact kRawF_any ⟨2, n, f, s⟩ HH.out.2.1 W)
    have hkv : kOfKind 2 = .agg (kArr 2) := by rfl
    simp only [kArr] at hkv
    have HKV := Lib.hid hkv
    clear hkv
    refine wp_region_keeps _ (by kernel_rfl) rfl (by kernel_rfl) ?_
    apply loose_is
    ·intro W vals hW hkn
     clear hkn
     refine ⟨?_⟩
     simp only [fill]
     go_simp
     first | exact ⟨Keeps.refl _ _, rfl⟩ | exact ⟨Keeps.alloc _ _, rfl⟩
    simp only [addEnt]
    apply loose_is
    ·intro W vals hW hkn
     clear hkn
     refine ⟨?_⟩
     simp only [fill]
     go_simp
     first | exact ⟨Keeps.refl _ _, rfl⟩ | exact ⟨Keeps.alloc _ _, rfl⟩
    simp only [addEnt]
    apply loose_is
    ·intro W vals hW hkn
     clear hkn
     refine ⟨?_⟩
     simp only [fill]
     go_simp
     first | exact ⟨Keeps.refl _ _, rfl⟩ | exact ⟨Keeps.alloc _ _, rfl⟩
    simp only [addEnt]
    apply loose_is
    ·intro W vals hW hkn
     clear hkn
     refine ⟨?_⟩
     simp only [fill]
     go_simp
     first | exact ⟨Keeps.refl _ _, rfl⟩ | exact ⟨Keeps.alloc _ _, rfl⟩
    simp only [addEnt]
    refine loose_has (fun v W => ∃ g, v = .slice (some ⟨g, 0, none⟩) 1 1 ∧ Row W g 5 #[.int .u8 2]) (fun W vals hW hkn φ' hφ => ?_) ?_
    ·simp only [knows] at hkn
     try simp only [and_true] at hkn
     clear hkn
     refine ⟨?_⟩
     simp only [fill]
     go_simp
     exact looseUpon_value hφ (Keeps.alloc _ _) ⟨_, rfl, Row.new _ _ _⟩
    simp only [addEnt]
    apply loose_is
    ·intro W vals hW hkn
     simp only [knows] at hkn
     try simp only [and_true] at hkn
     obtain ⟨W1, h0, h1, g, hv, hr⟩ := hkn (by decide); have hcs := conv_one (b := 2) (hr.keeps h1); clear hr
     refine ⟨?_⟩
     simp only [fill]
     go_simp
     first | exact ⟨Keeps.refl _ _, rfl⟩ | exact ⟨Keeps.alloc _ _, rfl⟩
    simp only [addEnt]
    refine loose_has (fun v W => ∃ b, v = .map (some b) ∧ Kinds W b) (fun W vals hW hkn φ' hφ => ?_) ?_
    ·simp only [knows] at hkn
     try simp only [and_true] at hkn
     clear hkn
     refine ⟨?_⟩
     simp only [fill]
     go_simp
     (with_reducible refine looseUpon_has hφ ?_; refine (kKinds_any W).mono ?_; rintro e w2 ⟨b, rfl, h1, h2⟩; exact ⟨_, rfl, h2, b, rfl, h1⟩)
    simp only [addEnt]
    apply loose_is
    ·intro W vals hW hkn
     clear hkn
     refine ⟨?_⟩
     simp only [fill]
     go_simp
     first | exact ⟨Keeps.refl _ _, rfl⟩ | exact ⟨Keeps.alloc _ _, rfl⟩
    simp only [addEnt]
    apply loose_is
    ·intro W vals hW hkn
     clear hkn
     refine ⟨?_⟩
     simp only [fill]
     go_simp
     first | exact ⟨Keeps.refl _ _, rfl⟩ | exact ⟨Keeps.alloc _ _, rfl⟩
    simp only [addEnt]
    apply loose_is
    ·intro W vals hW hkn
     simp only [knows] at hkn
     try simp only [and_true] at hkn
     obtain ⟨W1, h0, h1, b2, hv, hb⟩ := hkn.1 (by decide); have hlk := (hb.keep h1 (by simp)).look 2 HH.out.2.1.k1 HH.out.2.1.k2 false; rw [HKV.out] at hlk; simp only [Bool.false_eq_true, if_false] at hlk; clear hb
     refine ⟨?_⟩
     simp only [fill]
     go_simp
     first | exact ⟨Keeps.refl _ _, rfl⟩ | exact ⟨Keeps.alloc _ _, rfl⟩
    simp only [addEnt]
    apply loose_is
    ·intro W vals hW hkn
     clear hkn
     refine ⟨?_⟩
     simp only [fill]
     go_simp
     first | exact ⟨Keeps.refl _ _, rfl⟩ | exact ⟨Keeps.alloc _ _, rfl⟩
    simp only [addEnt]
    apply loose_is
    ·intro W vals hW hkn
     clear hkn
     refine ⟨?_⟩
     simp only [fill]
     go_simp
     first | exact ⟨Keeps.refl _ _, rfl⟩ | exact ⟨Keeps.alloc _ _, rfl⟩
    simp only [addEnt]
    apply loose_is
    ·intro W vals hW hkn
     clear hkn
     refine ⟨?_⟩
     simp only [fill]
     go_simp
     refine looseUpon_calls ?_
     exact (HC.out W (HQ.out W hW)).mono (by rintro e w3 ⟨rfl, hk3⟩; exact ⟨_, rfl, hk3, rfl⟩)
    simp only [addEnt]
    have a1 := HT.out.2.1
    apply loose_is
    ·intro W vals hW hkn
     clear hkn
     refine ⟨?_⟩
     simp only [fill]
     go_simp
     first | exact ⟨Keeps.refl _ _, rfl⟩ | exact ⟨Keeps.alloc _ _, rfl⟩
    simp only [addEnt]
    have a2 := HT.out.2.2
    apply loose_is
    ·intro W vals hW hkn
     clear hkn
     refine ⟨?_⟩
     simp only [fill]
     go_simp
     first | exact ⟨Keeps.refl _ _, rfl⟩ | exact ⟨Keeps.alloc _ _, rfl⟩
    simp only [addEnt]
    apply loose_is
    ·intro W vals hW hkn
     clear hkn
     refine ⟨?_⟩
     simp only [fill]
     go_simp
     first | exact ⟨Keeps.refl _ _, rfl⟩ | exact ⟨Keeps.alloc _ _, rfl⟩
    simp only [addEnt]
    refine loose_nil (fun W vals hW hkn => ?_)
    simp only [knowsAll] at hkn
    try simp only [and_true] at hkn
    simp only [fill, Act.put, List.setIfInBounds_toArray, List.set_cons_succ, List.set_cons_zero]
    clear hkn M1 M2 M3 M4
    have HK := Lib.hid (HQ.out W hW)
    clear hW a1 a2
    generalize vals 16 = v16
    generalize vals 18 = v18
    go_wp2_with fail
    refine ⟨⟨j + 1, by omega, by go_num, ?_, HK.out⟩, by simp [intOf]; omega⟩
    rw [HR.out, ← HH.out.2.2.1]
    have e1 := bytes_append [2] T
    have e2 := bytes_append R (2 :: T)
    simp only [kPart, HT.out.1]
    have e3 : (⟨R.toArray⟩ : ByteArray) ++ (⟨#[2]⟩ ++ ⟨T.toArray⟩) = ⟨(R ++ 2 :: T).toArray⟩ := by
     rw [show (⟨#[2]⟩ : ByteArray) = ⟨[(2 : UInt8)].toArray⟩ from rfl, e1]
     exact e2
    exact congrArg Value.string e3
   ·have HC := Lib.hid (show ∀ W, Keeps w W [] → Calls Tryz.prog 121 #[.agg #[.int .i64 3, .int .i64 n, .float .f64 f, .string ⟨s.toArray⟩]] W fun e w' => e = .returned (.string ⟨T.toArray⟩) ∧ Keeps W w' [] from fun W hW => by
     rw [← HT.out.1]
     exact kRawT_any ⟨3, n, f, s⟩ W (HM.out W hW) (by have := HH.out.2.2.2.1; simp only at this ⊢; omega))
    have hkv : kOfKind 3 = .agg (kArr 3) := by rfl
    simp only [kArr] at hkv
    have HKV := Lib.hid hkv
    clear hkv
    refine wp_region_keeps _ (by kernel_rfl) rfl (by kernel_rfl) ?_
    apply loose_is
    ·intro W vals hW hkn
     clear hkn
     refine ⟨?_⟩
     simp only [fill]
     go_simp
     first | exact ⟨Keeps.refl _ _, rfl⟩ | exact ⟨Keeps.alloc _ _, rfl⟩
    simp only [addEnt]
    apply loose_is
    ·intro W vals hW hkn
     clear hkn
     refine ⟨?_⟩
     simp only [fill]
     go_simp
     first | exact ⟨Keeps.refl _ _, rfl⟩ | exact ⟨Keeps.alloc _ _, rfl⟩
    simp only [addEnt]
    apply loose_is
    ·intro W vals hW hkn
     clear hkn
     refine ⟨?_⟩
     simp only [fill]
     go_simp
     first | exact ⟨Keeps.refl _ _, rfl⟩ | exact ⟨Keeps.alloc _ _, rfl⟩
    simp only [addEnt]
    apply loose_is
    ·intro W vals hW hkn
     clear hkn
     refine ⟨?_⟩
     simp only [fill]
     go_simp
     first | exact ⟨Keeps.refl _ _, rfl⟩ | exact ⟨Keeps.alloc _ _, rfl⟩
    simp only [addEnt]
    refine loose_has (fun v W => ∃ g, v = .slice (some ⟨g, 0, none⟩) 1 1 ∧ Row W g 5 #[.int .u8 3]) (fun W vals hW hkn φ' hφ => ?_) ?_
    ·simp only [knows] at hkn
     try simp only [and_true] at hkn
     clear hkn
     refine ⟨?_⟩
     simp only [fill]
     go_simp
     exact looseUpon_value hφ (Keeps.alloc _ _) ⟨_, rfl, Row.new _ _ _⟩
    simp only [addEnt]
    apply loose_is
    ·intro W vals hW hkn
     simp only [knows] at hkn
     try simp only [and_true] at hkn
     obtain ⟨W1, h0, h1, g, hv, hr⟩ := hkn (by decide); have hcs := conv_one (b := 3) (hr.keeps h1); clear hr
     refine ⟨?_⟩
     simp only [fill]
     go_simp
     first | exact ⟨Keeps.refl _ _, rfl⟩ | exact ⟨Keeps.alloc _ _, rfl⟩
    simp only [addEnt]
    refine loose_has (fun v W => ∃ b, v = .map (some b) ∧ Kinds W b) (fun W vals hW hkn φ' hφ => ?_) ?_
    ·simp only [knows] at hkn
     try simp only [and_true] at hkn
     clear hkn
     refine ⟨?_⟩
     simp only [fill]
     go_simp
     (with_reducible refine looseUpon_has hφ ?_; refine (kKinds_any W).mono ?_; rintro e w2 ⟨b, rfl, h1, h2⟩; exact ⟨_, rfl, h2, b, rfl, h1⟩)
    simp only [addEnt]
    apply loose_is
    ·intro W vals hW hkn
     clear hkn
     refine ⟨?_⟩
     simp only [fill]
     go_simp
     first | exact ⟨Keeps.refl _ _, rfl⟩ | exact ⟨Keeps.alloc _ _, rfl⟩
    simp only [addEnt]
    apply loose_is
    ·intro W vals hW hkn
     clear hkn
     refine ⟨?_⟩
     simp only [fill]
     go_simp
     first | exact ⟨Keeps.refl _ _, rfl⟩ | exact ⟨Keeps.alloc _ _, rfl⟩
    simp only [addEnt]
    apply loose_is
    ·intro W vals hW hkn
     simp only [knows] at hkn
     try simp only [and_true] at hkn
     obtain ⟨W1, h0, h1, b2, hv, hb⟩ := hkn.1 (by decide); have hlk := (hb.keep h1 (by simp)).look 3 HH.out.2.1.k1 HH.out.2.1.k2 false; rw [HKV.out] at hlk; simp only [Bool.false_eq_true, if_false] at hlk; clear hb
     refine ⟨?_⟩
     simp only [fill]
     go_simp
     first | exact ⟨Keeps.refl _ _, rfl⟩ | exact ⟨Keeps.alloc _ _, rfl⟩
    simp only [addEnt]
    apply loose_is
    ·intro W vals hW hkn
     clear hkn
     refine ⟨?_⟩
     simp only [fill]
     go_simp
     first | exact ⟨Keeps.refl _ _, rfl⟩ | exact ⟨Keeps.alloc _ _, rfl⟩
    simp only [addEnt]
    apply loose_is
    ·intro W vals hW hkn
     clear hkn
     refine ⟨?_⟩
     simp only [fill]
     go_simp
     first | exact ⟨Keeps.refl _ _, rfl⟩ | exact ⟨Keeps.alloc _ _, rfl⟩
    simp only [addEnt]
    apply loose_is
    ·intro W vals hW hkn
     clear hkn
     refine ⟨?_⟩
     simp only [fill]
     go_simp
     refine looseUpon_calls ?_
     exact (HC.out W (HQ.out W hW)).mono (by rintro e w3 ⟨rfl, hk3⟩; exact ⟨_, rfl, hk3, rfl⟩)
    simp only [addEnt]
    have a1 := HT.out.2.1
    apply loose_is
    ·intro W vals hW hkn
     clear hkn
     refine ⟨?_⟩
     simp only [fill]
     go_simp
     first | exact ⟨Keeps.refl _ _, rfl⟩ | exact ⟨Keeps.alloc _ _, rfl⟩
    simp only [addEnt]
    have a2 := HT.out.2.2
    apply loose_is
    ·intro W vals hW hkn
     clear hkn
     refine ⟨?_⟩
     simp only [fill]
     go_simp
     first | exact ⟨Keeps.refl _ _, rfl⟩ | exact ⟨Keeps.alloc _ _, rfl⟩
    simp only [addEnt]
    apply loose_is
    ·intro W vals hW hkn
     clear hkn
     refine ⟨?_⟩
     simp only [fill]
     go_simp
     first | exact ⟨Keeps.refl _ _, rfl⟩ | exact ⟨Keeps.alloc _ _, rfl⟩
    simp only [addEnt]
    refine loose_nil (fun W vals hW hkn => ?_)
    simp only [knowsAll] at hkn
    try simp only [and_true] at hkn
    simp only [fill, Act.put, List.setIfInBounds_toArray, List.set_cons_succ, List.set_cons_zero]
    clear hkn M1 M2 M3 M4
    have HK := Lib.hid (HQ.out W hW)
    clear hW a1 a2
    generalize vals 16 = v16
    generalize vals 18 = v18
    go_wp2_with fail
    refine ⟨⟨j + 1, by omega, by go_num, ?_, HK.out⟩, by simp [intOf]; omega⟩
    rw [HR.out, ← HH.out.2.2.1]
    have e1 := bytes_append [3] T
    have e2 := bytes_append R (3 :: T)
    simp only [kPart, HT.out.1]
    have e3 : (⟨R.toArray⟩ : ByteArray) ++ (⟨#[3]⟩ ++ ⟨T.toArray⟩) = ⟨(R ++ 3 :: T).toArray⟩ := by
     rw [show (⟨#[3]⟩ : ByteArray) = ⟨[(3 : UInt8)].toArray⟩ from rfl, e1]
     exact e2
    exact congrArg Value.string e3
  ·obtain rfl : j = l.length := by omega
   have HK := Lib.hid hkp
   clear hkp hok hmay hL hM hs
   rw [List.take_length]
   go_wp2_with fail
   go_ret
   exact ⟨rfl, HK.out⟩
end Go.Proofs.YtfglgeoookbppaaGreatDoor
