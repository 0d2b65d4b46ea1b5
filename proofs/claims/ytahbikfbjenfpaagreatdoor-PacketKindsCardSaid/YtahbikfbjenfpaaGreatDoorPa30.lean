/- Package packet: how a connack is read, and all that is left. -/
import Derived.Test.YtahbikfbjenfpaaGreatDoorPa27
import Derived.Test.YtahbikfbjenfpaaGreatDoorPa29

namespace Go.Proofs.YtahbikfbjenfpaaGreatDoor
open Go.RowKit

set_option maxRecDepth 100000 in
set_option maxHeartbeats 2000000 in
theorem pkRd2_any (w : World) (base r : Nat) (f : Int) (l : List UInt8) (h : Rd w base r l) :
  Calls Tryz.prog 57 #[.agg #[.pointer (some ⟨r, 0, none⟩)], .int .i64 f] w (PkRdPost w base r (rdAck l)) := by
 have HNR := Lib.hid h.lt
 obtain ⟨W0, hW0⟩ : ∃ W0, w.alloc (.cells #[.pointer (some ⟨r, 0, none⟩)] 74) = W0 := ⟨_, rfl⟩
 obtain ⟨W1, hW1⟩ : ∃ W1, W0.alloc (.cells #[.int .i64 0, .bool false, .bool false, .int .i64 0, .string ⟨#[]⟩, .string ⟨#[]⟩, .int .i64 0, .string ⟨#[]⟩, .bool false, .int .i64 0, .bool false, .string ⟨#[]⟩, .string ⟨#[]⟩, .int .i64 0, .bool false, .bool false, .bool false, .string ⟨#[]⟩, .string ⟨#[]⟩, .bool false, .int .i64 0, .slice none 0 0, .slice none 0 0, .slice none 0 0] 29) = W1 := ⟨_, rfl⟩
 have k0 : Keeps w W0 [] := by rw [← hW0]; exact Keeps.alloc _ _
 have k1 : Keeps W0 W1 [] := by rw [← hW1]; exact Keeps.alloc _ _
 have s0 : W0.heap.size = w.heap.size + 1 := by rw [← hW0]; simp
 have s1 : W1.heap.size = w.heap.size + 2 := by rw [← hW1]; simp [s0]
 have HB := Lib.hid (show Row W1 w.heap.size 74 #[.pointer (some ⟨r, 0, none⟩)] from (show Row W0 w.heap.size 74 #[.pointer (some ⟨r, 0, none⟩)] by rw [← hW0]; exact Row.new _ _ _).keeps k1)
 have HR := Lib.hid (show Row W1 W0.heap.size 29 #[.int .i64 0, .bool false, .bool false, .int .i64 0, .string ⟨#[]⟩, .string ⟨#[]⟩, .int .i64 0, .string ⟨#[]⟩, .bool false, .int .i64 0, .bool false, .string ⟨#[]⟩, .string ⟨#[]⟩, .int .i64 0, .bool false, .bool false, .bool false, .string ⟨#[]⟩, .string ⟨#[]⟩, .bool false, .int .i64 0, .slice none 0 0, .slice none 0 0, .slice none 0 0] by rw [← hW1]; exact Row.new _ _ _)
 have HK := Lib.hid (k0.then_ k1)
 have HS := Lib.hid (And.intro s0 s1)
 have HRD := Lib.hid ((h.keep k0 (by simp)).keep k1 (by simp))
 have c0 := HB.out.cell 0
 simp only [List.getElem?_toArray, List.getElem?_cons_zero] at c0
 clear k0 k1 s0 s1 h
 rcases hE : rdN 1 l with _ | ⟨n, t⟩
 ·have HT := Lib.hid (show rdAck l = none by unfold rdAck; rw [hE]; rfl)
  have HE := Lib.hid hE
  clear hE
  go_enter Tryz.func57, Tryz.ntmps57
  go_wp2_with fail
  refine (pvNum_none (k' := 1) HRD.out HE.out (by omega) (by omega) rfl).mono ?_
  rintro e w3 ⟨hk, rfl⟩
  exact ⟨rfl, (HK.out.weaken (T := [r]) (by simp)).trans hk (fun _ hx _ => hx), by rw [HT.out]⟩
 ·have HE := Lib.hid hE
  clear hE
  by_cases hn : n ≤ 1
  ·have hn1 : decide ((n : Int) ≤ 1) = true := decide_eq_true (by omega)
   obtain ⟨z, hz⟩ : ∃ z, ((n : Int) == 1) = z := ⟨_, rfl⟩
   have HZ := Lib.hid (show decide (n = 1) = z by rw [← hz, Bool.eq_iff_iff]; simp; omega)
   rcases hE2 : rdN 1 t with _ | ⟨c, u⟩
   ·have HT := Lib.hid (show rdAck l = none by unfold rdAck; rw [HE.out, Option.bind_some, if_pos hn]; simp only; rw [hE2]; rfl)
    have HE2 := Lib.hid hE2
    clear hE2 hn
    go_enter Tryz.func57, Tryz.ntmps57
    go_wp2_with fail
    refine (pvNum1_some HRD.out HE.out).mono ?_
    rintro e w3 ⟨hk, rfl, hrd⟩
    have HK3 := Lib.hid hk
    have HRD3 := Lib.hid hrd
    clear c0 hk hrd hW0 hW1
    have c0 := (HB.out.keep HK3.out (by have := HNR.out; simp; omega)).cell 0
    simp only [List.getElem?_toArray, List.getElem?_cons_zero] at c0
    go_wp2_with (go_at_call 30; refine (pvMust_yes _).mono ?_; rintro e w' ⟨rfl, rfl⟩)
    refine (pvNum_none (k' := 1) HRD3.out HE2.out (by omega) (by omega) rfl).mono ?_
    rintro e w4 ⟨hk, rfl⟩
    exact ⟨rfl, ((HK.out.weaken (T := [r]) (by simp)).trans HK3.out (fun _ hx _ => hx)).trans hk (fun _ hx _ => hx), by rw [HT.out]⟩
   ·have HT := Lib.hid (show rdAck l = some ({ pkZ with k := 2, pr := z, code := (c : Int) }, u) by unfold rdAck; rw [HE.out, Option.bind_some, if_pos hn]; simp only; rw [hE2, Option.bind_some, HZ.out])
    have HE2 := Lib.hid hE2
    clear hE2 hn
    go_enter Tryz.func57, Tryz.ntmps57
    go_wp2_with fail
    refine (pvNum1_some HRD.out HE.out).mono ?_
    rintro e w3 ⟨hk, rfl, hrd⟩
    have HK3 := Lib.hid hk
    have HRD3 := Lib.hid hrd
    clear c0 hk hrd hW0 hW1
    have c0 := (HB.out.keep HK3.out (by have := HNR.out; simp; omega)).cell 0
    simp only [List.getElem?_toArray, List.getElem?_cons_zero] at c0
    go_wp2_with (go_at_call 30; refine (pvMust_yes _).mono ?_; rintro e w' ⟨rfl, rfl⟩)
    refine (pvNum1_some HRD3.out HE2.out).mono ?_
    rintro e w4 ⟨hk, rfl, hrd⟩
    have HK4 := Lib.hid (HK3.out.trans hk (fun _ hx _ => hx))
    have HRD4 := Lib.hid hrd
    have HR4 := Lib.hid (HR.out.keep HK4.out (by have := HNR.out; have := HS.out; simp; omega))
    clear c0 hk hrd
    go_wp2_with (refine wpList_store_row rfl (.tmp 4) (.tmp 15) 29 rfl W0.heap.size #[.int .i64 0, .bool false, .bool false, .int .i64 0, .string ⟨#[]⟩, .string ⟨#[]⟩, .int .i64 0, .string ⟨#[]⟩, .bool false, .int .i64 0, .bool false, .string ⟨#[]⟩, .string ⟨#[]⟩, .int .i64 0, .bool false, .bool false, .bool false, .string ⟨#[]⟩, .string ⟨#[]⟩, .bool z, .int .i64 (c : Nat), .slice none 0 0, .slice none 0 0, .slice none 0 0] #[.int .i64 0, .bool false, .bool false, .int .i64 0, .string ⟨#[]⟩, .string ⟨#[]⟩, .int .i64 0, .string ⟨#[]⟩, .bool false, .int .i64 0, .bool false, .string ⟨#[]⟩, .string ⟨#[]⟩, .int .i64 0, .bool false, .bool false, .bool false, .string ⟨#[]⟩, .string ⟨#[]⟩, .bool false, .int .i64 0, .slice none 0 0, .slice none 0 0, .slice none 0 0] HR4.out (by kernel_rfl) rfl (by simp [Value.oneCell']) rfl rfl ?_; intro w7 r7 k7; refine Hid.out ?_)
    refine Lib.hid ?_
    have HR7 := Lib.hid r7
    have HRD7 := Lib.hid (HRD4.out.far k7 (fun x hx => by have := HNR.out; have := HS.out; simp at hx; omega))
    have HK7 := Lib.hid (((HK.out.weaken (T := [r]) (by simp)).trans HK4.out (fun _ hx _ => hx)).trans k7 (fun x hx hlt => by have := HS.out; simp at hx; omega))
    clear r7 k7
    go_wp2_with fail
    obtain ⟨d, hu, hd⟩ := undPack
    refine bodyPost_ret (results_row (s := 4) (cs := [.int .i64 0, .bool false, .bool false, .int .i64 0, .string ⟨#[]⟩, .string ⟨#[]⟩, .int .i64 0, .string ⟨#[]⟩, .bool false, .int .i64 0, .bool false, .string ⟨#[]⟩, .string ⟨#[]⟩, .int .i64 0, .bool false, .bool false, .bool false, .string ⟨#[]⟩, .string ⟨#[]⟩, .bool z, .int .i64 (c : Nat), .slice none 0 0, .slice none 0 0, .slice none 0 0]) rfl rfl (range_row HR7.out) hu hd (by kernel_rfl)) rfl ⟨HK7.out, ?_⟩
    rw [HT.out]
    exact ⟨_, _, _, rfl, PkT.empty rfl rfl rfl, HRD7.out⟩
  ·have hn1 : decide ((n : Int) ≤ 1) = false := decide_eq_false (by omega)
   have HT := Lib.hid (show rdAck l = none by unfold rdAck; rw [HE.out, Option.bind_some, if_neg hn])
   clear hn
   go_enter Tryz.func57, Tryz.ntmps57
   go_wp2_with fail
   refine (pvNum1_some HRD.out HE.out).mono ?_
   rintro e w3 ⟨hk, rfl, hrd⟩
   have HK3 := Lib.hid hk
   clear c0 hk hrd hW0 hW1
   go_wp2_with (go_at_call 30; refine (pvMust_no _).mono ?_; rintro e w' ⟨rfl, rfl⟩)
   exact ⟨rfl, (HK.out.weaken (T := [r]) (by simp)).trans HK3.out (fun _ hx _ => hx), by rw [HT.out]⟩
theorem rdN_cons (a : UInt8) (u : List UInt8) : rdN 1 (a :: u) = some (a.toNat, u) := by
 unfold rdN
 rw [if_pos (by simp)]
 simp [beN]
set_option maxRecDepth 100000 in
set_option maxHeartbeats 2000000 in
/-- All that is left. -/
theorem pkRest_any (w : World) (base r : Nat) (l : List UInt8) (h : Rd w base r l) (hl : l.length ≤ 100000) :
  Calls Tryz.prog 138 #[.agg #[.pointer (some ⟨r, 0, none⟩)]] w fun e w' => Keeps w w' [r] ∧ e = .returned (.string ⟨l.toArray⟩) ∧ Rd w' base r [] := by
 obtain ⟨W0, hW0⟩ : ∃ W0, w.alloc (.cells #[.pointer (some ⟨r, 0, none⟩)] 74) = W0 := ⟨_, rfl⟩
 have k0 : Keeps w W0 [] := by rw [← hW0]; exact Keeps.alloc _ _
 have HB := Lib.hid (show Row W0 w.heap.size 74 #[.pointer (some ⟨r, 0, none⟩)] by rw [← hW0]; exact Row.new _ _ _)
 have HK0 := Lib.hid k0
 have HR0 := Lib.hid (h.keep k0 (by simp))
 have HRL := Lib.hid h.lt
 clear k0 h
 go_enter Tryz.func138, Tryz.ntmps138
 go_wp2_with fail
 clear hW0
 go_loopw [3] (fun v wr => ∃ (d t : List UInt8), Hid ((Owned wr W0.heap.size v d ∧ Rd wr base r t) ∧ Keeps W0 wr [r] ∧ l = d ++ t) ∧ d.length + t.length ≤ l.length) (fun _ wr => rdLen wr r)
 case atStart => exact ⟨[], l, Lib.hid ⟨⟨World.ownsRow_nil _ _ _ _, HR0.out⟩, Keeps.refl _ _, rfl⟩, by simp⟩
 case round =>
  obtain ⟨d, t, HJ, hdt⟩ := hrel
  have c0 := (HB.out.keep HJ.out.2.1 (by have := HRL.out; simp; omega)).cell 0
  simp only [List.getElem?_toArray, List.getElem?_cons_zero] at c0
  obtain ⟨A, c, rfl, _⟩ := HJ.out.1.1.parts
  go_wp2_with fail
  refine (rdLeft_any _ _ _ _ HJ.out.1.2).mono ?_
  rintro e w2 ⟨rfl, rfl⟩
  rcases t with _ | ⟨x, u⟩
  ·have hcv := conv_str wr _ A c d (HJ.out.1.1.bytes (by simp at hdt; omega)).lies
   have HD := Lib.hid (show l = d by have := HJ.out.2.2; rwa [List.append_nil] at this)
   go_wp2_with fail
   go_ret
   refine ⟨(HK0.out.weaken (T := [r]) (by simp)).trans HJ.out.2.1 (fun _ hx _ => hx), ?_, HJ.out.1.2⟩
   rw [HD.out]
   rfl
  ·have hgt : 0 < (x :: u).length := by simp
   have hx8 := x.toNat_lt
   have hwx : IntKind.u8.wrap (x.toNat : Int) = (x.toNat : Int) := IntWalk.u8_in _ ⟨by omega, by omega⟩
   go_wp2_with fail
   refine (pvNum1_some HJ.out.1.2 (rdN_cons x u)).mono ?_
   rintro e w3 ⟨hk3, rfl, hrd⟩
   have HA := Lib.hid (And.intro (own_keep HJ.out.1.1 hk3 (fun g hg hm => by have := (HJ.out.1.1.lt g hg).1; have := HRL.out; have := HK0.out.size; simp at hm; omega)) (And.intro hrd (HJ.out.2.1.trans hk3 (fun _ hx _ => hx))))
   have hs3 := hk3.size
   clear hk3 hrd c0
   obtain ⟨Wb, hWb⟩ : ∃ Wb, w3.alloc (.cells #[.int .u8 (x.toNat : Nat)] 5) = Wb := ⟨_, rfl⟩
   have kb : Keeps w3 Wb [] := by rw [← hWb]; exact Keeps.alloc _ _
   have rb : Bytes Wb Wb.heap.size (.slice (some ⟨w3.heap.size, 0, none⟩) 1 1) [x] := by rw [← hWb]; exact byte_new w3 x
   have HA2 := Lib.hid (And.intro (own_keep HA.out.1 kb (by simp)) (And.intro rb (And.intro (HA.out.2.1.keep kb (by simp)) (HA.out.2.2.then_ kb))))
   have hbs : W0.heap.size ≤ Wb.heap.size := HA2.out.2.2.2.size
   clear kb rb
   go_wp2_with (at_builtin; refine Hid.out ?_)
   refine Lib.hid ?_
   refine wpList_append_bytes _ rfl (.tmp 8) (.tmp 12) rfl W0.heap.size (.slice A d.length c) (.slice (some ⟨w3.heap.size, 0, none⟩) 1 1) d [x] rfl rfl HA2.out.1 HA2.out.2.1 (by simp at hdt ⊢; omega) hbs ?_
   intro A7 c7 w7 l7 E7 hl7 ho7 hk7 hb7
   have hfar : ∀ g ∈ (Value.slice A d.length c).ownBlock.toList, W0.heap.size ≤ g := fun g hg => (HA2.out.1.lt g (by simpa using hg)).1
   have HR7 := Lib.hid (HA2.out.2.2.1.far hk7 (fun g hg => by have := hfar g hg; have := HRL.out; have := HK0.out.size; omega))
   have HK7 := Lib.hid (HA2.out.2.2.2.trans hk7 (fun g hg hlt => absurd (hfar g hg) (by omega)))
   have HO7 := Lib.hid ho7
   have HL7 := Lib.hid E7.out
   clear ho7 hk7 hb7 hfar hWb E7
   go_wp2_with fail
   refine ⟨⟨l7, u, Lib.hid ⟨⟨HO7.out, HR7.out⟩, HK7.out, ?_⟩, by simp at hl7 hdt ⊢; omega⟩, ?_⟩
   ·rw [HL7.out, List.append_assoc]
    exact HJ.out.2.2
   ·rw [HR7.out.rdLen, HJ.out.1.2.rdLen]
    simp
end Go.Proofs.YtahbikfbjenfpaaGreatDoor
