/- Package packet: lists of one to eight things that are so; may the other kinds be? -/
import Derived.Test.YtahbikfbjenfpaaGreatDoorPa16
import Derived.Test.YtahbikfbjenfpaaGreatDoorPa28

namespace Go.Proofs.YtahbikfbjenfpaaGreatDoor
open Go.RowKit

set_option maxRecDepth 100000 in
set_option maxHeartbeats 400000 in
theorem fitOneW (w : World) (bx : Nat) (x : (List UInt8 × Int)) (q : Bool) (hb : Row w bx 104 #[.func (.func 63) #[] #[]]) (HC : ∀ W, Keeps w W [] → Calls Tryz.prog 63 #[.agg #[.string ⟨x.1.toArray⟩, .int .i64 x.2]] W (TruePost W q)) :
  Calls Tryz.prog 115 #[.agg #[.string ⟨x.1.toArray⟩, .int .i64 x.2], .pointer (some ⟨bx, 0, none⟩)] w (TruePost w (!q)) := by
 have c0 := hb.cell 0
 have hlt := hb.lt
 simp only [List.getElem?_toArray, List.getElem?_cons_zero] at c0
 have HC := Lib.hid HC
 go_enter Tryz.func115, Tryz.ntmps115
 go_wp2_with fail
 have HA := Lib.hid (show Keeps w _ [] from by first | exact Keeps.alloc w (.cells #[.string ⟨x.1.toArray⟩, .int .i64 x.2] 50) | exact Keeps.refl w _)
 refine (HC.out _ (by first | exact Keeps.refl _ _ | exact Keeps.alloc _ _)).mono ?_
 rintro e w1 ⟨rfl, hk⟩
 have HK := Lib.hid hk
 clear hk
 go_wp2_with fail
 go_ret
 exact ⟨rfl, by first | exact HK.out | exact (Keeps.alloc _ _).then_ HK.out⟩
set_option maxRecDepth 100000 in
set_option maxHeartbeats 1000000 in
theorem fitIdxW (w : World) (bx : Nat) (A : Option Addr) (c : Nat) (l : List (List UInt8 × Int)) (p : (List UInt8 × Int) → Bool) (hL : ListG w 2 wantC A l) (hl : l.length ≤ 1000000)
  (HC : ∀ W, Keeps w W [] → ∀ x ∈ l, Calls Tryz.prog 115 #[.agg #[.string ⟨x.1.toArray⟩, .int .i64 x.2], .pointer (some ⟨bx, 0, none⟩)] W (TruePost W (p x))) :
  Calls Tryz.prog 153 #[.slice A l.length c, .func (.func 115) #[] #[.pointer (some ⟨bx, 0, none⟩)]] w fun e w' => e = .returned (.int .i64 (fIdx p l)) ∧ Keeps w w' [] := by
 have HC := Lib.hid HC
 have HL := Lib.hid hL
 clear hL
 go_enter Tryz.func153, Tryz.ntmps153
 go_wp2_with fail
 go_loopw [8] (fun i wr => ∃ j : Nat, j ≤ l.length ∧ i = .int .i64 j ∧ Hid ((l.take j).all (fun x => !p x) = true ∧ Keeps w wr [])) (fun i _ => l.length - (intOf i).toNat)
 case atStart => exact ⟨0, by omega, rfl, Lib.hid ⟨rfl, Keeps.refl _ _⟩⟩
 case round =>
  obtain ⟨j, hj, rfl, HJ⟩ := hrel
  by_cases hjl : j < l.length
  ·obtain ⟨b, o, cs, rfl, hr, hc⟩ := HL.out (by omega)
   have hr1 := hr.keeps HJ.out.2
   have hc1 := hc j hjl
   have HF := Lib.hid (fun h => fIdx_take (p := p) (j := j) hjl HJ.out.1 h)
   have HCX := Lib.hid (HC.out wr HJ.out.2 l[j] (List.getElem_mem _))
   have HP := Lib.hid (fun h => fIdx_found (p := p) (j := j) hjl HJ.out.1 h)
   obtain ⟨q, hq⟩ : ∃ q, p l[j] = q := ⟨_, rfl⟩
   rw [hq] at HCX HP HF
   generalize l[j] = x at hc1 HCX hq
   clear hq
   have m0 := (hr1.cell (o + j * 2 + 0)).trans (hc1 0 (by omega))
   have m1 := (hr1.cell (o + j * 2 + 1)).trans (hc1 1 (by omega))
   simp only [wantC, List.getElem?_cons_zero, List.getElem?_cons_succ, Nat.add_zero] at m0 m1
   clear hc hc1 hr hr1
   go_wp2_with fail
   refine HCX.out.mono ?_
   rintro e w3 ⟨rfl, hk3⟩
   have HK := Lib.hid (HJ.out.2.then_ hk3)
   clear hk3 HCX
   cases q with
   | true =>
    go_wp2_with fail
    go_ret
    exact ⟨by rw [HP.out (by first | rfl | trivial)]; rfl, HK.out⟩
   | false =>
    go_wp2_with fail
    exact ⟨⟨j + 1, by omega, by go_num, Lib.hid ⟨HF.out (by first | rfl | trivial), HK.out⟩⟩, by simp [intOf]; omega⟩
  ·obtain rfl : j = l.length := by omega
   have HN := Lib.hid (fIdx_none (p := p) (l := l) (by have := HJ.out.1; rwa [List.take_length] at this))
   go_wp2_with fail
   go_ret
   exact ⟨by rw [HN.out]; rfl, HJ.out.2⟩
set_option maxRecDepth 100000 in
set_option maxHeartbeats 400000 in
theorem fitAnyW (w : World) (bx : Nat) (A : Option Addr) (c : Nat) (l : List (List UInt8 × Int)) (p : (List UInt8 × Int) → Bool) (hL : ListG w 2 wantC A l) (hl : l.length ≤ 1000000)
  (HC : ∀ W, Keeps w W [] → ∀ x ∈ l, Calls Tryz.prog 115 #[.agg #[.string ⟨x.1.toArray⟩, .int .i64 x.2], .pointer (some ⟨bx, 0, none⟩)] W (TruePost W (p x))) :
  Calls Tryz.prog 114 #[.slice A l.length c, .func (.func 115) #[] #[.pointer (some ⟨bx, 0, none⟩)]] w (TruePost w (l.any p)) := by
 have H := Lib.hid (fitIdxW w bx A c l p hL hl HC)
 have HA := Lib.hid (fIdx_any p l)
 generalize fIdx p l = i at H HA
 clear hL HC
 obtain ⟨q, hq⟩ : ∃ q, l.any p = q := ⟨_, rfl⟩
 rw [hq] at HA ⊢
 have hi := HA.out
 go_enter Tryz.func114, Tryz.ntmps114
 go_wp2_with fail
 refine H.out.mono ?_
 rintro e w1 ⟨rfl, hk⟩
 have HK := Lib.hid hk
 clear hk
 go_wp2_with fail
 go_ret
 exact ⟨rfl, HK.out⟩
set_option maxRecDepth 100000 in
set_option maxHeartbeats 400000 in
theorem fitOfW (w : World) (A : Option Addr) (c : Nat) (l : List (List UInt8 × Int)) (p : (List UInt8 × Int) → Bool) (hL : ListG w 2 wantC A l) (hl : l.length ≤ 1000000)
  (HC : ∀ W, Keeps w W [] → ∀ x ∈ l, Calls Tryz.prog 63 #[.agg #[.string ⟨x.1.toArray⟩, .int .i64 x.2]] W (TruePost W (p x))) :
  Calls Tryz.prog 62 #[.slice A l.length c, .func (.func 63) #[] #[]] w (TruePost w (pkMany l p)) := by
 obtain ⟨W0, hW0⟩ : ∃ W0, w.alloc (.cells #[.func (.func 63) #[] #[]] 104) = W0 := ⟨_, rfl⟩
 have k0 : Keeps w W0 [] := by rw [← hW0]; exact Keeps.alloc _ _
 have r0 : Row W0 w.heap.size 104 #[.func (.func 63) #[] #[]] := by rw [← hW0]; exact Row.new _ _ _
 have HI := Lib.hid (fitAnyW W0 w.heap.size A c l (fun x => !p x) (hL.keeps k0) hl (fun W hW x hx => fitOneW W w.heap.size x (p x) (r0.keeps hW) (fun W2 hW2 => HC W2 ((k0.then_ hW).then_ hW2) x hx)))
 have HK := Lib.hid k0
 clear k0 r0 hL
 obtain ⟨q, hq⟩ : ∃ q, (l.any fun x => !p x) = q := ⟨_, rfl⟩
 rw [hq] at HI
 have e : l.all p = !q := by
  rw [← hq, List.not_any_eq_all_not]
  simp
 clear hq HC
 by_cases h1 : 1 ≤ l.length
 ·have d1 : decide ((l.length : Int) ≥ 1) = true := decide_eq_true (by omega)
  by_cases h2 : l.length ≤ 8
  ·have d2 : decide ((l.length : Int) ≤ 8) = true := decide_eq_true (by omega)
   have HX := Lib.hid (show pkMany l p = !q by unfold pkMany; rw [decide_eq_true h1, decide_eq_true h2, e]; rfl)
   go_enter Tryz.func62, Tryz.ntmps62
   go_wp2_with fail
   refine HI.out.mono ?_
   rintro e w1 ⟨rfl, hk⟩
   have HK2 := Lib.hid hk
   clear hk
   go_wp2_with fail
   go_ret
   exact ⟨by rw [HX.out]; rfl, HK.out.then_ HK2.out⟩
  ·have d2 : decide ((l.length : Int) ≤ 8) = false := decide_eq_false (by omega)
   have HX := Lib.hid (show pkMany l p = false by unfold pkMany; rw [decide_eq_false h2]; simp)
   go_enter Tryz.func62, Tryz.ntmps62
   go_wp2_with fail
   go_ret
   exact ⟨by rw [HX.out]; rfl, HK.out⟩
 ·have d1 : decide ((l.length : Int) ≥ 1) = false := decide_eq_false (by omega)
  have HX := Lib.hid (show pkMany l p = false by unfold pkMany; rw [decide_eq_false h1]; rfl)
  go_enter Tryz.func62, Tryz.ntmps62
  go_wp2_with fail
  go_ret
  exact ⟨by rw [HX.out]; rfl, HK.out⟩
set_option maxRecDepth 100000 in
set_option maxHeartbeats 400000 in
theorem fitOneC (w : World) (bx : Nat) (x : Int) (q : Bool) (hb : Row w bx 103 #[.func (.func 75) #[] #[]]) (HC : ∀ W, Keeps w W [] → Calls Tryz.prog 75 #[.int .i64 x] W (TruePost W q)) :
  Calls Tryz.prog 122 #[.int .i64 x, .pointer (some ⟨bx, 0, none⟩)] w (TruePost w (!q)) := by
 have c0 := hb.cell 0
 have hlt := hb.lt
 simp only [List.getElem?_toArray, List.getElem?_cons_zero] at c0
 have HC := Lib.hid HC
 go_enter Tryz.func122, Tryz.ntmps122
 go_wp2_with fail
 have HA := Lib.hid (show Keeps w _ [] from by first | exact Keeps.alloc w (.cells #[.string ⟨x.1.toArray⟩, .int .i64 x.2] 50) | exact Keeps.refl w _)
 refine (HC.out _ (by first | exact Keeps.refl _ _ | exact Keeps.alloc _ _)).mono ?_
 rintro e w1 ⟨rfl, hk⟩
 have HK := Lib.hid hk
 clear hk
 go_wp2_with fail
 go_ret
 exact ⟨rfl, by first | exact HK.out | exact (Keeps.alloc _ _).then_ HK.out⟩
set_option maxRecDepth 100000 in
set_option maxHeartbeats 1000000 in
theorem fitIdxC (w : World) (bx : Nat) (A : Option Addr) (c : Nat) (l : List Int) (p : Int → Bool) (hL : ListG w 1 intC A l) (hl : l.length ≤ 1000000)
  (HC : ∀ W, Keeps w W [] → ∀ x ∈ l, Calls Tryz.prog 122 #[.int .i64 x, .pointer (some ⟨bx, 0, none⟩)] W (TruePost W (p x))) :
  Calls Tryz.prog 158 #[.slice A l.length c, .func (.func 122) #[] #[.pointer (some ⟨bx, 0, none⟩)]] w fun e w' => e = .returned (.int .i64 (fIdx p l)) ∧ Keeps w w' [] := by
 have HC := Lib.hid HC
 have HL := Lib.hid hL
 clear hL
 go_enter Tryz.func158, Tryz.ntmps158
 go_wp2_with fail
 go_loopw [8] (fun i wr => ∃ j : Nat, j ≤ l.length ∧ i = .int .i64 j ∧ Hid ((l.take j).all (fun x => !p x) = true ∧ Keeps w wr [])) (fun i _ => l.length - (intOf i).toNat)
 case atStart => exact ⟨0, by omega, rfl, Lib.hid ⟨rfl, Keeps.refl _ _⟩⟩
 case round =>
  obtain ⟨j, hj, rfl, HJ⟩ := hrel
  by_cases hjl : j < l.length
  ·obtain ⟨b, o, cs, rfl, hr, hc⟩ := HL.out (by omega)
   have hr1 := hr.keeps HJ.out.2
   have hc1 := hc j hjl
   have HF := Lib.hid (fun h => fIdx_take (p := p) (j := j) hjl HJ.out.1 h)
   have HCX := Lib.hid (HC.out wr HJ.out.2 l[j] (List.getElem_mem _))
   have HP := Lib.hid (fun h => fIdx_found (p := p) (j := j) hjl HJ.out.1 h)
   obtain ⟨q, hq⟩ : ∃ q, p l[j] = q := ⟨_, rfl⟩
   rw [hq] at HCX HP HF
   generalize l[j] = x at hc1 HCX hq
   clear hq
   have m0 := (hr1.cell (o + j * 1 + 0)).trans (hc1 0 (by omega))
   simp only [intC, List.getElem?_cons_zero, Nat.mul_one, Nat.add_zero] at m0
   clear hc hc1 hr hr1
   go_wp2_with fail
   refine HCX.out.mono ?_
   rintro e w3 ⟨rfl, hk3⟩
   have HK := Lib.hid (HJ.out.2.then_ hk3)
   clear hk3 HCX
   cases q with
   | true =>
    go_wp2_with fail
    go_ret
    exact ⟨by rw [HP.out (by first | rfl | trivial)]; rfl, HK.out⟩
   | false =>
    go_wp2_with fail
    exact ⟨⟨j + 1, by omega, by go_num, Lib.hid ⟨HF.out (by first | rfl | trivial), HK.out⟩⟩, by simp [intOf]; omega⟩
  ·obtain rfl : j = l.length := by omega
   have HN := Lib.hid (fIdx_none (p := p) (l := l) (by have := HJ.out.1; rwa [List.take_length] at this))
   go_wp2_with fail
   go_ret
   exact ⟨by rw [HN.out]; rfl, HJ.out.2⟩
set_option maxRecDepth 100000 in
set_option maxHeartbeats 400000 in
theorem fitAnyC (w : World) (bx : Nat) (A : Option Addr) (c : Nat) (l : List Int) (p : Int → Bool) (hL : ListG w 1 intC A l) (hl : l.length ≤ 1000000)
  (HC : ∀ W, Keeps w W [] → ∀ x ∈ l, Calls Tryz.prog 122 #[.int .i64 x, .pointer (some ⟨bx, 0, none⟩)] W (TruePost W (p x))) :
  Calls Tryz.prog 121 #[.slice A l.length c, .func (.func 122) #[] #[.pointer (some ⟨bx, 0, none⟩)]] w (TruePost w (l.any p)) := by
 have H := Lib.hid (fitIdxC w bx A c l p hL hl HC)
 have HA := Lib.hid (fIdx_any p l)
 generalize fIdx p l = i at H HA
 clear hL HC
 obtain ⟨q, hq⟩ : ∃ q, l.any p = q := ⟨_, rfl⟩
 rw [hq] at HA ⊢
 have hi := HA.out
 go_enter Tryz.func121, Tryz.ntmps121
 go_wp2_with fail
 refine H.out.mono ?_
 rintro e w1 ⟨rfl, hk⟩
 have HK := Lib.hid hk
 clear hk
 go_wp2_with fail
 go_ret
 exact ⟨rfl, HK.out⟩
set_option maxRecDepth 100000 in
set_option maxHeartbeats 400000 in
theorem fitOfC (w : World) (A : Option Addr) (c : Nat) (l : List Int) (p : Int → Bool) (hL : ListG w 1 intC A l) (hl : l.length ≤ 1000000)
  (HC : ∀ W, Keeps w W [] → ∀ x ∈ l, Calls Tryz.prog 75 #[.int .i64 x] W (TruePost W (p x))) :
  Calls Tryz.prog 74 #[.slice A l.length c, .func (.func 75) #[] #[]] w (TruePost w (pkMany l p)) := by
 obtain ⟨W0, hW0⟩ : ∃ W0, w.alloc (.cells #[.func (.func 75) #[] #[]] 103) = W0 := ⟨_, rfl⟩
 have k0 : Keeps w W0 [] := by rw [← hW0]; exact Keeps.alloc _ _
 have r0 : Row W0 w.heap.size 103 #[.func (.func 75) #[] #[]] := by rw [← hW0]; exact Row.new _ _ _
 have HI := Lib.hid (fitAnyC W0 w.heap.size A c l (fun x => !p x) (hL.keeps k0) hl (fun W hW x hx => fitOneC W w.heap.size x (p x) (r0.keeps hW) (fun W2 hW2 => HC W2 ((k0.then_ hW).then_ hW2) x hx)))
 have HK := Lib.hid k0
 clear k0 r0 hL
 obtain ⟨q, hq⟩ : ∃ q, (l.any fun x => !p x) = q := ⟨_, rfl⟩
 rw [hq] at HI
 have e : l.all p = !q := by
  rw [← hq, List.not_any_eq_all_not]
  simp
 clear hq HC
 by_cases h1 : 1 ≤ l.length
 ·have d1 : decide ((l.length : Int) ≥ 1) = true := decide_eq_true (by omega)
  by_cases h2 : l.length ≤ 8
  ·have d2 : decide ((l.length : Int) ≤ 8) = true := decide_eq_true (by omega)
   have HX := Lib.hid (show pkMany l p = !q by unfold pkMany; rw [decide_eq_true h1, decide_eq_true h2, e]; rfl)
   go_enter Tryz.func74, Tryz.ntmps74
   go_wp2_with fail
   refine HI.out.mono ?_
   rintro e w1 ⟨rfl, hk⟩
   have HK2 := Lib.hid hk
   clear hk
   go_wp2_with fail
   go_ret
   exact ⟨by rw [HX.out]; rfl, HK.out.then_ HK2.out⟩
  ·have d2 : decide ((l.length : Int) ≤ 8) = false := decide_eq_false (by omega)
   have HX := Lib.hid (show pkMany l p = false by unfold pkMany; rw [decide_eq_false h2]; simp)
   go_enter Tryz.func74, Tryz.ntmps74
   go_wp2_with fail
   go_ret
   exact ⟨by rw [HX.out]; rfl, HK.out⟩
 ·have d1 : decide ((l.length : Int) ≥ 1) = false := decide_eq_false (by omega)
  have HX := Lib.hid (show pkMany l p = false by unfold pkMany; rw [decide_eq_false h1]; rfl)
  go_enter Tryz.func74, Tryz.ntmps74
  go_wp2_with fail
  go_ret
  exact ⟨by rw [HX.out]; rfl, HK.out⟩
set_option maxRecDepth 100000 in
set_option maxHeartbeats 400000 in
theorem fitOneF (w : World) (bx : Nat) (x : (List UInt8)) (q : Bool) (hb : Row w bx 64 #[.func (.func 64) #[] #[]]) (HC : ∀ W, Keeps w W [] → Calls Tryz.prog 64 #[.string ⟨x.toArray⟩] W (TruePost W q)) :
  Calls Tryz.prog 124 #[.string ⟨x.toArray⟩, .pointer (some ⟨bx, 0, none⟩)] w (TruePost w (!q)) := by
 have c0 := hb.cell 0
 have hlt := hb.lt
 simp only [List.getElem?_toArray, List.getElem?_cons_zero] at c0
 have HC := Lib.hid HC
 go_enter Tryz.func124, Tryz.ntmps124
 go_wp2_with fail
 have HA := Lib.hid (show Keeps w _ [] from by first | exact Keeps.alloc w (.cells #[.string ⟨x.1.toArray⟩, .int .i64 x.2] 50) | exact Keeps.refl w _)
 refine (HC.out _ (by first | exact Keeps.refl _ _ | exact Keeps.alloc _ _)).mono ?_
 rintro e w1 ⟨rfl, hk⟩
 have HK := Lib.hid hk
 clear hk
 go_wp2_with fail
 go_ret
 exact ⟨rfl, by first | exact HK.out | exact (Keeps.alloc _ _).then_ HK.out⟩
set_option maxRecDepth 100000 in
set_option maxHeartbeats 1000000 in
theorem fitIdxF (w : World) (bx : Nat) (A : Option Addr) (c : Nat) (l : List (List UInt8)) (p : (List UInt8) → Bool) (hL : ListG w 1 txtV A l) (hl : l.length ≤ 1000000)
  (HC : ∀ W, Keeps w W [] → ∀ x ∈ l, Calls Tryz.prog 124 #[.string ⟨x.toArray⟩, .pointer (some ⟨bx, 0, none⟩)] W (TruePost W (p x))) :
  Calls Tryz.prog 159 #[.slice A l.length c, .func (.func 124) #[] #[.pointer (some ⟨bx, 0, none⟩)]] w fun e w' => e = .returned (.int .i64 (fIdx p l)) ∧ Keeps w w' [] := by
 have HC := Lib.hid HC
 have HL := Lib.hid hL
 clear hL
 go_enter Tryz.func159, Tryz.ntmps159
 go_wp2_with fail
 go_loopw [8] (fun i wr => ∃ j : Nat, j ≤ l.length ∧ i = .int .i64 j ∧ Hid ((l.take j).all (fun x => !p x) = true ∧ Keeps w wr [])) (fun i _ => l.length - (intOf i).toNat)
 case atStart => exact ⟨0, by omega, rfl, Lib.hid ⟨rfl, Keeps.refl _ _⟩⟩
 case round =>
  obtain ⟨j, hj, rfl, HJ⟩ := hrel
  by_cases hjl : j < l.length
  ·obtain ⟨b, o, cs, rfl, hr, hc⟩ := HL.out (by omega)
   have hr1 := hr.keeps HJ.out.2
   have hc1 := hc j hjl
   have HF := Lib.hid (fun h => fIdx_take (p := p) (j := j) hjl HJ.out.1 h)
   have HCX := Lib.hid (HC.out wr HJ.out.2 l[j] (List.getElem_mem _))
   have HP := Lib.hid (fun h => fIdx_found (p := p) (j := j) hjl HJ.out.1 h)
   obtain ⟨q, hq⟩ : ∃ q, p l[j] = q := ⟨_, rfl⟩
   rw [hq] at HCX HP HF
   generalize l[j] = x at hc1 HCX hq
   clear hq
   have m0 := (hr1.cell (o + j * 1 + 0)).trans (hc1 0 (by omega))
   simp only [txtV, List.getElem?_cons_zero, Nat.mul_one, Nat.add_zero] at m0
   clear hc hc1 hr hr1
   go_wp2_with fail
   refine HCX.out.mono ?_
   rintro e w3 ⟨rfl, hk3⟩
   have HK := Lib.hid (HJ.out.2.then_ hk3)
   clear hk3 HCX
   cases q with
   | true =>
    go_wp2_with fail
    go_ret
    exact ⟨by rw [HP.out (by first | rfl | trivial)]; rfl, HK.out⟩
   | false =>
    go_wp2_with fail
    exact ⟨⟨j + 1, by omega, by go_num, Lib.hid ⟨HF.out (by first | rfl | trivial), HK.out⟩⟩, by simp [intOf]; omega⟩
  ·obtain rfl : j = l.length := by omega
   have HN := Lib.hid (fIdx_none (p := p) (l := l) (by have := HJ.out.1; rwa [List.take_length] at this))
   go_wp2_with fail
   go_ret
   exact ⟨by rw [HN.out]; rfl, HJ.out.2⟩
set_option maxRecDepth 100000 in
set_option maxHeartbeats 400000 in
theorem fitAnyF (w : World) (bx : Nat) (A : Option Addr) (c : Nat) (l : List (List UInt8)) (p : (List UInt8) → Bool) (hL : ListG w 1 txtV A l) (hl : l.length ≤ 1000000)
  (HC : ∀ W, Keeps w W [] → ∀ x ∈ l, Calls Tryz.prog 124 #[.string ⟨x.toArray⟩, .pointer (some ⟨bx, 0, none⟩)] W (TruePost W (p x))) :
  Calls Tryz.prog 123 #[.slice A l.length c, .func (.func 124) #[] #[.pointer (some ⟨bx, 0, none⟩)]] w (TruePost w (l.any p)) := by
 have H := Lib.hid (fitIdxF w bx A c l p hL hl HC)
 have HA := Lib.hid (fIdx_any p l)
 generalize fIdx p l = i at H HA
 clear hL HC
 obtain ⟨q, hq⟩ : ∃ q, l.any p = q := ⟨_, rfl⟩
 rw [hq] at HA ⊢
 have hi := HA.out
 go_enter Tryz.func123, Tryz.ntmps123
 go_wp2_with fail
 refine H.out.mono ?_
 rintro e w1 ⟨rfl, hk⟩
 have HK := Lib.hid hk
 clear hk
 go_wp2_with fail
 go_ret
 exact ⟨rfl, HK.out⟩
set_option maxRecDepth 100000 in
set_option maxHeartbeats 400000 in
theorem fitOfF (w : World) (A : Option Addr) (c : Nat) (l : List (List UInt8)) (p : (List UInt8) → Bool) (hL : ListG w 1 txtV A l) (hl : l.length ≤ 1000000)
  (HC : ∀ W, Keeps w W [] → ∀ x ∈ l, Calls Tryz.prog 64 #[.string ⟨x.toArray⟩] W (TruePost W (p x))) :
  Calls Tryz.prog 82 #[.slice A l.length c, .func (.func 64) #[] #[]] w (TruePost w (pkMany l p)) := by
 obtain ⟨W0, hW0⟩ : ∃ W0, w.alloc (.cells #[.func (.func 64) #[] #[]] 64) = W0 := ⟨_, rfl⟩
 have k0 : Keeps w W0 [] := by rw [← hW0]; exact Keeps.alloc _ _
 have r0 : Row W0 w.heap.size 64 #[.func (.func 64) #[] #[]] := by rw [← hW0]; exact Row.new _ _ _
 have HI := Lib.hid (fitAnyF W0 w.heap.size A c l (fun x => !p x) (hL.keeps k0) hl (fun W hW x hx => fitOneF W w.heap.size x (p x) (r0.keeps hW) (fun W2 hW2 => HC W2 ((k0.then_ hW).then_ hW2) x hx)))
 have HK := Lib.hid k0
 clear k0 r0 hL
 obtain ⟨q, hq⟩ : ∃ q, (l.any fun x => !p x) = q := ⟨_, rfl⟩
 rw [hq] at HI
 have e : l.all p = !q := by
  rw [← hq, List.not_any_eq_all_not]
  simp
 clear hq HC
 by_cases h1 : 1 ≤ l.length
 ·have d1 : decide ((l.length : Int) ≥ 1) = true := decide_eq_true (by omega)
  by_cases h2 : l.length ≤ 8
  ·have d2 : decide ((l.length : Int) ≤ 8) = true := decide_eq_true (by omega)
   have HX := Lib.hid (show pkMany l p = !q by unfold pkMany; rw [decide_eq_true h1, decide_eq_true h2, e]; rfl)
   go_enter Tryz.func82, Tryz.ntmps82
   go_wp2_with fail
   refine HI.out.mono ?_
   rintro e w1 ⟨rfl, hk⟩
   have HK2 := Lib.hid hk
   clear hk
   go_wp2_with fail
   go_ret
   exact ⟨by rw [HX.out]; rfl, HK.out.then_ HK2.out⟩
  ·have d2 : decide ((l.length : Int) ≤ 8) = false := decide_eq_false (by omega)
   have HX := Lib.hid (show pkMany l p = false by unfold pkMany; rw [decide_eq_false h2]; simp)
   go_enter Tryz.func82, Tryz.ntmps82
   go_wp2_with fail
   go_ret
   exact ⟨by rw [HX.out]; rfl, HK.out⟩
 ·have d1 : decide ((l.length : Int) ≥ 1) = false := decide_eq_false (by omega)
  have HX := Lib.hid (show pkMany l p = false by unfold pkMany; rw [decide_eq_false h1]; rfl)
  go_enter Tryz.func82, Tryz.ntmps82
  go_wp2_with fail
  go_ret
  exact ⟨by rw [HX.out]; rfl, HK.out⟩
end Go.Proofs.YtahbikfbjenfpaaGreatDoor
