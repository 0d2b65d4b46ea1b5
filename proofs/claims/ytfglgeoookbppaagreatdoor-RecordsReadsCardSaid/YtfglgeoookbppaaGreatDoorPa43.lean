/- Package pigeonryref18: Raw. Reference 19: Key. -/
import Derived.Test.YtfglgeoookbppaaGreatDoorPa42
import Derived.Test.YtfglgeoookbppaaGreatDoorPa13
import Derived.Test.YtfglgeoookbppaaGreatDoorPa41
import Derived.Test.YtfglgeoookbppaaGreatDoorPa22
import Derived.Test.YtfglgeoookbppaaGreatDoorPa26

namespace Go.Proofs.YtfglgeoookbppaaGreatDoor
open Go.RowKit

theorem refPart_any (p : KP) (hp : p.Ok) (hm : kMay p = true) (hs : p.s.length ≤ 1000) (w : World) :
  Calls Tryz.prog 83 #[kpV p] w fun e w' => e = .returned (strV (kPart p)) ∧ Keeps w w' [] := by
 have hk := kMay_kind hm
 have n1 := hp.n1
 have n2 := hp.n2
 have f1 := hp.f
 obtain ⟨k, n, f, s⟩ := p
 dsimp only at hk n1 n2 f1 hs
 rcases hk with rfl | rfl | rfl
 ·exact refPart_int n f s n1 n2 w
 ·exact refPart_float n f s f1 w
 ·exact refPart_text n f s hs w

set_option maxRecDepth 100000 in
set_option maxHeartbeats 4000000 in
theorem refRaw_any (w : World) (A : Option Addr) (c : Nat) (l : List KP) (hok : ∀ p ∈ l, p.Ok) (hL : Lies w w.heap.size A (kFlat l)) (hl : l.length ≤ 100) (hs : ∀ p ∈ l, p.s.length ≤ 1000) :
  Calls Tryz.prog 33 #[.slice A l.length c] w fun e w' => e = .returned (.tuple #[strV (if kErr l = 0 then kRaw l else []), .int .i64 (kErr l : Nat)]) ∧ Keeps w w' [] := by
 obtain ⟨V, hV⟩ : ∃ V : List UInt8, (if kErr l = 0 then kRaw l else []) = V := ⟨_, rfl⟩
 obtain ⟨E, hE⟩ : ∃ E : Nat, kErr l = E := ⟨_, rfl⟩
 rw [hV, hE]
 rw [hE] at hV
 have HE := Lib.hid hE
 have HV := Lib.hid hV
 clear hE hV
 unfold strV
 have hsf := @run_store_float Tryz.prog
 go_enter Tryz.func33, Tryz.ntmps33
 go_wp2_with fail
 go_loopw [5] (fun i wr => ∃ j : Nat, j ≤ l.length ∧ i = .int .i64 j ∧ Hid ((l.take j).all kMay = true) ∧ Keeps w wr []) (fun i _ => l.length - (intOf i).toNat)
 case atStart => exact ⟨0, by omega, rfl, Lib.hid rfl, Keeps.refl _ _⟩
 case round =>
  obtain ⟨j, hj, rfl, HA, hkp⟩ := hrel
  have HK := Lib.hid hkp
  clear hkp
  by_cases hjl : j < l.length
  ·obtain ⟨b, o, rfl, hb, hc⟩ := kpAt hL (Nat.le_refl _) hjl
   obtain ⟨c0, c1, c2, c3⟩ := hc wr HK.out
   have HN := Lib.hid (show kMay l[j] = false → kErr l = 2 from kErr_no hjl)
   have HT := Lib.hid (show kMay l[j] = true → (l.take (j + 1)).all kMay = true from fun h => all_take hjl HA.out h)
   obtain ⟨p, hpd⟩ : ∃ p, l[j] = p := ⟨_, rfl⟩
   rw [hpd] at c0 c1 c2 c3 HN HT
   have HM := Lib.hid (fun W => refMay_any p W)
   have HP := Lib.hid hpd
   obtain ⟨B, hB⟩ : ∃ B, kMay p = B := ⟨_, rfl⟩
   rw [hB] at HN HT HM
   clear hc hpd hB hb
   obtain ⟨k, n, f, s⟩ := p
   simp only [strV] at c3
   simp only [kpV, strV] at HM
   go_wp2_with fail
   refine (HM.out _).mono ?_
   rintro e w1 ⟨rfl, hk⟩
   have HK1 := Lib.hid (HK.out.trans hk (by simp))
   clear hk c0 c1 c2 c3
   cases B
   ·have h2 : E = 2 := by rw [← HE.out]; exact HN.out rfl
    have hv : V = [] := by rw [← HV.out, h2]; rfl
    subst h2 hv
    go_wp2_with fail
    go_ret2
    exact ⟨rfl, HK1.out⟩
   ·have HA1 := Lib.hid (HT.out rfl)
    go_wp2_with fail
    exact ⟨⟨j + 1, by omega, by go_num, HA1, HK1.out⟩, by simp [intOf]; omega⟩
  ·obtain rfl : j = l.length := by omega
   have ha := HA.out
   rw [List.take_length] at ha
   have HEE := Lib.hid (show E = if l.length = 0 ∨ 4 < l.length then 2 else if 48 < (kRaw l).length then 3 else 0 by rw [← HE.out]; unfold kErr; rw [if_pos ha])
   have HM := Lib.hid (List.all_eq_true.1 ha)
   clear ha
   by_cases h4 : (l.length : Int) < 1 ∨ (l.length : Int) > 4
   ·have h2 : E = 2 := by rw [HEE.out, if_pos (by omega)]
    have hv : V = [] := by rw [← HV.out, h2]; rfl
    subst h2 hv
    rcases h4 with h4 | h4
    ·go_wp2_with fail
     go_ret2
     exact ⟨rfl, HK.out⟩
    ·have h5 : ¬ ((l.length : Int) < 1) := by omega
     go_wp2_with fail
     go_ret2
     exact ⟨rfl, HK.out⟩
   ·have h5 : ¬ ((l.length : Int) < 1) := by omega
    have h6 : ¬ ((l.length : Int) > 4) := by omega
    have HE3 := Lib.hid (show E = if 48 < (kRaw l).length then 3 else 0 by rw [HEE.out, if_neg (by omega)])
    have HLEN := Lib.hid (kRaw_length hs)
    clear h4 hsf
    go_wp2_with fail
    go_loopw [4, 6] (fun v i wr' => ∃ j : Nat, j ≤ l.length ∧ v = .string ⟨(kRaw (l.take j)).toArray⟩ ∧ i = .int .i64 j ∧ Keeps w wr' []) (fun _ i _ => l.length - (intOf i).toNat)
    case atStart => exact ⟨0, by omega, rfl, rfl, HK.out⟩
    case round =>
     obtain ⟨j, hj, rfl, rfl, hkp⟩ := hrel
     clear HK
     have HK := Lib.hid hkp
     clear hkp
     by_cases hjl : j < l.length
     ·obtain ⟨b, o, rfl, hb, hc⟩ := kpAt hL (Nat.le_refl _) hjl
      obtain ⟨c0, c1, c2, c3⟩ := hc _ HK.out
      have HR := Lib.hid (kRaw_take hjl)
      have hRl := kRaw_length (l := l.take j) (fun p hp => hs p (List.mem_of_mem_take hp))
      have hPl := kPart_length (hs l[j] (List.getElem_mem _))
      have HP := Lib.hid (fun W => refPart_any l[j] (hok _ (List.getElem_mem _)) (HM.out _ (List.getElem_mem _)) (hs _ (List.getElem_mem _)) W)
      obtain ⟨p, hpd⟩ : ∃ p, l[j] = p := ⟨_, rfl⟩
      rw [hpd] at c0 c1 c2 c3 HR HP hPl
      obtain ⟨R, hR⟩ : ∃ R, kRaw (l.take j) = R := ⟨_, rfl⟩
      rw [hR] at HR hRl ⊢
      obtain ⟨T, hT⟩ : ∃ T, kPart p = T := ⟨_, rfl⟩
      rw [hT] at HR HP hPl
      have hRl2 : R.length ≤ 201000 := by
       rw [List.length_take] at hRl
       have : 2010 * min j l.length ≤ 2010 * 100 := Nat.mul_le_mul_left _ (by omega)
       omega
      have bc := Lib.hid (bytes_append R T)
      have s1 : (⟨R.toArray⟩ : ByteArray).size = R.length := by simp [ByteArray.size]
      have s2 : (⟨T.toArray⟩ : ByteArray).size = T.length := by simp [ByteArray.size]
      clear hc hpd hR hT hb hRl
      obtain ⟨k, n, f, s⟩ := p
      simp only [strV] at c3
      simp only [kpV, strV] at HP
      have HH := Lib.hid (And.intro hs hok)
      clear hs hok
      go_wp2_with fail
      refine (HP.out _).mono ?_
      rintro e w1 ⟨rfl, hk⟩
      have HK1 := Lib.hid (HK.out.trans hk (by simp))
      clear hk c0 c1 c2 c3
      go_wp2_with fail
      refine ⟨⟨j + 1, by omega, ?_, by go_num, HK1.out⟩, by simp [intOf]; omega⟩
      rw [HR.out]
      exact congrArg Value.string bc.out
     ·obtain rfl : j = l.length := by omega
      rw [List.take_length]
      have s1 : (⟨(kRaw l).toArray⟩ : ByteArray).size = (kRaw l).length := by simp [ByteArray.size]
      by_cases h48 : 48 < (kRaw l).length
      ·have h3 : E = 3 := by rw [HE3.out, if_pos h48]
       have hv : V = [] := by rw [← HV.out, h3]; rfl
       subst h3 hv
       have h7 : ((kRaw l).length : Int) > 48 := by omega
       go_wp2_with fail
       go_ret2
       exact ⟨rfl, HK.out⟩
      ·have h3 : E = 0 := by rw [HE3.out, if_neg h48]
       have hv : V = kRaw l := by rw [← HV.out, h3]; rfl
       subst h3 hv
       have h7 : ¬ (((kRaw l).length : Int) > 48) := by omega
       go_wp2_with fail
       go_ret2
       exact ⟨rfl, HK.out⟩
end Go.Proofs.YtfglgeoookbppaaGreatDoor

namespace Go.Proofs.YtfglgeoookbppaaGreatDoor
open Go.RowKit Go.Shelf

theorem rrRaw_own {w : World} {B n : Nat} {A : Option Addr} {c : Nat} {l : List KP} (h : OwnN w B 63 4 kpCells (.slice A n c) l) (hK : KeyOk l 48) : Calls Tryz.prog 33 #[.slice A n c] w fun e w' => e = .returned (.tuple #[strV (kRaw l), .int .i64 0]) ∧ Keeps w w' [] := by
 obtain ⟨A', c', e⟩ := OwnN.slice h
 injection e with e1 e2 e3
 subst e1 e2 e3
 have := refRaw_any w A c l (fun p hp => (hK.ok p hp).1) ((OwnN.at_ h encPart).lies encPart) (by have := hK.l; omega) (fun p hp => by have := hK.s p hp; omega)
 rw [hK.err, if_pos rfl] at this
 exact this
set_option maxRecDepth 100000 in
set_option maxHeartbeats 4000000 in
theorem rrKey_any (x : Rw) (p : Int) (w : World) (hx : x.Small) : Calls Tryz.prog 14 #[rwV x, .int .i64 p] w fun e w' => e = .returned (.tuple #[strV (rcKeyS x p), .bool (rcFits x p)]) ∧ Keeps w w' [] := by
 have C1 := Lib.hid (fun w => rrRight_any x w hx)
 have C2 := Lib.hid (fun w => rrPlaced_any w x.k)
 have CP := Lib.hid (fun h w => rrParts_any x w h (by have := hx.t; omega))
 have hsf := @run_store_float Tryz.prog
 obtain ⟨ok, hok⟩ : ∃ ok, rcOk x = ok := ⟨_, rfl⟩
 obtain ⟨pl, hpl⟩ : ∃ pl, rcPlaced x.k = pl := ⟨_, rfl⟩
 obtain ⟨L, hL⟩ : ∃ L, rcParts x.k x = L := ⟨_, rfl⟩
 have HF0 := Lib.hid (show rcFits x p = (ok && (inN p 0 2147483648 && (decide (p = 0) || pl))) by unfold rcFits; rw [hok, hpl])
 have HLL := Lib.hid (show rcKeyL x p = if pl = true then L ++ [kInt p] else L by unfold rcKeyL; rw [hL, hpl])
 have HKE := Lib.hid (fun h => rc_key (x := x) (p := p) h)
 have HL3 := Lib.hid (show ok = true → rcIs x.k = true ∧ L.length ≤ 2 from fun h => ⟨by
  have h1 := hok.trans h
  unfold rcOk at h1
  rw [Bool.and_eq_true] at h1
  exact h1.1, by rw [← hL]; exact (rc_parts (hok.trans h)).2⟩)
 rw [hok] at C1
 rw [hpl] at C2
 rw [hL] at CP
 clear hx hok hpl hL
 obtain ⟨k, c, seq, id, t, b, q, r, s⟩ := x
 simp only at HL3 C2
 obtain ⟨W0, hW0⟩ : ∃ W0, w.alloc (.cells #[.int .i64 k, .string ⟨c.toArray⟩, .int .i64 seq, .int .i64 id, .string ⟨t.toArray⟩, .string ⟨b.toArray⟩, .int .i64 q, .bool r, .int .i64 s] 25) = W0 := ⟨_, rfl⟩
 have k0 : Keeps w W0 [] := by rw [← hW0]; exact Keeps.alloc _ _
 have r0 : Row W0 w.heap.size 25 #[.int .i64 k, .string ⟨c.toArray⟩, .int .i64 seq, .int .i64 id, .string ⟨t.toArray⟩, .string ⟨b.toArray⟩, .int .i64 q, .bool r, .int .i64 s] := by rw [← hW0]; exact Row.new _ _ _
 have HR := Lib.hid (And.intro k0 r0)
 have x0 := r0.cell 0
 have x1 := r0.cell 1
 have x2 := r0.cell 2
 have x3 := r0.cell 3
 have x4 := r0.cell 4
 have x5 := r0.cell 5
 have x6 := r0.cell 6
 have x7 := r0.cell 7
 have x8 := r0.cell 8
 simp only [List.getElem?_toArray, List.getElem?_cons_zero, List.getElem?_cons_succ] at x0 x1 x2 x3 x4 x5 x6 x7 x8
 clear k0 r0
 go_enter Tryz.func14, Tryz.ntmps14
 go_wp2_with fail
 refine (C1.out _).mono ?_
 rintro e w1 ⟨rfl, hk⟩
 replace HR := Lib.hid (And.intro (HR.out.1.then_ hk) (HR.out.2.keeps hk))
 clear x0 x1 x2 x3 x4 x5 x6 x7 x8 hk hW0
 have rx := HR.out.2
 have x0 := rx.cell 0
 have x1 := rx.cell 1
 have x2 := rx.cell 2
 have x3 := rx.cell 3
 have x4 := rx.cell 4
 have x5 := rx.cell 5
 have x6 := rx.cell 6
 have x7 := rx.cell 7
 have x8 := rx.cell 8
 simp only [List.getElem?_toArray, List.getElem?_cons_zero, List.getElem?_cons_succ] at x0 x1 x2 x3 x4 x5 x6 x7 x8
 clear rx
 cases ok with
 | false =>
  have HF := Lib.hid (show rcFits _ p = false from HF0.out)
  go_wp2_with fail
  go_ret2
  exact ⟨by unfold rcKeyS; rw [HF.out]; rfl, HR.out.1⟩
 | true =>
  by_cases h1 : p < 0
  ·have d1 : decide (p < 0) = true := decide_eq_true h1
   have HF := Lib.hid (show rcFits _ p = false from HF0.out.trans (by
    have e : inN p 0 2147483648 = false := by unfold inN; simp; omega
    rw [e]; rfl))
   go_wp2_with fail
   go_ret2
   exact ⟨by unfold rcKeyS; rw [HF.out]; rfl, HR.out.1⟩
  ·have d1 : decide (p < 0) = false := decide_eq_false h1
   by_cases h2 : p > 2147483648
   ·have d2 : decide (p > 2147483648) = true := decide_eq_true h2
    have HF := Lib.hid (show rcFits _ p = false from HF0.out.trans (by
     have e : inN p 0 2147483648 = false := by unfold inN; simp; omega
     rw [e]; rfl))
    go_wp2_with fail
    go_ret2
    exact ⟨by unfold rcKeyS; rw [HF.out]; rfl, HR.out.1⟩
   ·have d2 : decide (p > 2147483648) = false := decide_eq_false h2
    have HI := Lib.hid (show inN p 0 2147483648 = true from inN_iff.2 ⟨by omega, by omega⟩)
    obtain ⟨hri, hL2⟩ := HL3.out rfl
    cases pl with
    | false =>
     by_cases h3 : p = 0
     ·subst h3
      have HF := Lib.hid (show rcFits _ 0 = true from HF0.out.trans (by rw [HI.out]; rfl))
      have hz : ((0 : Int) != 0) = false := rfl
      go_wp2_with fail
      refine (CP.out hri _).mono ?_
      rintro e w5 ⟨v, rfl, ho, hk⟩
      obtain ⟨A, cc, rfl⟩ := OwnN.slice ho
      replace HR := Lib.hid (And.intro (HR.out.1.then_ hk) (HR.out.2.keeps hk))
      have HLE := Lib.hid (HLL.out.trans (show (if _ then L ++ [kInt _] else L) = L by simp))
      have HKY := Lib.hid (rrRaw_own ho (by
       have := HKE.out HF.out
       rw [HLE.out] at this
       exact this))
      clear x0 x1 x2 x3 x4 x5 x6 x7 x8 hk ho
      have rx := HR.out.2
      have x0 := rx.cell 0
      have x1 := rx.cell 1
      have x2 := rx.cell 2
      have x3 := rx.cell 3
      have x4 := rx.cell 4
      have x5 := rx.cell 5
      have x6 := rx.cell 6
      have x7 := rx.cell 7
      have x8 := rx.cell 8
      simp only [List.getElem?_toArray, List.getElem?_cons_zero, List.getElem?_cons_succ] at x0 x1 x2 x3 x4 x5 x6 x7 x8
      clear rx
      go_wp2_with fail
      refine (C2.out _).mono ?_
      rintro e w6 ⟨rfl, rfl⟩
      have HK7 := Lib.hid HR.out.1
      go_wp2_with fail
      refine HKY.out.mono ?_
      rintro e w8 ⟨rfl, hk8⟩
      have HZ := Lib.hid (HK7.out.then_ hk8)
      clear hk8
      go_wp2_with fail
      go_ret2
      exact ⟨by unfold rcKeyS; rw [if_pos HF.out, HF.out, HLE.out]; rfl, HZ.out⟩
     ·have hz : (p != 0) = true := by simpa using h3
      have HF := Lib.hid (show rcFits _ p = false from HF0.out.trans (by rw [HI.out, decide_eq_false h3]; rfl))
      go_wp2_with fail
      refine (C2.out _).mono ?_
      rintro e w6 ⟨rfl, rfl⟩
      go_wp2_with fail
      go_ret2
      exact ⟨by unfold rcKeyS; rw [HF.out]; rfl, HR.out.1⟩
    | true =>
     have HF := Lib.hid (show rcFits _ p = true from HF0.out.trans (by rw [HI.out]; simp))
     have HLE := Lib.hid (HLL.out.trans (show (if _ then L ++ [kInt p] else L) = L ++ [kInt p] by simp))
     obtain ⟨nz, hz⟩ : ∃ nz, (p != 0) = nz := ⟨_, rfl⟩
     cases nz with
     | false =>
      go_wp2_with fail
      refine (CP.out hri _).mono ?_
      rintro e w5 ⟨v, rfl, ho, hk⟩
      obtain ⟨A, cc, rfl⟩ := OwnN.slice ho
      have hbs0 := HR.out.1.size
      replace HR := Lib.hid (And.intro (HR.out.1.then_ hk) (HR.out.2.keeps hk))
      have H5 := Lib.hid (And.intro ho (And.intro hk.size hbs0))
      clear x0 x1 x2 x3 x4 x5 x6 x7 x8 hk ho hbs0
      have rx := HR.out.2
      have x0 := rx.cell 0
      have x1 := rx.cell 1
      have x2 := rx.cell 2
      have x3 := rx.cell 3
      have x4 := rx.cell 4
      have x5 := rx.cell 5
      have x6 := rx.cell 6
      have x7 := rx.cell 7
      have x8 := rx.cell 8
      simp only [List.getElem?_toArray, List.getElem?_cons_zero, List.getElem?_cons_succ] at x0 x1 x2 x3 x4 x5 x6 x7 x8
      clear rx
      go_wp2_with fail
      refine (C2.out _).mono ?_
      rintro e w6 ⟨rfl, rfl⟩
      have HW := Lib.hid (show ∀ w : World, Calls Tryz.prog 32 #[.int .i64 p] w fun e w' => e = .returned (.agg #[.int .i64 1, .int .i64 p, .float .f64 0, .string ⟨#[]⟩]) ∧ Keeps w w' [] from fun w => rrWhole_any p w)
      go_wp2_with fail
      refine (HW.out _).mono ?_
      rintro e w7 ⟨rfl, hk6⟩
      obtain ⟨Wa, hWa⟩ : ∃ Wa, w7.alloc (.cells #[.int .i64 1, .int .i64 p, .float .f64 0, .string ⟨#[]⟩] 63) = Wa := ⟨_, rfl⟩
      have ra : Row Wa w7.heap.size 63 #[.int .i64 1, .int .i64 p, .float .f64 0, .string ⟨#[]⟩] := by rw [← hWa]; exact Row.new _ _ _
      have ka : Keeps w7 Wa [] := by rw [← hWa]; exact Keeps.alloc _ _
      have HLa := Lib.hid (show Lies Wa Wa.heap.size (some ⟨w7.heap.size, 0, none⟩) ([kInt p].flatMap kpCells) from lies_of_row ra rfl)
      have HA := Lib.hid (And.intro ((H5.out.1.keeps hk6).keeps ka) ((HR.out.1.then_ hk6).then_ ka))
      have hbs : w1.heap.size ≤ Wa.heap.size := by have := H5.out.2.1; have := hk6.size; have := ka.size; omega
      have hbs0 : w.heap.size ≤ w1.heap.size := H5.out.2.2
      clear ra ka hk6 x0 x1 x2 x3 x4 x5 x6 x7 x8
      go_wp2_with (at_builtin; refine wpList_append_N elemPart encPart rfl (.tmp 35) (.tmp 38) rfl w1.heap.size (.slice A L.length cc) (some ⟨w7.heap.size, 0, none⟩) 1 1 L [kInt p] rfl rfl rfl HA.out.1 HLa.out (by simp; omega) hbs ?_; intro A7 c7 w8 l7 hl7 hlen7 ho7 hk7 hb7; refine Hid.out ?_)
      refine Lib.hid ?_
      have hl7e : l7 = L ++ [kInt p] := hl7.out
      have HK7 := Lib.hid (show Keeps w w8 [] from HA.out.2.trans hk7 fun g hg hlt => by
       have := (HA.out.1.rows g hg).1
       omega)
      replace HLE := Lib.hid (HLE.out.trans hl7e.symm)
      have HKY := Lib.hid (rrRaw_own ho7 (by
       have := HKE.out HF.out
       rw [HLE.out] at this
       exact this))
      clear hl7 hlen7 ho7 hk7 hb7 hl7e HA HLa hWa hbs hbs0
      go_wp2_with fail
      refine HKY.out.mono ?_
      rintro e w8 ⟨rfl, hk8⟩
      have HZ := Lib.hid (HK7.out.then_ hk8)
      clear hk8
      go_wp2_with fail
      go_ret2
      exact ⟨by unfold rcKeyS; rw [if_pos HF.out, HF.out, HLE.out]; rfl, HZ.out⟩
     | true =>
      go_wp2_with fail
      refine (C2.out _).mono ?_
      rintro e w6 ⟨rfl, rfl⟩
      go_wp2_with fail
      refine (CP.out hri _).mono ?_
      rintro e w5 ⟨v, rfl, ho, hk⟩
      obtain ⟨A, cc, rfl⟩ := OwnN.slice ho
      have hbs0 := HR.out.1.size
      replace HR := Lib.hid (And.intro (HR.out.1.then_ hk) (HR.out.2.keeps hk))
      have H5 := Lib.hid (And.intro ho (And.intro hk.size hbs0))
      clear x0 x1 x2 x3 x4 x5 x6 x7 x8 hk ho hbs0
      have rx := HR.out.2
      have x0 := rx.cell 0
      have x1 := rx.cell 1
      have x2 := rx.cell 2
      have x3 := rx.cell 3
      have x4 := rx.cell 4
      have x5 := rx.cell 5
      have x6 := rx.cell 6
      have x7 := rx.cell 7
      have x8 := rx.cell 8
      simp only [List.getElem?_toArray, List.getElem?_cons_zero, List.getElem?_cons_succ] at x0 x1 x2 x3 x4 x5 x6 x7 x8
      clear rx
      go_wp2_with fail
      refine (C2.out _).mono ?_
      rintro e w6 ⟨rfl, rfl⟩
      have HW := Lib.hid (show ∀ w : World, Calls Tryz.prog 32 #[.int .i64 p] w fun e w' => e = .returned (.agg #[.int .i64 1, .int .i64 p, .float .f64 0, .string ⟨#[]⟩]) ∧ Keeps w w' [] from fun w => rrWhole_any p w)
      go_wp2_with fail
      refine (HW.out _).mono ?_
      rintro e w7 ⟨rfl, hk6⟩
      obtain ⟨Wa, hWa⟩ : ∃ Wa, w7.alloc (.cells #[.int .i64 1, .int .i64 p, .float .f64 0, .string ⟨#[]⟩] 63) = Wa := ⟨_, rfl⟩
      have ra : Row Wa w7.heap.size 63 #[.int .i64 1, .int .i64 p, .float .f64 0, .string ⟨#[]⟩] := by rw [← hWa]; exact Row.new _ _ _
      have ka : Keeps w7 Wa [] := by rw [← hWa]; exact Keeps.alloc _ _
      have HLa := Lib.hid (show Lies Wa Wa.heap.size (some ⟨w7.heap.size, 0, none⟩) ([kInt p].flatMap kpCells) from lies_of_row ra rfl)
      have HA := Lib.hid (And.intro ((H5.out.1.keeps hk6).keeps ka) ((HR.out.1.then_ hk6).then_ ka))
      have hbs : w1.heap.size ≤ Wa.heap.size := by have := H5.out.2.1; have := hk6.size; have := ka.size; omega
      have hbs0 : w.heap.size ≤ w1.heap.size := H5.out.2.2
      clear ra ka hk6 x0 x1 x2 x3 x4 x5 x6 x7 x8
      go_wp2_with (at_builtin; refine wpList_append_N elemPart encPart rfl (.tmp 35) (.tmp 38) rfl w1.heap.size (.slice A L.length cc) (some ⟨w7.heap.size, 0, none⟩) 1 1 L [kInt p] rfl rfl rfl HA.out.1 HLa.out (by simp; omega) hbs ?_; intro A7 c7 w8 l7 hl7 hlen7 ho7 hk7 hb7; refine Hid.out ?_)
      refine Lib.hid ?_
      have hl7e : l7 = L ++ [kInt p] := hl7.out
      have HK7 := Lib.hid (show Keeps w w8 [] from HA.out.2.trans hk7 fun g hg hlt => by
       have := (HA.out.1.rows g hg).1
       omega)
      replace HLE := Lib.hid (HLE.out.trans hl7e.symm)
      have HKY := Lib.hid (rrRaw_own ho7 (by
       have := HKE.out HF.out
       rw [HLE.out] at this
       exact this))
      clear hl7 hlen7 ho7 hk7 hb7 hl7e HA HLa hWa hbs hbs0
      go_wp2_with fail
      refine HKY.out.mono ?_
      rintro e w8 ⟨rfl, hk8⟩
      have HZ := Lib.hid (HK7.out.then_ hk8)
      clear hk8
      go_wp2_with fail
      go_ret2
      exact ⟨by unfold rcKeyS; rw [if_pos HF.out, HF.out, HLE.out]; rfl, HZ.out⟩
end Go.Proofs.YtfglgeoookbppaaGreatDoor
