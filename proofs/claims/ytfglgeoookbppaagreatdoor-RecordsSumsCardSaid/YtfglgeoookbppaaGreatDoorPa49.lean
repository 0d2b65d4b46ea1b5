/- The law RecordsSums. -/
import Derived.Test.YtfglgeoookbppaaGreatDoorPa48
import Derived.Test.YtfglgeoookbppaaGreatDoorPa46

namespace Go.Proofs.YtfglgeoookbppaaGreatDoor
open Go.RowKit Go.Shelf

theorem crc_twins : crcSum tPlum = crcSum tBuck := by decide +kernel
theorem lit_said {s : List UInt8} (h : ∀ a ∈ s, 0 < a.toNat ∧ a.toNat < 128) (h1 : 1 ≤ s.length) (h2 : s.length ≤ 200) : tSaid s = true := by
  unfold tSaid
  rw [uGood_all_ascii h, decide_eq_true h1, decide_eq_true h2]
  rfl
theorem lit_name {s : List UInt8} (h : ∀ a ∈ s, 0 < a.toNat ∧ a.toNat < 128) (h1 : 1 ≤ s.length) (h2 : s.length ≤ 200) (h3 : tSign s = false) : tName s = true := by
  unfold tName
  rw [lit_said h h1 h2, h3]
  rfl
theorem lit_filter {s : List UInt8} (h : ∀ a ∈ s, 0 < a.toNat ∧ a.toNat < 128) (h1 : 1 ≤ s.length) (h2 : s.length ≤ 200) (h3 : tOks (tLev s) = true) : tFilter s = true := by
  unfold tFilter
  rw [lit_said h h1 h2, h3]
  rfl
theorem twin_ok {t : List UInt8} (ht : t = tPlum ∨ t = tBuck) : rcOk ⟨2, [99], 0, 0, t, [], 0, false, 0⟩ = true ∧ rcOk ⟨5, [], 0, 0, t, [98], 0, false, 0⟩ = true := by
  have h1 : tName t = true ∧ tFilter t = true := by
    rcases ht with rfl | rfl
    · exact ⟨lit_name (by decide) (by decide) (by decide) (by decide), lit_filter (by decide) (by decide) (by decide) (by decide)⟩
    · exact ⟨lit_name (by decide) (by decide) (by decide) (by decide), lit_filter (by decide) (by decide) (by decide) (by decide)⟩
  constructor
  · show (rcIs 2 && ((rcClient [99] && (tFilter t && inN 0 0 2)) && rwEq ⟨2, [99], 0, 0, t, [], 0, false, 0⟩ ⟨2, [99], 0, 0, t, [], 0, false, 0⟩)) = true
    rw [h1.2, client_ascii (by decide) (by decide) (by decide), (rwEq_iff _ _).2 rfl]
    decide
  · show (rcIs 5 && ((tName t && (inN (([98] : List UInt8).length : Nat) 1 2000 && inN 0 0 2)) && rwEq ⟨5, [], 0, 0, t, [98], 0, false, 0⟩ ⟨5, [], 0, 0, t, [98], 0, false, 0⟩)) = true
    rw [h1.1, (rwEq_iff _ _).2 rfl]
    decide
/-- What is read of two rows that are alike but for their topics. -/
structure Twin (x y : Rw) (P : List KP) : Prop where
  sx : x.Small
  sy : y.Small
  kx : -9223372036854775808 ≤ x.k ∧ x.k ≤ 9223372036854775807
  ky : -9223372036854775808 ≤ y.k ∧ y.k ≤ 9223372036854775807
  bx : rcBegS x = kRaw P ∧ rcBegE x = 0
  bg : rcBegS y = kRaw P ∧ rcBegE y = 0
  cx : ∀ p : Int, 0 ≤ p → p ≤ 1000 → rcKeyS x p = kRaw (P ++ [kInt p]) ∧ rcKeyE x p = 0
  cy : ∀ p : Int, 0 ≤ p → p ≤ 1000 → rcKeyS y p = kRaw (P ++ [kInt p]) ∧ rcKeyE y p = 0
theorem twin_key {x : Rw} {P : List KP} (h : rcOk x = true) (hp : rcPlaced x.k = true) (hP : rcParts x.k x = P) : (rcBegS x = kRaw P ∧ rcBegE x = 0) ∧ ∀ p : Int, 0 ≤ p → p ≤ 1000 → rcKeyS x p = kRaw (P ++ [kInt p]) ∧ rcKeyE x p = 0 := by
  constructor
  · unfold rcBegS rcBegE
    rw [if_pos h, if_pos h, hP]
    exact ⟨rfl, rfl⟩
  · intro p h1 h2
    have hf : rcFits x p = true := by
      unfold rcFits
      rw [h, hp, inN_iff.2 ⟨h1, by omega⟩]
      simp
    unfold rcKeyS rcKeyE rcKeyL
    rw [if_pos hf, if_pos hf, if_pos hp, hP]
    exact ⟨rfl, rfl⟩
theorem twin2 : Twin ⟨2, [99], 0, 0, tPlum, [], 0, false, 0⟩ ⟨2, [99], 0, 0, tBuck, [], 0, false, 0⟩ [kText [99], rcSum tPlum] := by
  have h1 := twin_key (P := [kText [99], rcSum tPlum]) (twin_ok (.inl rfl)).1 (by decide) rfl
  have h2 := twin_key (P := [kText [99], rcSum tPlum]) (twin_ok (.inr rfl)).1 (by decide) (by
    show [kText [99], rcSum tBuck] = _
    unfold rcSum
    rw [crc_twins])
  exact ⟨small_of _ (by decide) (by decide) (by decide), small_of _ (by decide) (by decide) (by decide), by decide, by decide, h1.1, h2.1, h1.2, h2.2⟩
theorem twin5 : Twin ⟨5, [], 0, 0, tPlum, [98], 0, false, 0⟩ ⟨5, [], 0, 0, tBuck, [98], 0, false, 0⟩ [rcSum tPlum] := by
  have h1 := twin_key (P := [rcSum tPlum]) (twin_ok (.inl rfl)).2 (by decide) rfl
  have h2 := twin_key (P := [rcSum tPlum]) (twin_ok (.inr rfl)).2 (by decide) (by
    show [rcSum tBuck] = _
    unfold rcSum
    rw [crc_twins])
  exact ⟨small_of _ (by decide) (by decide) (by decide), small_of _ (by decide) (by decide) (by decide), by decide, by decide, h1.1, h2.1, h1.2, h2.2⟩
set_option maxRecDepth 100000 in
set_option maxHeartbeats 1600000 in
theorem recordsSums_any (w : World) (a b : Nat) (ha : a ≤ 65535) (hb : b ≤ 65535) (f : Bool) (hm : MaxL w) : Calls Tryz.prog 4 #[.int .u16 a, .int .u16 b, .bool f] w (TruePost w true) := by
  have HM := Lib.hid hm
  clear hm
  obtain ⟨m, hm⟩ : ∃ m, a % 1000 = m := ⟨_, rfl⟩
  obtain ⟨n, hn⟩ : ∃ n, b % 1000 = n := ⟨_, rfl⟩
  have tm : (a : Int).tmod 1000 = (m : Int) := by rw [Int.tmod_eq_emod_of_nonneg (by omega)]; omega
  have tn : (b : Int).tmod 1000 = (n : Int) := by rw [Int.tmod_eq_emod_of_nonneg (by omega)]; omega
  have hm9 : m ≤ 999 := by omega
  have hn9 : n ≤ 999 := by omega
  clear hm hn
  cases f with
  | false =>
    obtain ⟨P, hP, HT0⟩ : ∃ P, P = P ∧ Twin ⟨5, [], 0, 0, tPlum, [98], 0, false, 0⟩ ⟨5, [], 0, 0, tBuck, [98], 0, false, 0⟩ P := ⟨_, rfl, twin5⟩
    have HT := Lib.hid HT0
    clear HT0 hP
    have hkl := key_last P (m := m) (n := n) (by omega) (by omega) (by omega) (by omega)
    have CX := Lib.hid (HT.out.cx m (by omega) (by omega))
    have CY := Lib.hid (HT.out.cy n (by omega) (by omega))
    have BX := Lib.hid HT.out.bx
    have BY := Lib.hid HT.out.bg
    obtain ⟨R, hR⟩ : ∃ R, kRaw (P ++ [kInt m]) = R := ⟨_, rfl⟩
    obtain ⟨S, hS⟩ : ∃ S, kRaw (P ++ [kInt n]) = S := ⟨_, rfl⟩
    obtain ⟨B, hB⟩ : ∃ B, kRaw P = B := ⟨_, rfl⟩
    rw [hR] at CX hkl
    rw [hS] at CY hkl
    rw [hB] at BX BY
    clear hR hS hB
    obtain ⟨q1, q2⟩ := hkl
    rcases Nat.lt_trichotomy m n with hmn | hmn | hmn
    · have e1 : (R == S) = false := by rw [q1]; exact decide_eq_false (by omega)
      have e2 : Op.bytesLess R S = true := by rw [q2]; exact decide_eq_true (by omega)
      have e3 : ¬ R = S := by simpa using e1
      have e4 : ¬ m = n := by omega
      have e5 : ((m : Int) == n) = false := by rw [beq_eq_false_iff_ne]; omega
      clear q1 q2
      go_enter Tryz.func4, Tryz.ntmps4
      go_upto_region 7 with fail
      obtain ⟨W1, hW1⟩ : ∃ W1, (w.alloc (.cells #[.int .i64 5, .string ⟨#[]⟩, .int .i64 0, .int .i64 0, .string ⟨#[112, 108, 117, 109, 108, 101, 115, 115]⟩, .string ⟨#[98]⟩, .int .i64 0, .bool false, .int .i64 0] 25)).alloc (.cells #[.int .i64 5, .string ⟨#[]⟩, .int .i64 0, .int .i64 0, .string ⟨#[98, 117, 99, 107, 101, 114, 111, 111]⟩, .string ⟨#[98]⟩, .int .i64 0, .bool false, .int .i64 0] 25) = W1 := ⟨_, rfl⟩
      rw [hW1]
      have k1 : Keeps w W1 [] := by rw [← hW1]; exact (Keeps.alloc _ _).then_alloc _
      have r1 : Row W1 w.heap.size 25 #[.int .i64 5, .string ⟨#[]⟩, .int .i64 0, .int .i64 0, .string ⟨#[112, 108, 117, 109, 108, 101, 115, 115]⟩, .string ⟨#[98]⟩, .int .i64 0, .bool false, .int .i64 0] := by rw [← hW1]; exact (Row.new _ _ _).alloc _
      have r2 : Row W1 (w.heap.size + 1) 25 #[.int .i64 5, .string ⟨#[]⟩, .int .i64 0, .int .i64 0, .string ⟨#[98, 117, 99, 107, 101, 114, 111, 111]⟩, .string ⟨#[98]⟩, .int .i64 0, .bool false, .int .i64 0] := by
        rw [← hW1]
        have := Row.new (w.alloc (.cells #[.int .i64 5, .string ⟨#[]⟩, .int .i64 0, .int .i64 0, .string ⟨#[112, 108, 117, 109, 108, 101, 115, 115]⟩, .string ⟨#[98]⟩, .int .i64 0, .bool false, .int .i64 0] 25)) 25 #[.int .i64 5, .string ⟨#[]⟩, .int .i64 0, .int .i64 0, .string ⟨#[98, 117, 99, 107, 101, 114, 111, 111]⟩, .string ⟨#[98]⟩, .int .i64 0, .bool false, .int .i64 0]
        rwa [World.size_alloc] at this
      have HR := Lib.hid (And.intro k1 (And.intro r1 r2))
      clear k1 r1 r2 hW1
      have r1 := HR.out.2.1
      have r2 := HR.out.2.2
      have x0 := r1.cell 0
      have x1 := r1.cell 1
      have x2 := r1.cell 2
      have x3 := r1.cell 3
      have x4 := r1.cell 4
      have x5 := r1.cell 5
      have x6 := r1.cell 6
      have x7 := r1.cell 7
      have x8 := r1.cell 8
      simp only [List.getElem?_toArray, List.getElem?_cons_zero, List.getElem?_cons_succ] at x0 x1 x2 x3 x4 x5 x6 x7 x8
      have y0 := r2.cell 0
      have y1 := r2.cell 1
      have y2 := r2.cell 2
      have y3 := r2.cell 3
      have y4 := r2.cell 4
      have y5 := r2.cell 5
      have y6 := r2.cell 6
      have y7 := r2.cell 7
      have y8 := r2.cell 8
      simp only [List.getElem?_toArray, List.getElem?_cons_zero, List.getElem?_cons_succ] at y0 y1 y2 y3 y4 y5 y6 y7 y8
      clear r1 r2
      go_wp2_with fail
      refine (rcBegin_any ⟨5, [], 0, 0, tPlum, [98], 0, false, 0⟩ _ HT.out.sx (HM.out.keeps HR.out.1) HT.out.kx.1 HT.out.kx.2).mono ?_
      rintro e w9 ⟨rfl, hk⟩
      rw [BX.out.1, BX.out.2]
      replace HR := Lib.hid (And.intro (HR.out.1.then_ hk) (And.intro (HR.out.2.1.keeps hk) (HR.out.2.2.keeps hk)))
      clear hk x0 x1 x2 x3 x4 x5 x6 x7 x8 y0 y1 y2 y3 y4 y5 y6 y7 y8
      unfold strV
      have r1 := HR.out.2.1
      have r2 := HR.out.2.2
      have x0 := r1.cell 0
      have x1 := r1.cell 1
      have x2 := r1.cell 2
      have x3 := r1.cell 3
      have x4 := r1.cell 4
      have x5 := r1.cell 5
      have x6 := r1.cell 6
      have x7 := r1.cell 7
      have x8 := r1.cell 8
      simp only [List.getElem?_toArray, List.getElem?_cons_zero, List.getElem?_cons_succ] at x0 x1 x2 x3 x4 x5 x6 x7 x8
      have y0 := r2.cell 0
      have y1 := r2.cell 1
      have y2 := r2.cell 2
      have y3 := r2.cell 3
      have y4 := r2.cell 4
      have y5 := r2.cell 5
      have y6 := r2.cell 6
      have y7 := r2.cell 7
      have y8 := r2.cell 8
      simp only [List.getElem?_toArray, List.getElem?_cons_zero, List.getElem?_cons_succ] at y0 y1 y2 y3 y4 y5 y6 y7 y8
      clear r1 r2
      go_wp2_with fail
      refine (rcBegin_any ⟨5, [], 0, 0, tBuck, [98], 0, false, 0⟩ _ HT.out.sy (HM.out.keeps HR.out.1) HT.out.ky.1 HT.out.ky.2).mono ?_
      rintro e w9 ⟨rfl, hk⟩
      rw [BY.out.1, BY.out.2]
      replace HR := Lib.hid (And.intro (HR.out.1.then_ hk) (And.intro (HR.out.2.1.keeps hk) (HR.out.2.2.keeps hk)))
      clear hk x0 x1 x2 x3 x4 x5 x6 x7 x8 y0 y1 y2 y3 y4 y5 y6 y7 y8
      unfold strV
      have r1 := HR.out.2.1
      have r2 := HR.out.2.2
      have x0 := r1.cell 0
      have x1 := r1.cell 1
      have x2 := r1.cell 2
      have x3 := r1.cell 3
      have x4 := r1.cell 4
      have x5 := r1.cell 5
      have x6 := r1.cell 6
      have x7 := r1.cell 7
      have x8 := r1.cell 8
      simp only [List.getElem?_toArray, List.getElem?_cons_zero, List.getElem?_cons_succ] at x0 x1 x2 x3 x4 x5 x6 x7 x8
      have y0 := r2.cell 0
      have y1 := r2.cell 1
      have y2 := r2.cell 2
      have y3 := r2.cell 3
      have y4 := r2.cell 4
      have y5 := r2.cell 5
      have y6 := r2.cell 6
      have y7 := r2.cell 7
      have y8 := r2.cell 8
      simp only [List.getElem?_toArray, List.getElem?_cons_zero, List.getElem?_cons_succ] at y0 y1 y2 y3 y4 y5 y6 y7 y8
      clear r1 r2
      go_wp2_with fail
      refine (rcKey_any ⟨5, [], 0, 0, tPlum, [98], 0, false, 0⟩ m _ HT.out.sx (HM.out.keeps HR.out.1) HT.out.kx.1 HT.out.kx.2).mono ?_
      rintro e w9 ⟨rfl, hk⟩
      rw [CX.out.1, CX.out.2]
      replace HR := Lib.hid (And.intro (HR.out.1.then_ hk) (And.intro (HR.out.2.1.keeps hk) (HR.out.2.2.keeps hk)))
      clear hk x0 x1 x2 x3 x4 x5 x6 x7 x8 y0 y1 y2 y3 y4 y5 y6 y7 y8
      unfold strV
      have r1 := HR.out.2.1
      have r2 := HR.out.2.2
      have x0 := r1.cell 0
      have x1 := r1.cell 1
      have x2 := r1.cell 2
      have x3 := r1.cell 3
      have x4 := r1.cell 4
      have x5 := r1.cell 5
      have x6 := r1.cell 6
      have x7 := r1.cell 7
      have x8 := r1.cell 8
      simp only [List.getElem?_toArray, List.getElem?_cons_zero, List.getElem?_cons_succ] at x0 x1 x2 x3 x4 x5 x6 x7 x8
      have y0 := r2.cell 0
      have y1 := r2.cell 1
      have y2 := r2.cell 2
      have y3 := r2.cell 3
      have y4 := r2.cell 4
      have y5 := r2.cell 5
      have y6 := r2.cell 6
      have y7 := r2.cell 7
      have y8 := r2.cell 8
      simp only [List.getElem?_toArray, List.getElem?_cons_zero, List.getElem?_cons_succ] at y0 y1 y2 y3 y4 y5 y6 y7 y8
      clear r1 r2
      go_wp2_with fail
      refine (rcKey_any ⟨5, [], 0, 0, tBuck, [98], 0, false, 0⟩ n _ HT.out.sy (HM.out.keeps HR.out.1) HT.out.ky.1 HT.out.ky.2).mono ?_
      rintro e w9 ⟨rfl, hk⟩
      rw [CY.out.1, CY.out.2]
      replace HR := Lib.hid (And.intro (HR.out.1.then_ hk) (And.intro (HR.out.2.1.keeps hk) (HR.out.2.2.keeps hk)))
      clear hk x0 x1 x2 x3 x4 x5 x6 x7 x8 y0 y1 y2 y3 y4 y5 y6 y7 y8
      unfold strV
      have r1 := HR.out.2.1
      have r2 := HR.out.2.2
      have x0 := r1.cell 0
      have x1 := r1.cell 1
      have x2 := r1.cell 2
      have x3 := r1.cell 3
      have x4 := r1.cell 4
      have x5 := r1.cell 5
      have x6 := r1.cell 6
      have x7 := r1.cell 7
      have x8 := r1.cell 8
      simp only [List.getElem?_toArray, List.getElem?_cons_zero, List.getElem?_cons_succ] at x0 x1 x2 x3 x4 x5 x6 x7 x8
      have y0 := r2.cell 0
      have y1 := r2.cell 1
      have y2 := r2.cell 2
      have y3 := r2.cell 3
      have y4 := r2.cell 4
      have y5 := r2.cell 5
      have y6 := r2.cell 6
      have y7 := r2.cell 7
      have y8 := r2.cell 8
      simp only [List.getElem?_toArray, List.getElem?_cons_zero, List.getElem?_cons_succ] at y0 y1 y2 y3 y4 y5 y6 y7 y8
      clear r1 r2
      go_wp2_with fail
      refine (rcIs5_no _).mono ?_
      rintro e w9 ⟨rfl, hk⟩
      have HK := Lib.hid (HR.out.1.then_ hk)
      clear hk x0 x1 x2 x3 x4 x5 x6 x7 x8 y0 y1 y2 y3 y4 y5 y6 y7 y8
      go_wp2_with fail
      refine (known19_any _ (HM.out.keeps HK.out)).mono ?_
      rintro e w9 ⟨rfl, hk⟩
      replace HK := Lib.hid (HK.out.then_ hk)
      clear hk
      go_wp2_with fail
      go_ret
      exact ⟨rfl, HK.out⟩
    · subst hmn
      have hRS : R = S := by simpa using q1
      subst hRS
      have e2 : Op.bytesLess R R = false := by rw [q2]; exact decide_eq_false (by omega)
      clear q1 q2
      go_enter Tryz.func4, Tryz.ntmps4
      go_upto_region 7 with fail
      obtain ⟨W1, hW1⟩ : ∃ W1, (w.alloc (.cells #[.int .i64 5, .string ⟨#[]⟩, .int .i64 0, .int .i64 0, .string ⟨#[112, 108, 117, 109, 108, 101, 115, 115]⟩, .string ⟨#[98]⟩, .int .i64 0, .bool false, .int .i64 0] 25)).alloc (.cells #[.int .i64 5, .string ⟨#[]⟩, .int .i64 0, .int .i64 0, .string ⟨#[98, 117, 99, 107, 101, 114, 111, 111]⟩, .string ⟨#[98]⟩, .int .i64 0, .bool false, .int .i64 0] 25) = W1 := ⟨_, rfl⟩
      rw [hW1]
      have k1 : Keeps w W1 [] := by rw [← hW1]; exact (Keeps.alloc _ _).then_alloc _
      have r1 : Row W1 w.heap.size 25 #[.int .i64 5, .string ⟨#[]⟩, .int .i64 0, .int .i64 0, .string ⟨#[112, 108, 117, 109, 108, 101, 115, 115]⟩, .string ⟨#[98]⟩, .int .i64 0, .bool false, .int .i64 0] := by rw [← hW1]; exact (Row.new _ _ _).alloc _
      have r2 : Row W1 (w.heap.size + 1) 25 #[.int .i64 5, .string ⟨#[]⟩, .int .i64 0, .int .i64 0, .string ⟨#[98, 117, 99, 107, 101, 114, 111, 111]⟩, .string ⟨#[98]⟩, .int .i64 0, .bool false, .int .i64 0] := by
        rw [← hW1]
        have := Row.new (w.alloc (.cells #[.int .i64 5, .string ⟨#[]⟩, .int .i64 0, .int .i64 0, .string ⟨#[112, 108, 117, 109, 108, 101, 115, 115]⟩, .string ⟨#[98]⟩, .int .i64 0, .bool false, .int .i64 0] 25)) 25 #[.int .i64 5, .string ⟨#[]⟩, .int .i64 0, .int .i64 0, .string ⟨#[98, 117, 99, 107, 101, 114, 111, 111]⟩, .string ⟨#[98]⟩, .int .i64 0, .bool false, .int .i64 0]
        rwa [World.size_alloc] at this
      have HR := Lib.hid (And.intro k1 (And.intro r1 r2))
      clear k1 r1 r2 hW1
      have r1 := HR.out.2.1
      have r2 := HR.out.2.2
      have x0 := r1.cell 0
      have x1 := r1.cell 1
      have x2 := r1.cell 2
      have x3 := r1.cell 3
      have x4 := r1.cell 4
      have x5 := r1.cell 5
      have x6 := r1.cell 6
      have x7 := r1.cell 7
      have x8 := r1.cell 8
      simp only [List.getElem?_toArray, List.getElem?_cons_zero, List.getElem?_cons_succ] at x0 x1 x2 x3 x4 x5 x6 x7 x8
      have y0 := r2.cell 0
      have y1 := r2.cell 1
      have y2 := r2.cell 2
      have y3 := r2.cell 3
      have y4 := r2.cell 4
      have y5 := r2.cell 5
      have y6 := r2.cell 6
      have y7 := r2.cell 7
      have y8 := r2.cell 8
      simp only [List.getElem?_toArray, List.getElem?_cons_zero, List.getElem?_cons_succ] at y0 y1 y2 y3 y4 y5 y6 y7 y8
      clear r1 r2
      go_wp2_with fail
      refine (rcBegin_any ⟨5, [], 0, 0, tPlum, [98], 0, false, 0⟩ _ HT.out.sx (HM.out.keeps HR.out.1) HT.out.kx.1 HT.out.kx.2).mono ?_
      rintro e w9 ⟨rfl, hk⟩
      rw [BX.out.1, BX.out.2]
      replace HR := Lib.hid (And.intro (HR.out.1.then_ hk) (And.intro (HR.out.2.1.keeps hk) (HR.out.2.2.keeps hk)))
      clear hk x0 x1 x2 x3 x4 x5 x6 x7 x8 y0 y1 y2 y3 y4 y5 y6 y7 y8
      unfold strV
      have r1 := HR.out.2.1
      have r2 := HR.out.2.2
      have x0 := r1.cell 0
      have x1 := r1.cell 1
      have x2 := r1.cell 2
      have x3 := r1.cell 3
      have x4 := r1.cell 4
      have x5 := r1.cell 5
      have x6 := r1.cell 6
      have x7 := r1.cell 7
      have x8 := r1.cell 8
      simp only [List.getElem?_toArray, List.getElem?_cons_zero, List.getElem?_cons_succ] at x0 x1 x2 x3 x4 x5 x6 x7 x8
      have y0 := r2.cell 0
      have y1 := r2.cell 1
      have y2 := r2.cell 2
      have y3 := r2.cell 3
      have y4 := r2.cell 4
      have y5 := r2.cell 5
      have y6 := r2.cell 6
      have y7 := r2.cell 7
      have y8 := r2.cell 8
      simp only [List.getElem?_toArray, List.getElem?_cons_zero, List.getElem?_cons_succ] at y0 y1 y2 y3 y4 y5 y6 y7 y8
      clear r1 r2
      go_wp2_with fail
      refine (rcBegin_any ⟨5, [], 0, 0, tBuck, [98], 0, false, 0⟩ _ HT.out.sy (HM.out.keeps HR.out.1) HT.out.ky.1 HT.out.ky.2).mono ?_
      rintro e w9 ⟨rfl, hk⟩
      rw [BY.out.1, BY.out.2]
      replace HR := Lib.hid (And.intro (HR.out.1.then_ hk) (And.intro (HR.out.2.1.keeps hk) (HR.out.2.2.keeps hk)))
      clear hk x0 x1 x2 x3 x4 x5 x6 x7 x8 y0 y1 y2 y3 y4 y5 y6 y7 y8
      unfold strV
      have r1 := HR.out.2.1
      have r2 := HR.out.2.2
      have x0 := r1.cell 0
      have x1 := r1.cell 1
      have x2 := r1.cell 2
      have x3 := r1.cell 3
      have x4 := r1.cell 4
      have x5 := r1.cell 5
      have x6 := r1.cell 6
      have x7 := r1.cell 7
      have x8 := r1.cell 8
      simp only [List.getElem?_toArray, List.getElem?_cons_zero, List.getElem?_cons_succ] at x0 x1 x2 x3 x4 x5 x6 x7 x8
      have y0 := r2.cell 0
      have y1 := r2.cell 1
      have y2 := r2.cell 2
      have y3 := r2.cell 3
      have y4 := r2.cell 4
      have y5 := r2.cell 5
      have y6 := r2.cell 6
      have y7 := r2.cell 7
      have y8 := r2.cell 8
      simp only [List.getElem?_toArray, List.getElem?_cons_zero, List.getElem?_cons_succ] at y0 y1 y2 y3 y4 y5 y6 y7 y8
      clear r1 r2
      go_wp2_with fail
      refine (rcKey_any ⟨5, [], 0, 0, tPlum, [98], 0, false, 0⟩ m _ HT.out.sx (HM.out.keeps HR.out.1) HT.out.kx.1 HT.out.kx.2).mono ?_
      rintro e w9 ⟨rfl, hk⟩
      rw [CX.out.1, CX.out.2]
      replace HR := Lib.hid (And.intro (HR.out.1.then_ hk) (And.intro (HR.out.2.1.keeps hk) (HR.out.2.2.keeps hk)))
      clear hk x0 x1 x2 x3 x4 x5 x6 x7 x8 y0 y1 y2 y3 y4 y5 y6 y7 y8
      unfold strV
      have r1 := HR.out.2.1
      have r2 := HR.out.2.2
      have x0 := r1.cell 0
      have x1 := r1.cell 1
      have x2 := r1.cell 2
      have x3 := r1.cell 3
      have x4 := r1.cell 4
      have x5 := r1.cell 5
      have x6 := r1.cell 6
      have x7 := r1.cell 7
      have x8 := r1.cell 8
      simp only [List.getElem?_toArray, List.getElem?_cons_zero, List.getElem?_cons_succ] at x0 x1 x2 x3 x4 x5 x6 x7 x8
      have y0 := r2.cell 0
      have y1 := r2.cell 1
      have y2 := r2.cell 2
      have y3 := r2.cell 3
      have y4 := r2.cell 4
      have y5 := r2.cell 5
      have y6 := r2.cell 6
      have y7 := r2.cell 7
      have y8 := r2.cell 8
      simp only [List.getElem?_toArray, List.getElem?_cons_zero, List.getElem?_cons_succ] at y0 y1 y2 y3 y4 y5 y6 y7 y8
      clear r1 r2
      go_wp2_with fail
      refine (rcKey_any ⟨5, [], 0, 0, tBuck, [98], 0, false, 0⟩ m _ HT.out.sy (HM.out.keeps HR.out.1) HT.out.ky.1 HT.out.ky.2).mono ?_
      rintro e w9 ⟨rfl, hk⟩
      rw [CY.out.1, CY.out.2]
      replace HR := Lib.hid (And.intro (HR.out.1.then_ hk) (And.intro (HR.out.2.1.keeps hk) (HR.out.2.2.keeps hk)))
      clear hk x0 x1 x2 x3 x4 x5 x6 x7 x8 y0 y1 y2 y3 y4 y5 y6 y7 y8
      unfold strV
      have r1 := HR.out.2.1
      have r2 := HR.out.2.2
      have x0 := r1.cell 0
      have x1 := r1.cell 1
      have x2 := r1.cell 2
      have x3 := r1.cell 3
      have x4 := r1.cell 4
      have x5 := r1.cell 5
      have x6 := r1.cell 6
      have x7 := r1.cell 7
      have x8 := r1.cell 8
      simp only [List.getElem?_toArray, List.getElem?_cons_zero, List.getElem?_cons_succ] at x0 x1 x2 x3 x4 x5 x6 x7 x8
      have y0 := r2.cell 0
      have y1 := r2.cell 1
      have y2 := r2.cell 2
      have y3 := r2.cell 3
      have y4 := r2.cell 4
      have y5 := r2.cell 5
      have y6 := r2.cell 6
      have y7 := r2.cell 7
      have y8 := r2.cell 8
      simp only [List.getElem?_toArray, List.getElem?_cons_zero, List.getElem?_cons_succ] at y0 y1 y2 y3 y4 y5 y6 y7 y8
      clear r1 r2
      go_wp2_with fail
      refine (rcIs5_no _).mono ?_
      rintro e w9 ⟨rfl, hk⟩
      have HK := Lib.hid (HR.out.1.then_ hk)
      clear hk x0 x1 x2 x3 x4 x5 x6 x7 x8 y0 y1 y2 y3 y4 y5 y6 y7 y8
      go_wp2_with fail
      refine (known19_any _ (HM.out.keeps HK.out)).mono ?_
      rintro e w9 ⟨rfl, hk⟩
      replace HK := Lib.hid (HK.out.then_ hk)
      clear hk
      go_wp2_with fail
      go_ret
      exact ⟨rfl, HK.out⟩
    · have e1 : (R == S) = false := by rw [q1]; exact decide_eq_false (by omega)
      have e2 : Op.bytesLess R S = false := by rw [q2]; exact decide_eq_false (by omega)
      have e3 : ¬ R = S := by simpa using e1
      have e4 : ¬ m = n := by omega
      have e5 : ((m : Int) == n) = false := by rw [beq_eq_false_iff_ne]; omega
      have e6 : ¬ m < n := by omega
      clear q1 q2
      go_enter Tryz.func4, Tryz.ntmps4
      go_upto_region 7 with fail
      obtain ⟨W1, hW1⟩ : ∃ W1, (w.alloc (.cells #[.int .i64 5, .string ⟨#[]⟩, .int .i64 0, .int .i64 0, .string ⟨#[112, 108, 117, 109, 108, 101, 115, 115]⟩, .string ⟨#[98]⟩, .int .i64 0, .bool false, .int .i64 0] 25)).alloc (.cells #[.int .i64 5, .string ⟨#[]⟩, .int .i64 0, .int .i64 0, .string ⟨#[98, 117, 99, 107, 101, 114, 111, 111]⟩, .string ⟨#[98]⟩, .int .i64 0, .bool false, .int .i64 0] 25) = W1 := ⟨_, rfl⟩
      rw [hW1]
      have k1 : Keeps w W1 [] := by rw [← hW1]; exact (Keeps.alloc _ _).then_alloc _
      have r1 : Row W1 w.heap.size 25 #[.int .i64 5, .string ⟨#[]⟩, .int .i64 0, .int .i64 0, .string ⟨#[112, 108, 117, 109, 108, 101, 115, 115]⟩, .string ⟨#[98]⟩, .int .i64 0, .bool false, .int .i64 0] := by rw [← hW1]; exact (Row.new _ _ _).alloc _
      have r2 : Row W1 (w.heap.size + 1) 25 #[.int .i64 5, .string ⟨#[]⟩, .int .i64 0, .int .i64 0, .string ⟨#[98, 117, 99, 107, 101, 114, 111, 111]⟩, .string ⟨#[98]⟩, .int .i64 0, .bool false, .int .i64 0] := by
        rw [← hW1]
        have := Row.new (w.alloc (.cells #[.int .i64 5, .string ⟨#[]⟩, .int .i64 0, .int .i64 0, .string ⟨#[112, 108, 117, 109, 108, 101, 115, 115]⟩, .string ⟨#[98]⟩, .int .i64 0, .bool false, .int .i64 0] 25)) 25 #[.int .i64 5, .string ⟨#[]⟩, .int .i64 0, .int .i64 0, .string ⟨#[98, 117, 99, 107, 101, 114, 111, 111]⟩, .string ⟨#[98]⟩, .int .i64 0, .bool false, .int .i64 0]
        rwa [World.size_alloc] at this
      have HR := Lib.hid (And.intro k1 (And.intro r1 r2))
      clear k1 r1 r2 hW1
      have r1 := HR.out.2.1
      have r2 := HR.out.2.2
      have x0 := r1.cell 0
      have x1 := r1.cell 1
      have x2 := r1.cell 2
      have x3 := r1.cell 3
      have x4 := r1.cell 4
      have x5 := r1.cell 5
      have x6 := r1.cell 6
      have x7 := r1.cell 7
      have x8 := r1.cell 8
      simp only [List.getElem?_toArray, List.getElem?_cons_zero, List.getElem?_cons_succ] at x0 x1 x2 x3 x4 x5 x6 x7 x8
      have y0 := r2.cell 0
      have y1 := r2.cell 1
      have y2 := r2.cell 2
      have y3 := r2.cell 3
      have y4 := r2.cell 4
      have y5 := r2.cell 5
      have y6 := r2.cell 6
      have y7 := r2.cell 7
      have y8 := r2.cell 8
      simp only [List.getElem?_toArray, List.getElem?_cons_zero, List.getElem?_cons_succ] at y0 y1 y2 y3 y4 y5 y6 y7 y8
      clear r1 r2
      go_wp2_with fail
      refine (rcBegin_any ⟨5, [], 0, 0, tPlum, [98], 0, false, 0⟩ _ HT.out.sx (HM.out.keeps HR.out.1) HT.out.kx.1 HT.out.kx.2).mono ?_
      rintro e w9 ⟨rfl, hk⟩
      rw [BX.out.1, BX.out.2]
      replace HR := Lib.hid (And.intro (HR.out.1.then_ hk) (And.intro (HR.out.2.1.keeps hk) (HR.out.2.2.keeps hk)))
      clear hk x0 x1 x2 x3 x4 x5 x6 x7 x8 y0 y1 y2 y3 y4 y5 y6 y7 y8
      unfold strV
      have r1 := HR.out.2.1
      have r2 := HR.out.2.2
      have x0 := r1.cell 0
      have x1 := r1.cell 1
      have x2 := r1.cell 2
      have x3 := r1.cell 3
      have x4 := r1.cell 4
      have x5 := r1.cell 5
      have x6 := r1.cell 6
      have x7 := r1.cell 7
      have x8 := r1.cell 8
      simp only [List.getElem?_toArray, List.getElem?_cons_zero, List.getElem?_cons_succ] at x0 x1 x2 x3 x4 x5 x6 x7 x8
      have y0 := r2.cell 0
      have y1 := r2.cell 1
      have y2 := r2.cell 2
      have y3 := r2.cell 3
      have y4 := r2.cell 4
      have y5 := r2.cell 5
      have y6 := r2.cell 6
      have y7 := r2.cell 7
      have y8 := r2.cell 8
      simp only [List.getElem?_toArray, List.getElem?_cons_zero, List.getElem?_cons_succ] at y0 y1 y2 y3 y4 y5 y6 y7 y8
      clear r1 r2
      go_wp2_with fail
      refine (rcBegin_any ⟨5, [], 0, 0, tBuck, [98], 0, false, 0⟩ _ HT.out.sy (HM.out.keeps HR.out.1) HT.out.ky.1 HT.out.ky.2).mono ?_
      rintro e w9 ⟨rfl, hk⟩
      rw [BY.out.1, BY.out.2]
      replace HR := Lib.hid (And.intro (HR.out.1.then_ hk) (And.intro (HR.out.2.1.keeps hk) (HR.out.2.2.keeps hk)))
      clear hk x0 x1 x2 x3 x4 x5 x6 x7 x8 y0 y1 y2 y3 y4 y5 y6 y7 y8
      unfold strV
      have r1 := HR.out.2.1
      have r2 := HR.out.2.2
      have x0 := r1.cell 0
      have x1 := r1.cell 1
      have x2 := r1.cell 2
      have x3 := r1.cell 3
      have x4 := r1.cell 4
      have x5 := r1.cell 5
      have x6 := r1.cell 6
      have x7 := r1.cell 7
      have x8 := r1.cell 8
      simp only [List.getElem?_toArray, List.getElem?_cons_zero, List.getElem?_cons_succ] at x0 x1 x2 x3 x4 x5 x6 x7 x8
      have y0 := r2.cell 0
      have y1 := r2.cell 1
      have y2 := r2.cell 2
      have y3 := r2.cell 3
      have y4 := r2.cell 4
      have y5 := r2.cell 5
      have y6 := r2.cell 6
      have y7 := r2.cell 7
      have y8 := r2.cell 8
      simp only [List.getElem?_toArray, List.getElem?_cons_zero, List.getElem?_cons_succ] at y0 y1 y2 y3 y4 y5 y6 y7 y8
      clear r1 r2
      go_wp2_with fail
      refine (rcKey_any ⟨5, [], 0, 0, tPlum, [98], 0, false, 0⟩ m _ HT.out.sx (HM.out.keeps HR.out.1) HT.out.kx.1 HT.out.kx.2).mono ?_
      rintro e w9 ⟨rfl, hk⟩
      rw [CX.out.1, CX.out.2]
      replace HR := Lib.hid (And.intro (HR.out.1.then_ hk) (And.intro (HR.out.2.1.keeps hk) (HR.out.2.2.keeps hk)))
      clear hk x0 x1 x2 x3 x4 x5 x6 x7 x8 y0 y1 y2 y3 y4 y5 y6 y7 y8
      unfold strV
      have r1 := HR.out.2.1
      have r2 := HR.out.2.2
      have x0 := r1.cell 0
      have x1 := r1.cell 1
      have x2 := r1.cell 2
      have x3 := r1.cell 3
      have x4 := r1.cell 4
      have x5 := r1.cell 5
      have x6 := r1.cell 6
      have x7 := r1.cell 7
      have x8 := r1.cell 8
      simp only [List.getElem?_toArray, List.getElem?_cons_zero, List.getElem?_cons_succ] at x0 x1 x2 x3 x4 x5 x6 x7 x8
      have y0 := r2.cell 0
      have y1 := r2.cell 1
      have y2 := r2.cell 2
      have y3 := r2.cell 3
      have y4 := r2.cell 4
      have y5 := r2.cell 5
      have y6 := r2.cell 6
      have y7 := r2.cell 7
      have y8 := r2.cell 8
      simp only [List.getElem?_toArray, List.getElem?_cons_zero, List.getElem?_cons_succ] at y0 y1 y2 y3 y4 y5 y6 y7 y8
      clear r1 r2
      go_wp2_with fail
      refine (rcKey_any ⟨5, [], 0, 0, tBuck, [98], 0, false, 0⟩ n _ HT.out.sy (HM.out.keeps HR.out.1) HT.out.ky.1 HT.out.ky.2).mono ?_
      rintro e w9 ⟨rfl, hk⟩
      rw [CY.out.1, CY.out.2]
      replace HR := Lib.hid (And.intro (HR.out.1.then_ hk) (And.intro (HR.out.2.1.keeps hk) (HR.out.2.2.keeps hk)))
      clear hk x0 x1 x2 x3 x4 x5 x6 x7 x8 y0 y1 y2 y3 y4 y5 y6 y7 y8
      unfold strV
      have r1 := HR.out.2.1
      have r2 := HR.out.2.2
      have x0 := r1.cell 0
      have x1 := r1.cell 1
      have x2 := r1.cell 2
      have x3 := r1.cell 3
      have x4 := r1.cell 4
      have x5 := r1.cell 5
      have x6 := r1.cell 6
      have x7 := r1.cell 7
      have x8 := r1.cell 8
      simp only [List.getElem?_toArray, List.getElem?_cons_zero, List.getElem?_cons_succ] at x0 x1 x2 x3 x4 x5 x6 x7 x8
      have y0 := r2.cell 0
      have y1 := r2.cell 1
      have y2 := r2.cell 2
      have y3 := r2.cell 3
      have y4 := r2.cell 4
      have y5 := r2.cell 5
      have y6 := r2.cell 6
      have y7 := r2.cell 7
      have y8 := r2.cell 8
      simp only [List.getElem?_toArray, List.getElem?_cons_zero, List.getElem?_cons_succ] at y0 y1 y2 y3 y4 y5 y6 y7 y8
      clear r1 r2
      go_wp2_with fail
      refine (rcIs5_no _).mono ?_
      rintro e w9 ⟨rfl, hk⟩
      have HK := Lib.hid (HR.out.1.then_ hk)
      clear hk x0 x1 x2 x3 x4 x5 x6 x7 x8 y0 y1 y2 y3 y4 y5 y6 y7 y8
      go_wp2_with fail
      refine (known19_any _ (HM.out.keeps HK.out)).mono ?_
      rintro e w9 ⟨rfl, hk⟩
      replace HK := Lib.hid (HK.out.then_ hk)
      clear hk
      go_wp2_with fail
      go_ret
      exact ⟨rfl, HK.out⟩
  | true =>
    obtain ⟨P, hP, HT0⟩ : ∃ P, P = P ∧ Twin ⟨2, [99], 0, 0, tPlum, [], 0, false, 0⟩ ⟨2, [99], 0, 0, tBuck, [], 0, false, 0⟩ P := ⟨_, rfl, twin2⟩
    have HT := Lib.hid HT0
    clear HT0 hP
    have hkl := key_last P (m := m) (n := n) (by omega) (by omega) (by omega) (by omega)
    have CX := Lib.hid (HT.out.cx m (by omega) (by omega))
    have CY := Lib.hid (HT.out.cy n (by omega) (by omega))
    have BX := Lib.hid HT.out.bx
    have BY := Lib.hid HT.out.bg
    obtain ⟨R, hR⟩ : ∃ R, kRaw (P ++ [kInt m]) = R := ⟨_, rfl⟩
    obtain ⟨S, hS⟩ : ∃ S, kRaw (P ++ [kInt n]) = S := ⟨_, rfl⟩
    obtain ⟨B, hB⟩ : ∃ B, kRaw P = B := ⟨_, rfl⟩
    rw [hR] at CX hkl
    rw [hS] at CY hkl
    rw [hB] at BX BY
    clear hR hS hB
    obtain ⟨q1, q2⟩ := hkl
    rcases Nat.lt_trichotomy m n with hmn | hmn | hmn
    · have e1 : (R == S) = false := by rw [q1]; exact decide_eq_false (by omega)
      have e2 : Op.bytesLess R S = true := by rw [q2]; exact decide_eq_true (by omega)
      have e3 : ¬ R = S := by simpa using e1
      have e4 : ¬ m = n := by omega
      have e5 : ((m : Int) == n) = false := by rw [beq_eq_false_iff_ne]; omega
      clear q1 q2
      go_enter Tryz.func4, Tryz.ntmps4
      go_upto_region 7 with fail
      obtain ⟨W1, hW1⟩ : ∃ W1, (w.alloc (.cells #[.int .i64 2, .string ⟨#[99]⟩, .int .i64 0, .int .i64 0, .string ⟨#[112, 108, 117, 109, 108, 101, 115, 115]⟩, .string ⟨#[]⟩, .int .i64 0, .bool false, .int .i64 0] 25)).alloc (.cells #[.int .i64 2, .string ⟨#[99]⟩, .int .i64 0, .int .i64 0, .string ⟨#[98, 117, 99, 107, 101, 114, 111, 111]⟩, .string ⟨#[]⟩, .int .i64 0, .bool false, .int .i64 0] 25) = W1 := ⟨_, rfl⟩
      rw [hW1]
      have k1 : Keeps w W1 [] := by rw [← hW1]; exact (Keeps.alloc _ _).then_alloc _
      have r1 : Row W1 w.heap.size 25 #[.int .i64 2, .string ⟨#[99]⟩, .int .i64 0, .int .i64 0, .string ⟨#[112, 108, 117, 109, 108, 101, 115, 115]⟩, .string ⟨#[]⟩, .int .i64 0, .bool false, .int .i64 0] := by rw [← hW1]; exact (Row.new _ _ _).alloc _
      have r2 : Row W1 (w.heap.size + 1) 25 #[.int .i64 2, .string ⟨#[99]⟩, .int .i64 0, .int .i64 0, .string ⟨#[98, 117, 99, 107, 101, 114, 111, 111]⟩, .string ⟨#[]⟩, .int .i64 0, .bool false, .int .i64 0] := by
        rw [← hW1]
        have := Row.new (w.alloc (.cells #[.int .i64 2, .string ⟨#[99]⟩, .int .i64 0, .int .i64 0, .string ⟨#[112, 108, 117, 109, 108, 101, 115, 115]⟩, .string ⟨#[]⟩, .int .i64 0, .bool false, .int .i64 0] 25)) 25 #[.int .i64 2, .string ⟨#[99]⟩, .int .i64 0, .int .i64 0, .string ⟨#[98, 117, 99, 107, 101, 114, 111, 111]⟩, .string ⟨#[]⟩, .int .i64 0, .bool false, .int .i64 0]
        rwa [World.size_alloc] at this
      have HR := Lib.hid (And.intro k1 (And.intro r1 r2))
      clear k1 r1 r2 hW1
      have r1 := HR.out.2.1
      have r2 := HR.out.2.2
      have x0 := r1.cell 0
      have x1 := r1.cell 1
      have x2 := r1.cell 2
      have x3 := r1.cell 3
      have x4 := r1.cell 4
      have x5 := r1.cell 5
      have x6 := r1.cell 6
      have x7 := r1.cell 7
      have x8 := r1.cell 8
      simp only [List.getElem?_toArray, List.getElem?_cons_zero, List.getElem?_cons_succ] at x0 x1 x2 x3 x4 x5 x6 x7 x8
      have y0 := r2.cell 0
      have y1 := r2.cell 1
      have y2 := r2.cell 2
      have y3 := r2.cell 3
      have y4 := r2.cell 4
      have y5 := r2.cell 5
      have y6 := r2.cell 6
      have y7 := r2.cell 7
      have y8 := r2.cell 8
      simp only [List.getElem?_toArray, List.getElem?_cons_zero, List.getElem?_cons_succ] at y0 y1 y2 y3 y4 y5 y6 y7 y8
      clear r1 r2
      go_wp2_with fail
      refine (rcBegin_any ⟨2, [99], 0, 0, tPlum, [], 0, false, 0⟩ _ HT.out.sx (HM.out.keeps HR.out.1) HT.out.kx.1 HT.out.kx.2).mono ?_
      rintro e w9 ⟨rfl, hk⟩
      rw [BX.out.1, BX.out.2]
      replace HR := Lib.hid (And.intro (HR.out.1.then_ hk) (And.intro (HR.out.2.1.keeps hk) (HR.out.2.2.keeps hk)))
      clear hk x0 x1 x2 x3 x4 x5 x6 x7 x8 y0 y1 y2 y3 y4 y5 y6 y7 y8
      unfold strV
      have r1 := HR.out.2.1
      have r2 := HR.out.2.2
      have x0 := r1.cell 0
      have x1 := r1.cell 1
      have x2 := r1.cell 2
      have x3 := r1.cell 3
      have x4 := r1.cell 4
      have x5 := r1.cell 5
      have x6 := r1.cell 6
      have x7 := r1.cell 7
      have x8 := r1.cell 8
      simp only [List.getElem?_toArray, List.getElem?_cons_zero, List.getElem?_cons_succ] at x0 x1 x2 x3 x4 x5 x6 x7 x8
      have y0 := r2.cell 0
      have y1 := r2.cell 1
      have y2 := r2.cell 2
      have y3 := r2.cell 3
      have y4 := r2.cell 4
      have y5 := r2.cell 5
      have y6 := r2.cell 6
      have y7 := r2.cell 7
      have y8 := r2.cell 8
      simp only [List.getElem?_toArray, List.getElem?_cons_zero, List.getElem?_cons_succ] at y0 y1 y2 y3 y4 y5 y6 y7 y8
      clear r1 r2
      go_wp2_with fail
      refine (rcBegin_any ⟨2, [99], 0, 0, tBuck, [], 0, false, 0⟩ _ HT.out.sy (HM.out.keeps HR.out.1) HT.out.ky.1 HT.out.ky.2).mono ?_
      rintro e w9 ⟨rfl, hk⟩
      rw [BY.out.1, BY.out.2]
      replace HR := Lib.hid (And.intro (HR.out.1.then_ hk) (And.intro (HR.out.2.1.keeps hk) (HR.out.2.2.keeps hk)))
      clear hk x0 x1 x2 x3 x4 x5 x6 x7 x8 y0 y1 y2 y3 y4 y5 y6 y7 y8
      unfold strV
      have r1 := HR.out.2.1
      have r2 := HR.out.2.2
      have x0 := r1.cell 0
      have x1 := r1.cell 1
      have x2 := r1.cell 2
      have x3 := r1.cell 3
      have x4 := r1.cell 4
      have x5 := r1.cell 5
      have x6 := r1.cell 6
      have x7 := r1.cell 7
      have x8 := r1.cell 8
      simp only [List.getElem?_toArray, List.getElem?_cons_zero, List.getElem?_cons_succ] at x0 x1 x2 x3 x4 x5 x6 x7 x8
      have y0 := r2.cell 0
      have y1 := r2.cell 1
      have y2 := r2.cell 2
      have y3 := r2.cell 3
      have y4 := r2.cell 4
      have y5 := r2.cell 5
      have y6 := r2.cell 6
      have y7 := r2.cell 7
      have y8 := r2.cell 8
      simp only [List.getElem?_toArray, List.getElem?_cons_zero, List.getElem?_cons_succ] at y0 y1 y2 y3 y4 y5 y6 y7 y8
      clear r1 r2
      go_wp2_with fail
      refine (rcKey_any ⟨2, [99], 0, 0, tPlum, [], 0, false, 0⟩ m _ HT.out.sx (HM.out.keeps HR.out.1) HT.out.kx.1 HT.out.kx.2).mono ?_
      rintro e w9 ⟨rfl, hk⟩
      rw [CX.out.1, CX.out.2]
      replace HR := Lib.hid (And.intro (HR.out.1.then_ hk) (And.intro (HR.out.2.1.keeps hk) (HR.out.2.2.keeps hk)))
      clear hk x0 x1 x2 x3 x4 x5 x6 x7 x8 y0 y1 y2 y3 y4 y5 y6 y7 y8
      unfold strV
      have r1 := HR.out.2.1
      have r2 := HR.out.2.2
      have x0 := r1.cell 0
      have x1 := r1.cell 1
      have x2 := r1.cell 2
      have x3 := r1.cell 3
      have x4 := r1.cell 4
      have x5 := r1.cell 5
      have x6 := r1.cell 6
      have x7 := r1.cell 7
      have x8 := r1.cell 8
      simp only [List.getElem?_toArray, List.getElem?_cons_zero, List.getElem?_cons_succ] at x0 x1 x2 x3 x4 x5 x6 x7 x8
      have y0 := r2.cell 0
      have y1 := r2.cell 1
      have y2 := r2.cell 2
      have y3 := r2.cell 3
      have y4 := r2.cell 4
      have y5 := r2.cell 5
      have y6 := r2.cell 6
      have y7 := r2.cell 7
      have y8 := r2.cell 8
      simp only [List.getElem?_toArray, List.getElem?_cons_zero, List.getElem?_cons_succ] at y0 y1 y2 y3 y4 y5 y6 y7 y8
      clear r1 r2
      go_wp2_with fail
      refine (rcKey_any ⟨2, [99], 0, 0, tBuck, [], 0, false, 0⟩ n _ HT.out.sy (HM.out.keeps HR.out.1) HT.out.ky.1 HT.out.ky.2).mono ?_
      rintro e w9 ⟨rfl, hk⟩
      rw [CY.out.1, CY.out.2]
      replace HR := Lib.hid (And.intro (HR.out.1.then_ hk) (And.intro (HR.out.2.1.keeps hk) (HR.out.2.2.keeps hk)))
      clear hk x0 x1 x2 x3 x4 x5 x6 x7 x8 y0 y1 y2 y3 y4 y5 y6 y7 y8
      unfold strV
      have r1 := HR.out.2.1
      have r2 := HR.out.2.2
      have x0 := r1.cell 0
      have x1 := r1.cell 1
      have x2 := r1.cell 2
      have x3 := r1.cell 3
      have x4 := r1.cell 4
      have x5 := r1.cell 5
      have x6 := r1.cell 6
      have x7 := r1.cell 7
      have x8 := r1.cell 8
      simp only [List.getElem?_toArray, List.getElem?_cons_zero, List.getElem?_cons_succ] at x0 x1 x2 x3 x4 x5 x6 x7 x8
      have y0 := r2.cell 0
      have y1 := r2.cell 1
      have y2 := r2.cell 2
      have y3 := r2.cell 3
      have y4 := r2.cell 4
      have y5 := r2.cell 5
      have y6 := r2.cell 6
      have y7 := r2.cell 7
      have y8 := r2.cell 8
      simp only [List.getElem?_toArray, List.getElem?_cons_zero, List.getElem?_cons_succ] at y0 y1 y2 y3 y4 y5 y6 y7 y8
      clear r1 r2
      go_wp2_with fail
      refine (rcIs2_no _).mono ?_
      rintro e w9 ⟨rfl, hk⟩
      have HK := Lib.hid (HR.out.1.then_ hk)
      clear hk x0 x1 x2 x3 x4 x5 x6 x7 x8 y0 y1 y2 y3 y4 y5 y6 y7 y8
      go_wp2_with fail
      refine (known19_any _ (HM.out.keeps HK.out)).mono ?_
      rintro e w9 ⟨rfl, hk⟩
      replace HK := Lib.hid (HK.out.then_ hk)
      clear hk
      go_wp2_with fail
      go_ret
      exact ⟨rfl, HK.out⟩
    · subst hmn
      have hRS : R = S := by simpa using q1
      subst hRS
      have e2 : Op.bytesLess R R = false := by rw [q2]; exact decide_eq_false (by omega)
      clear q1 q2
      go_enter Tryz.func4, Tryz.ntmps4
      go_upto_region 7 with fail
      obtain ⟨W1, hW1⟩ : ∃ W1, (w.alloc (.cells #[.int .i64 2, .string ⟨#[99]⟩, .int .i64 0, .int .i64 0, .string ⟨#[112, 108, 117, 109, 108, 101, 115, 115]⟩, .string ⟨#[]⟩, .int .i64 0, .bool false, .int .i64 0] 25)).alloc (.cells #[.int .i64 2, .string ⟨#[99]⟩, .int .i64 0, .int .i64 0, .string ⟨#[98, 117, 99, 107, 101, 114, 111, 111]⟩, .string ⟨#[]⟩, .int .i64 0, .bool false, .int .i64 0] 25) = W1 := ⟨_, rfl⟩
      rw [hW1]
      have k1 : Keeps w W1 [] := by rw [← hW1]; exact (Keeps.alloc _ _).then_alloc _
      have r1 : Row W1 w.heap.size 25 #[.int .i64 2, .string ⟨#[99]⟩, .int .i64 0, .int .i64 0, .string ⟨#[112, 108, 117, 109, 108, 101, 115, 115]⟩, .string ⟨#[]⟩, .int .i64 0, .bool false, .int .i64 0] := by rw [← hW1]; exact (Row.new _ _ _).alloc _
      have r2 : Row W1 (w.heap.size + 1) 25 #[.int .i64 2, .string ⟨#[99]⟩, .int .i64 0, .int .i64 0, .string ⟨#[98, 117, 99, 107, 101, 114, 111, 111]⟩, .string ⟨#[]⟩, .int .i64 0, .bool false, .int .i64 0] := by
        rw [← hW1]
        have := Row.new (w.alloc (.cells #[.int .i64 2, .string ⟨#[99]⟩, .int .i64 0, .int .i64 0, .string ⟨#[112, 108, 117, 109, 108, 101, 115, 115]⟩, .string ⟨#[]⟩, .int .i64 0, .bool false, .int .i64 0] 25)) 25 #[.int .i64 2, .string ⟨#[99]⟩, .int .i64 0, .int .i64 0, .string ⟨#[98, 117, 99, 107, 101, 114, 111, 111]⟩, .string ⟨#[]⟩, .int .i64 0, .bool false, .int .i64 0]
        rwa [World.size_alloc] at this
      have HR := Lib.hid (And.intro k1 (And.intro r1 r2))
      clear k1 r1 r2 hW1
      have r1 := HR.out.2.1
      have r2 := HR.out.2.2
      have x0 := r1.cell 0
      have x1 := r1.cell 1
      have x2 := r1.cell 2
      have x3 := r1.cell 3
      have x4 := r1.cell 4
      have x5 := r1.cell 5
      have x6 := r1.cell 6
      have x7 := r1.cell 7
      have x8 := r1.cell 8
      simp only [List.getElem?_toArray, List.getElem?_cons_zero, List.getElem?_cons_succ] at x0 x1 x2 x3 x4 x5 x6 x7 x8
      have y0 := r2.cell 0
      have y1 := r2.cell 1
      have y2 := r2.cell 2
      have y3 := r2.cell 3
      have y4 := r2.cell 4
      have y5 := r2.cell 5
      have y6 := r2.cell 6
      have y7 := r2.cell 7
      have y8 := r2.cell 8
      simp only [List.getElem?_toArray, List.getElem?_cons_zero, List.getElem?_cons_succ] at y0 y1 y2 y3 y4 y5 y6 y7 y8
      clear r1 r2
      go_wp2_with fail
      refine (rcBegin_any ⟨2, [99], 0, 0, tPlum, [], 0, false, 0⟩ _ HT.out.sx (HM.out.keeps HR.out.1) HT.out.kx.1 HT.out.kx.2).mono ?_
      rintro e w9 ⟨rfl, hk⟩
      rw [BX.out.1, BX.out.2]
      replace HR := Lib.hid (And.intro (HR.out.1.then_ hk) (And.intro (HR.out.2.1.keeps hk) (HR.out.2.2.keeps hk)))
      clear hk x0 x1 x2 x3 x4 x5 x6 x7 x8 y0 y1 y2 y3 y4 y5 y6 y7 y8
      unfold strV
      have r1 := HR.out.2.1
      have r2 := HR.out.2.2
      have x0 := r1.cell 0
      have x1 := r1.cell 1
      have x2 := r1.cell 2
      have x3 := r1.cell 3
      have x4 := r1.cell 4
      have x5 := r1.cell 5
      have x6 := r1.cell 6
      have x7 := r1.cell 7
      have x8 := r1.cell 8
      simp only [List.getElem?_toArray, List.getElem?_cons_zero, List.getElem?_cons_succ] at x0 x1 x2 x3 x4 x5 x6 x7 x8
      have y0 := r2.cell 0
      have y1 := r2.cell 1
      have y2 := r2.cell 2
      have y3 := r2.cell 3
      have y4 := r2.cell 4
      have y5 := r2.cell 5
      have y6 := r2.cell 6
      have y7 := r2.cell 7
      have y8 := r2.cell 8
      simp only [List.getElem?_toArray, List.getElem?_cons_zero, List.getElem?_cons_succ] at y0 y1 y2 y3 y4 y5 y6 y7 y8
      clear r1 r2
      go_wp2_with fail
      refine (rcBegin_any ⟨2, [99], 0, 0, tBuck, [], 0, false, 0⟩ _ HT.out.sy (HM.out.keeps HR.out.1) HT.out.ky.1 HT.out.ky.2).mono ?_
      rintro e w9 ⟨rfl, hk⟩
      rw [BY.out.1, BY.out.2]
      replace HR := Lib.hid (And.intro (HR.out.1.then_ hk) (And.intro (HR.out.2.1.keeps hk) (HR.out.2.2.keeps hk)))
      clear hk x0 x1 x2 x3 x4 x5 x6 x7 x8 y0 y1 y2 y3 y4 y5 y6 y7 y8
      unfold strV
      have r1 := HR.out.2.1
      have r2 := HR.out.2.2
      have x0 := r1.cell 0
      have x1 := r1.cell 1
      have x2 := r1.cell 2
      have x3 := r1.cell 3
      have x4 := r1.cell 4
      have x5 := r1.cell 5
      have x6 := r1.cell 6
      have x7 := r1.cell 7
      have x8 := r1.cell 8
      simp only [List.getElem?_toArray, List.getElem?_cons_zero, List.getElem?_cons_succ] at x0 x1 x2 x3 x4 x5 x6 x7 x8
      have y0 := r2.cell 0
      have y1 := r2.cell 1
      have y2 := r2.cell 2
      have y3 := r2.cell 3
      have y4 := r2.cell 4
      have y5 := r2.cell 5
      have y6 := r2.cell 6
      have y7 := r2.cell 7
      have y8 := r2.cell 8
      simp only [List.getElem?_toArray, List.getElem?_cons_zero, List.getElem?_cons_succ] at y0 y1 y2 y3 y4 y5 y6 y7 y8
      clear r1 r2
      go_wp2_with fail
      refine (rcKey_any ⟨2, [99], 0, 0, tPlum, [], 0, false, 0⟩ m _ HT.out.sx (HM.out.keeps HR.out.1) HT.out.kx.1 HT.out.kx.2).mono ?_
      rintro e w9 ⟨rfl, hk⟩
      rw [CX.out.1, CX.out.2]
      replace HR := Lib.hid (And.intro (HR.out.1.then_ hk) (And.intro (HR.out.2.1.keeps hk) (HR.out.2.2.keeps hk)))
      clear hk x0 x1 x2 x3 x4 x5 x6 x7 x8 y0 y1 y2 y3 y4 y5 y6 y7 y8
      unfold strV
      have r1 := HR.out.2.1
      have r2 := HR.out.2.2
      have x0 := r1.cell 0
      have x1 := r1.cell 1
      have x2 := r1.cell 2
      have x3 := r1.cell 3
      have x4 := r1.cell 4
      have x5 := r1.cell 5
      have x6 := r1.cell 6
      have x7 := r1.cell 7
      have x8 := r1.cell 8
      simp only [List.getElem?_toArray, List.getElem?_cons_zero, List.getElem?_cons_succ] at x0 x1 x2 x3 x4 x5 x6 x7 x8
      have y0 := r2.cell 0
      have y1 := r2.cell 1
      have y2 := r2.cell 2
      have y3 := r2.cell 3
      have y4 := r2.cell 4
      have y5 := r2.cell 5
      have y6 := r2.cell 6
      have y7 := r2.cell 7
      have y8 := r2.cell 8
      simp only [List.getElem?_toArray, List.getElem?_cons_zero, List.getElem?_cons_succ] at y0 y1 y2 y3 y4 y5 y6 y7 y8
      clear r1 r2
      go_wp2_with fail
      refine (rcKey_any ⟨2, [99], 0, 0, tBuck, [], 0, false, 0⟩ m _ HT.out.sy (HM.out.keeps HR.out.1) HT.out.ky.1 HT.out.ky.2).mono ?_
      rintro e w9 ⟨rfl, hk⟩
      rw [CY.out.1, CY.out.2]
      replace HR := Lib.hid (And.intro (HR.out.1.then_ hk) (And.intro (HR.out.2.1.keeps hk) (HR.out.2.2.keeps hk)))
      clear hk x0 x1 x2 x3 x4 x5 x6 x7 x8 y0 y1 y2 y3 y4 y5 y6 y7 y8
      unfold strV
      have r1 := HR.out.2.1
      have r2 := HR.out.2.2
      have x0 := r1.cell 0
      have x1 := r1.cell 1
      have x2 := r1.cell 2
      have x3 := r1.cell 3
      have x4 := r1.cell 4
      have x5 := r1.cell 5
      have x6 := r1.cell 6
      have x7 := r1.cell 7
      have x8 := r1.cell 8
      simp only [List.getElem?_toArray, List.getElem?_cons_zero, List.getElem?_cons_succ] at x0 x1 x2 x3 x4 x5 x6 x7 x8
      have y0 := r2.cell 0
      have y1 := r2.cell 1
      have y2 := r2.cell 2
      have y3 := r2.cell 3
      have y4 := r2.cell 4
      have y5 := r2.cell 5
      have y6 := r2.cell 6
      have y7 := r2.cell 7
      have y8 := r2.cell 8
      simp only [List.getElem?_toArray, List.getElem?_cons_zero, List.getElem?_cons_succ] at y0 y1 y2 y3 y4 y5 y6 y7 y8
      clear r1 r2
      go_wp2_with fail
      refine (rcIs2_no _).mono ?_
      rintro e w9 ⟨rfl, hk⟩
      have HK := Lib.hid (HR.out.1.then_ hk)
      clear hk x0 x1 x2 x3 x4 x5 x6 x7 x8 y0 y1 y2 y3 y4 y5 y6 y7 y8
      go_wp2_with fail
      refine (known19_any _ (HM.out.keeps HK.out)).mono ?_
      rintro e w9 ⟨rfl, hk⟩
      replace HK := Lib.hid (HK.out.then_ hk)
      clear hk
      go_wp2_with fail
      go_ret
      exact ⟨rfl, HK.out⟩
    · have e1 : (R == S) = false := by rw [q1]; exact decide_eq_false (by omega)
      have e2 : Op.bytesLess R S = false := by rw [q2]; exact decide_eq_false (by omega)
      have e3 : ¬ R = S := by simpa using e1
      have e4 : ¬ m = n := by omega
      have e5 : ((m : Int) == n) = false := by rw [beq_eq_false_iff_ne]; omega
      have e6 : ¬ m < n := by omega
      clear q1 q2
      go_enter Tryz.func4, Tryz.ntmps4
      go_upto_region 7 with fail
      obtain ⟨W1, hW1⟩ : ∃ W1, (w.alloc (.cells #[.int .i64 2, .string ⟨#[99]⟩, .int .i64 0, .int .i64 0, .string ⟨#[112, 108, 117, 109, 108, 101, 115, 115]⟩, .string ⟨#[]⟩, .int .i64 0, .bool false, .int .i64 0] 25)).alloc (.cells #[.int .i64 2, .string ⟨#[99]⟩, .int .i64 0, .int .i64 0, .string ⟨#[98, 117, 99, 107, 101, 114, 111, 111]⟩, .string ⟨#[]⟩, .int .i64 0, .bool false, .int .i64 0] 25) = W1 := ⟨_, rfl⟩
      rw [hW1]
      have k1 : Keeps w W1 [] := by rw [← hW1]; exact (Keeps.alloc _ _).then_alloc _
      have r1 : Row W1 w.heap.size 25 #[.int .i64 2, .string ⟨#[99]⟩, .int .i64 0, .int .i64 0, .string ⟨#[112, 108, 117, 109, 108, 101, 115, 115]⟩, .string ⟨#[]⟩, .int .i64 0, .bool false, .int .i64 0] := by rw [← hW1]; exact (Row.new _ _ _).alloc _
      have r2 : Row W1 (w.heap.size + 1) 25 #[.int .i64 2, .string ⟨#[99]⟩, .int .i64 0, .int .i64 0, .string ⟨#[98, 117, 99, 107, 101, 114, 111, 111]⟩, .string ⟨#[]⟩, .int .i64 0, .bool false, .int .i64 0] := by
        rw [← hW1]
        have := Row.new (w.alloc (.cells #[.int .i64 2, .string ⟨#[99]⟩, .int .i64 0, .int .i64 0, .string ⟨#[112, 108, 117, 109, 108, 101, 115, 115]⟩, .string ⟨#[]⟩, .int .i64 0, .bool false, .int .i64 0] 25)) 25 #[.int .i64 2, .string ⟨#[99]⟩, .int .i64 0, .int .i64 0, .string ⟨#[98, 117, 99, 107, 101, 114, 111, 111]⟩, .string ⟨#[]⟩, .int .i64 0, .bool false, .int .i64 0]
        rwa [World.size_alloc] at this
      have HR := Lib.hid (And.intro k1 (And.intro r1 r2))
      clear k1 r1 r2 hW1
      have r1 := HR.out.2.1
      have r2 := HR.out.2.2
      have x0 := r1.cell 0
      have x1 := r1.cell 1
      have x2 := r1.cell 2
      have x3 := r1.cell 3
      have x4 := r1.cell 4
      have x5 := r1.cell 5
      have x6 := r1.cell 6
      have x7 := r1.cell 7
      have x8 := r1.cell 8
      simp only [List.getElem?_toArray, List.getElem?_cons_zero, List.getElem?_cons_succ] at x0 x1 x2 x3 x4 x5 x6 x7 x8
      have y0 := r2.cell 0
      have y1 := r2.cell 1
      have y2 := r2.cell 2
      have y3 := r2.cell 3
      have y4 := r2.cell 4
      have y5 := r2.cell 5
      have y6 := r2.cell 6
      have y7 := r2.cell 7
      have y8 := r2.cell 8
      simp only [List.getElem?_toArray, List.getElem?_cons_zero, List.getElem?_cons_succ] at y0 y1 y2 y3 y4 y5 y6 y7 y8
      clear r1 r2
      go_wp2_with fail
      refine (rcBegin_any ⟨2, [99], 0, 0, tPlum, [], 0, false, 0⟩ _ HT.out.sx (HM.out.keeps HR.out.1) HT.out.kx.1 HT.out.kx.2).mono ?_
      rintro e w9 ⟨rfl, hk⟩
      rw [BX.out.1, BX.out.2]
      replace HR := Lib.hid (And.intro (HR.out.1.then_ hk) (And.intro (HR.out.2.1.keeps hk) (HR.out.2.2.keeps hk)))
      clear hk x0 x1 x2 x3 x4 x5 x6 x7 x8 y0 y1 y2 y3 y4 y5 y6 y7 y8
      unfold strV
      have r1 := HR.out.2.1
      have r2 := HR.out.2.2
      have x0 := r1.cell 0
      have x1 := r1.cell 1
      have x2 := r1.cell 2
      have x3 := r1.cell 3
      have x4 := r1.cell 4
      have x5 := r1.cell 5
      have x6 := r1.cell 6
      have x7 := r1.cell 7
      have x8 := r1.cell 8
      simp only [List.getElem?_toArray, List.getElem?_cons_zero, List.getElem?_cons_succ] at x0 x1 x2 x3 x4 x5 x6 x7 x8
      have y0 := r2.cell 0
      have y1 := r2.cell 1
      have y2 := r2.cell 2
      have y3 := r2.cell 3
      have y4 := r2.cell 4
      have y5 := r2.cell 5
      have y6 := r2.cell 6
      have y7 := r2.cell 7
      have y8 := r2.cell 8
      simp only [List.getElem?_toArray, List.getElem?_cons_zero, List.getElem?_cons_succ] at y0 y1 y2 y3 y4 y5 y6 y7 y8
      clear r1 r2
      go_wp2_with fail
      refine (rcBegin_any ⟨2, [99], 0, 0, tBuck, [], 0, false, 0⟩ _ HT.out.sy (HM.out.keeps HR.out.1) HT.out.ky.1 HT.out.ky.2).mono ?_
      rintro e w9 ⟨rfl, hk⟩
      rw [BY.out.1, BY.out.2]
      replace HR := Lib.hid (And.intro (HR.out.1.then_ hk) (And.intro (HR.out.2.1.keeps hk) (HR.out.2.2.keeps hk)))
      clear hk x0 x1 x2 x3 x4 x5 x6 x7 x8 y0 y1 y2 y3 y4 y5 y6 y7 y8
      unfold strV
      have r1 := HR.out.2.1
      have r2 := HR.out.2.2
      have x0 := r1.cell 0
      have x1 := r1.cell 1
      have x2 := r1.cell 2
      have x3 := r1.cell 3
      have x4 := r1.cell 4
      have x5 := r1.cell 5
      have x6 := r1.cell 6
      have x7 := r1.cell 7
      have x8 := r1.cell 8
      simp only [List.getElem?_toArray, List.getElem?_cons_zero, List.getElem?_cons_succ] at x0 x1 x2 x3 x4 x5 x6 x7 x8
      have y0 := r2.cell 0
      have y1 := r2.cell 1
      have y2 := r2.cell 2
      have y3 := r2.cell 3
      have y4 := r2.cell 4
      have y5 := r2.cell 5
      have y6 := r2.cell 6
      have y7 := r2.cell 7
      have y8 := r2.cell 8
      simp only [List.getElem?_toArray, List.getElem?_cons_zero, List.getElem?_cons_succ] at y0 y1 y2 y3 y4 y5 y6 y7 y8
      clear r1 r2
      go_wp2_with fail
      refine (rcKey_any ⟨2, [99], 0, 0, tPlum, [], 0, false, 0⟩ m _ HT.out.sx (HM.out.keeps HR.out.1) HT.out.kx.1 HT.out.kx.2).mono ?_
      rintro e w9 ⟨rfl, hk⟩
      rw [CX.out.1, CX.out.2]
      replace HR := Lib.hid (And.intro (HR.out.1.then_ hk) (And.intro (HR.out.2.1.keeps hk) (HR.out.2.2.keeps hk)))
      clear hk x0 x1 x2 x3 x4 x5 x6 x7 x8 y0 y1 y2 y3 y4 y5 y6 y7 y8
      unfold strV
      have r1 := HR.out.2.1
      have r2 := HR.out.2.2
      have x0 := r1.cell 0
      have x1 := r1.cell 1
      have x2 := r1.cell 2
      have x3 := r1.cell 3
      have x4 := r1.cell 4
      have x5 := r1.cell 5
      have x6 := r1.cell 6
      have x7 := r1.cell 7
      have x8 := r1.cell 8
      simp only [List.getElem?_toArray, List.getElem?_cons_zero, List.getElem?_cons_succ] at x0 x1 x2 x3 x4 x5 x6 x7 x8
      have y0 := r2.cell 0
      have y1 := r2.cell 1
      have y2 := r2.cell 2
      have y3 := r2.cell 3
      have y4 := r2.cell 4
      have y5 := r2.cell 5
      have y6 := r2.cell 6
      have y7 := r2.cell 7
      have y8 := r2.cell 8
      simp only [List.getElem?_toArray, List.getElem?_cons_zero, List.getElem?_cons_succ] at y0 y1 y2 y3 y4 y5 y6 y7 y8
      clear r1 r2
      go_wp2_with fail
      refine (rcKey_any ⟨2, [99], 0, 0, tBuck, [], 0, false, 0⟩ n _ HT.out.sy (HM.out.keeps HR.out.1) HT.out.ky.1 HT.out.ky.2).mono ?_
      rintro e w9 ⟨rfl, hk⟩
      rw [CY.out.1, CY.out.2]
      replace HR := Lib.hid (And.intro (HR.out.1.then_ hk) (And.intro (HR.out.2.1.keeps hk) (HR.out.2.2.keeps hk)))
      clear hk x0 x1 x2 x3 x4 x5 x6 x7 x8 y0 y1 y2 y3 y4 y5 y6 y7 y8
      unfold strV
      have r1 := HR.out.2.1
      have r2 := HR.out.2.2
      have x0 := r1.cell 0
      have x1 := r1.cell 1
      have x2 := r1.cell 2
      have x3 := r1.cell 3
      have x4 := r1.cell 4
      have x5 := r1.cell 5
      have x6 := r1.cell 6
      have x7 := r1.cell 7
      have x8 := r1.cell 8
      simp only [List.getElem?_toArray, List.getElem?_cons_zero, List.getElem?_cons_succ] at x0 x1 x2 x3 x4 x5 x6 x7 x8
      have y0 := r2.cell 0
      have y1 := r2.cell 1
      have y2 := r2.cell 2
      have y3 := r2.cell 3
      have y4 := r2.cell 4
      have y5 := r2.cell 5
      have y6 := r2.cell 6
      have y7 := r2.cell 7
      have y8 := r2.cell 8
      simp only [List.getElem?_toArray, List.getElem?_cons_zero, List.getElem?_cons_succ] at y0 y1 y2 y3 y4 y5 y6 y7 y8
      clear r1 r2
      go_wp2_with fail
      refine (rcIs2_no _).mono ?_
      rintro e w9 ⟨rfl, hk⟩
      have HK := Lib.hid (HR.out.1.then_ hk)
      clear hk x0 x1 x2 x3 x4 x5 x6 x7 x8 y0 y1 y2 y3 y4 y5 y6 y7 y8
      go_wp2_with fail
      refine (known19_any _ (HM.out.keeps HK.out)).mono ?_
      rintro e w9 ⟨rfl, hk⟩
      replace HK := Lib.hid (HK.out.then_ hk)
      clear hk
      go_wp2_with fail
      go_ret
      exact ⟨rfl, HK.out⟩
end Go.Proofs.YtfglgeoookbppaaGreatDoor
