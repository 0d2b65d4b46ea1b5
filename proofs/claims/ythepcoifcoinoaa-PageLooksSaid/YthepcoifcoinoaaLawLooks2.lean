/- The statement PageLooks (layer 4): the walk where the bytes are a page's. -/
import Derived.Test.YthepcoifcoinoaaLawLooks
namespace Go.Proofs.Ythepcoifcoinoaa
open Go.RowKit

/-- What is known where Look finds a page. -/
theorem lookErr_zero {l : List UInt8} (h : lookErr l = 0) : l.length = 256 ∧ lookOk l = true ∧ beN (l.take 4) = crcSum (l.drop 4) := by
  unfold lookErr at h
  split at h
  · cases h
  · rename_i h1
    split at h
    · cases h
    · rename_i h2
      split at h
      · rename_i h3
        exact ⟨by omega, h3, by simpa using h2⟩
      · cases h
theorem lookOk_true {l : List UInt8} (h : lookOk l = true) : pgLen l ≤ 232 ∧ pgPad l = 0 ∧ allZero (l.drop (24 + pgLen l)) = true ∧ pageOk (pgKind l) (pgTxid l) (pgNext l) (pgLen l) = true ∧ withinB (pgNum l : Nat) 0 4095 = true := by
  unfold lookOk at h
  simp only [Bool.and_eq_true, decide_eq_true_eq] at h
  exact ⟨h.1.1, h.1.2, h.2.1, h.2.2.1, h.2.2.2⟩
theorem rawI_pg {l : List UInt8} (h : lookErr l = 0) : rawI (pgNum l : Nat) (pgKind l : Nat) (pgTxid l) (pgNext l : Nat) (pgBody l) = l := by
  obtain ⟨h1, h2, h3⟩ := lookErr_zero h
  obtain ⟨a1, a2, a3, a4, a5⟩ := lookOk_true h2
  exact (pgRaw_iff l h1 h3 a1 a4).2 ⟨a2, a3⟩

theorem owned_bytes {w w' : World} {base : Nat} {v : Value} {l : List UInt8} (h : Owned w base v l) (hk : Keeps w w' []) (hl : l.length ≤ 140737488351232) : Bytes w' w'.heap.size v l :=
  Owned.bytes (own_keep h hk (by simp)) hl
theorem lies_on {w w' : World} {A : Option Addr} {l : List UInt8} (h : Lies w w.heap.size A (l.map byteV)) (hk : Keeps w w' []) : Lies w' w'.heap.size A (l.map byteV) :=
  (h.below (hk.below (Nat.le_refl _) (by simp))).mono hk.size

set_option maxRecDepth 100000 in
set_option maxHeartbeats 4000000 in
theorem pageLooks_good (w : World) (n : Int) (A : Option Addr) (c : Nat) (l : List UInt8) (hC : Came w A c l) (he : lookErr l = 0) :
    Calls Try.prog 3 #[.slice A 256 c, .int .i64 n] w fun e w' => e = .returned (.bool true) ∧ Keeps w w' [] := by
  obtain ⟨hl, hlo, _⟩ := lookErr_zero he
  obtain ⟨a1, _, _, a4, a5⟩ := lookOk_true hlo
  have hbl := pgBody_length l hl a1
  have HRI := Lib.hid (rawI_pg he)
  have HC := Lib.hid hC
  have HE := Lib.hid he
  have HL := Lib.hid hl
  have HO := Lib.hid (show pageOk (pgKind l : Nat) (pgTxid l) (pgNext l : Nat) (pgBody l).length = true by rw [hbl]; exact a4)
  have HW := Lib.hid a5
  have hN : 0 ≤ ((pgNum l : Nat) : Int) ∧ ((pgNum l : Nat) : Int) ≤ 4095 := by simpa [withinB] using a5
  have hb3 : (pgBody l).length ≤ 232 := by omega
  have HPE := Lib.hid (show parseErr n l = if withinB n 0 4095 = false then 2 else if ((pgNum l : Nat) : Int) = n then 0 else 141 by simp [parseErr, he])
  clear hC he hl hlo a1 a4 a5 hbl
  generalize hNe : ((pgNum l : Nat) : Int) = N at *
  generalize hKe : ((pgKind l : Nat) : Int) = K at *
  generalize hTe : pgTxid l = T at *
  generalize hXe : ((pgNext l : Nat) : Int) = X at *
  generalize hYe : pgBody l = Y at *
  have HG := Lib.hid (And.intro hNe (And.intro hKe (And.intro hTe (And.intro hXe hYe))))
  clear hNe hKe hTe hXe hYe
  have HLK := Lib.hid (show ∀ W, Keeps w W [] → Calls Try.prog 14 #[.slice A 256 c] W fun e w' => ∃ A1 c1, e = .returned (.tuple #[.int .i64 N, .agg #[.int .i64 K, .int .i64 T, .int .i64 X, .slice A1 Y.length c1], .int .i64 0]) ∧ Owned w' W.heap.size (.slice A1 Y.length c1) Y ∧ Keeps W w' [] from fun W hW => by
    obtain ⟨g1, g2, g3, g4, g5⟩ := HG.out
    refine (look256 W A c l HL.out ((HC.out.keep hW).bytes (by rw [HL.out]; omega))).mono ?_
    rintro e w1 ⟨hk, ⟨_, _, _, A1, c1, rfl, ho⟩ | ⟨h0, _⟩⟩
    · rw [g1, g2, g3, g4, g5]; rw [g5] at ho; exact ⟨A1, c1, rfl, ho, hk⟩
    · exact absurd HE.out h0)
  have HRL := Lib.hid (show ∀ W, Keeps w W [] → Calls Try.prog 15 #[.slice A 256 c] W fun e w' => ∃ A1 c1, e = .returned (.tuple #[.int .i64 N, .agg #[.int .i64 K, .int .i64 T, .int .i64 X, .slice A1 Y.length c1], .int .i64 0]) ∧ Bytes W W.heap.size (.slice A1 Y.length c1) Y ∧ Keeps W w' [] from fun W hW => by
    obtain ⟨g1, g2, g3, g4, g5⟩ := HG.out
    have h := refLook_any W A c l ((HC.out.keep hW).bytes (by rw [HL.out]; omega)) (by rw [HL.out]; omega)
    rw [HL.out] at h
    refine h.mono ?_
    rintro e w1 ⟨hk, ⟨_, _, _, A1, c1, rfl, ho⟩ | ⟨h0, _⟩⟩
    · rw [g1, g2, g3, g4, g5]; rw [g5] at ho; exact ⟨A1, c1, rfl, ho, hk⟩
    · exact absurd HE.out h0)
  have HPA := Lib.hid (show ∀ W, Keeps w W [] → Calls Try.prog 17 #[.int .i64 n, .slice A 256 c] W fun e w' => Keeps W w' [] ∧ ((parseErr n l = 0 ∧ ∃ A1 c1, e = .returned (.tuple #[.agg #[.int .i64 K, .int .i64 T, .int .i64 X, .slice A1 Y.length c1], .int .i64 0]) ∧ Owned w' W.heap.size (.slice A1 Y.length c1) Y) ∨ (parseErr n l ≠ 0 ∧ e = .returned (noParse (parseErr n l)))) from fun W hW => by
    obtain ⟨g1, g2, g3, g4, g5⟩ := HG.out
    refine (parse256 W n A c l HL.out ((HC.out.keep hW).bytes (by rw [HL.out]; omega))).mono ?_
    rintro e w1 ⟨hk, ⟨h0, _, _, A1, c1, rfl, ho⟩ | h0⟩
    · rw [g2, g3, g4, g5]; rw [g5] at ho; exact ⟨hk, .inl ⟨h0, A1, c1, rfl, ho⟩⟩
    · exact ⟨hk, .inr h0⟩)
  by_cases hn : 0 ≤ n ∧ n ≤ 4095
  · have hw : withinB n 0 4095 = true := by simp [withinB, hn]
    have d2 : decide (n < 0) = false := by simp; omega
    have d3 : decide (4095 < n) = false := by simp; omega
    by_cases hE : N = n
    · have e1 : (n == N) = true := by simp [hE]
      have HP := Lib.hid (show parseErr n l = 0 by rw [HPE.out]; simp [hw, hE])
      clear hn hw hE
      go_enter Try.func3, Try.ntmps3
      go_wp2_with fail
      refine (HLK.out w (Keeps.refl _ _)).mono ?_
      rintro e w1 ⟨A1, c1, rfl, ho1, hk1⟩
      have H1 := Lib.hid (And.intro hk1 ho1)
      clear hk1 ho1
      go_wp2_with fail
      obtain ⟨W1, hW1⟩ : ∃ W1, w1.alloc (.cells #[.int .i64 K, .int .i64 T, .int .i64 X, .slice A1 Y.length c1] 26) = W1 := ⟨_, rfl⟩
      have hk1 : Keeps w1 W1 [] := by rw [← hW1]; exact Keeps.alloc _ _
      have rp : Row W1 w1.heap.size 26 #[.int .i64 K, .int .i64 T, .int .i64 X, .slice A1 Y.length c1] := by rw [← hW1]; exact Row.new _ _ _
      rw [hW1]
      clear hW1
      refine (HRL.out W1 (H1.out.1.then_ hk1)).mono ?_
      rintro e w2 ⟨A2, c2, rfl, hb2, hk2⟩
      have H2 := Lib.hid (And.intro ((H1.out.1.then_ hk1).then_ hk2) (And.intro (own_keep H1.out.2 (hk1.then_ hk2) (by simp)) (And.intro (rp.keep hk2 (by simp)) (hb2.below (hk2.below (Nat.le_refl _) (by simp))).lies)))
      have rp2 := rp.keep hk2 (by simp)
      have a0 := rp2.cell 0
      have a1 := rp2.cell 1
      have a2 := rp2.cell 2
      have a3 := rp2.cell 3
      simp only [List.getElem?_toArray, List.getElem?_cons_zero, List.getElem?_cons_succ] at a0 a1 a2 a3
      have hlt := rp2.lt
      have hne : ¬ w1.heap.size = w2.heap.size := by omega
      have hs12 : W1.heap.size ≤ w2.heap.size := hk2.size
      clear hk1 hk2 rp rp2 hb2
      go_wp2_with fail
      obtain ⟨W2, hW2⟩ : ∃ W2, w2.alloc (.cells #[.int .i64 K, .int .i64 T, .int .i64 X, .slice A2 Y.length c2] 26) = W2 := ⟨_, rfl⟩
      have hk2 : Keeps w2 W2 [] := by rw [← hW2]; exact Keeps.alloc _ _
      have rq : Row W2 w2.heap.size 26 #[.int .i64 K, .int .i64 T, .int .i64 X, .slice A2 Y.length c2] := by rw [← hW2]; exact Row.new _ _ _
      rw [hW2]
      clear hW2
      refine (refSame_yes W2 K T X A1 A2 c1 c2 Y (owned_lies H2.out.2.1 hk2) ((H2.out.2.2.2.keep hk2 hs12 (by simp)).mono (Nat.le_trans hs12 hk2.size))).mono ?_
      rintro e w3 ⟨rfl, hk3⟩
      have H3 := Lib.hid (And.intro (H2.out.1.then_ (hk2.then_ hk3)) (And.intro (own_keep H2.out.2.1 (hk2.then_ hk3) (by simp)) (And.intro (H2.out.2.2.1.keep (hk2.then_ hk3) (by simp)) (And.intro (rq.keep hk3 (by simp)) (lies_on ((H2.out.2.2.2.keep hk2 hs12 (by simp)).mono (Nat.le_trans hs12 hk2.size)) hk3)))))
      have l3 : w2.heap.size < w3.heap.size := (rq.keep hk3 (by simp)).lt
      clear hk2 hk3 rq a0 a1 a2 a3
      go_wp2_with fail
      refine (HPA.out w3 H3.out.1).mono ?_
      rintro e w4 ⟨hk4, ⟨_, A4, c4, rfl, ho4⟩ | ⟨h0, _⟩⟩
      rotate_left
      · exact absurd HP.out h0
      have H4 := Lib.hid (And.intro (H3.out.1.then_ hk4) (And.intro (own_keep H3.out.2.1 hk4 (by simp)) (And.intro (H3.out.2.2.1.keep hk4 (by simp)) (And.intro (H3.out.2.2.2.1.keep hk4 (by simp)) (And.intro (lies_on H3.out.2.2.2.2 hk4) ho4)))))
      have p4 := H3.out.2.2.1.keep hk4 (by simp)
      have b0 := p4.cell 0
      have b1 := p4.cell 1
      have b2 := p4.cell 2
      have b3 := p4.cell 3
      simp only [List.getElem?_toArray, List.getElem?_cons_zero, List.getElem?_cons_succ] at b0 b1 b2 b3
      have l4 := p4.lt
      have n4 : ¬ w1.heap.size = w4.heap.size := by omega
      clear hk4 ho4 p4
      go_wp2_with fail
      obtain ⟨W4, hW4⟩ : ∃ W4, w4.alloc (.cells #[.int .i64 K, .int .i64 T, .int .i64 X, .slice A4 Y.length c4] 26) = W4 := ⟨_, rfl⟩
      have hk4 : Keeps w4 W4 [] := by rw [← hW4]; exact Keeps.alloc _ _
      have ro : Row W4 w4.heap.size 26 #[.int .i64 K, .int .i64 T, .int .i64 X, .slice A4 Y.length c4] := by rw [← hW4]; exact Row.new _ _ _
      rw [hW4]
      clear hW4
      refine (raw256 W4 N K T X A1 c1 Y (owned_bytes H4.out.2.1 hk4 (by omega)) HO.out HW.out).mono ?_
      rintro e w5 ⟨b5, o5, c5, rfl, hF5, hk5⟩
      have qq := H4.out.2.2.2.1.keep (hk4.then_ hk5) (by simp)
      have oo := ro.keep hk5 (by simp)
      have f0 := qq.cell 0
      have f1 := qq.cell 1
      have f2 := qq.cell 2
      have f3 := qq.cell 3
      simp only [List.getElem?_toArray, List.getElem?_cons_zero, List.getElem?_cons_succ] at f0 f1 f2 f3
      have g0 := oo.cell 0
      have g1 := oo.cell 1
      have g2 := oo.cell 2
      have g3 := oo.cell 3
      simp only [List.getElem?_toArray, List.getElem?_cons_zero, List.getElem?_cons_succ] at g0 g1 g2 g3
      have H5 := Lib.hid (And.intro (H4.out.1.then_ (hk4.then_ hk5)) (And.intro hF5 (And.intro (own_keep H4.out.2.2.2.2.2 (hk4.then_ hk5) (by simp)) (And.intro (lies_on H4.out.2.2.2.2.1 (hk4.then_ hk5)) trivial))))
      clear hk4 ro hk5 hF5 qq oo b0 b1 b2 b3
      go_wp2_with fail
      refine (refSame_yes w5 K T X A4 A2 c4 c2 Y (owned_lies H5.out.2.2.1 (Keeps.refl _ _)) H5.out.2.2.2.1).mono ?_
      rintro e w6 ⟨rfl, hk6⟩
      have H6 := Lib.hid (And.intro (H5.out.1.then_ hk6) (H5.out.2.1.keep hk6 (by simp)))
      clear hk6 f0 f1 f2 f3 g0 g1 g2 g3
      have CB := (HC.out.keep H6.out.1).2.2.2
      have CV := conv_str _ _ A c l CB
      rw [HL.out] at CV
      have CR := H6.out.2.str
      rw [HRI.out] at CR
      have ll : (l == l) = true := by simp
      clear CB
      go_wp2_with fail
      refine (known4_any _).mono ?_
      rintro e w7 ⟨rfl, hk7⟩
      have H7 := Lib.hid (H6.out.1.then_ hk7)
      clear hk7
      go_wp2
      go_ret
      exact ⟨rfl, H7.out⟩
    · have e1 : (n == N) = false := by simp; omega
      have HP := Lib.hid (show parseErr n l = 141 by rw [HPE.out]; simp [hw, hE])
      clear hn hw hE
      go_enter Try.func3, Try.ntmps3
      go_wp2_with fail
      refine (HLK.out w (Keeps.refl _ _)).mono ?_
      rintro e w1 ⟨A1, c1, rfl, ho1, hk1⟩
      have H1 := Lib.hid (And.intro hk1 ho1)
      clear hk1 ho1
      go_wp2_with fail
      obtain ⟨W1, hW1⟩ : ∃ W1, w1.alloc (.cells #[.int .i64 K, .int .i64 T, .int .i64 X, .slice A1 Y.length c1] 26) = W1 := ⟨_, rfl⟩
      have hk1 : Keeps w1 W1 [] := by rw [← hW1]; exact Keeps.alloc _ _
      have rp : Row W1 w1.heap.size 26 #[.int .i64 K, .int .i64 T, .int .i64 X, .slice A1 Y.length c1] := by rw [← hW1]; exact Row.new _ _ _
      rw [hW1]
      clear hW1
      refine (HRL.out W1 (H1.out.1.then_ hk1)).mono ?_
      rintro e w2 ⟨A2, c2, rfl, hb2, hk2⟩
      have H2 := Lib.hid (And.intro ((H1.out.1.then_ hk1).then_ hk2) (And.intro (own_keep H1.out.2 (hk1.then_ hk2) (by simp)) (And.intro (rp.keep hk2 (by simp)) (hb2.below (hk2.below (Nat.le_refl _) (by simp))).lies)))
      have rp2 := rp.keep hk2 (by simp)
      have a0 := rp2.cell 0
      have a1 := rp2.cell 1
      have a2 := rp2.cell 2
      have a3 := rp2.cell 3
      simp only [List.getElem?_toArray, List.getElem?_cons_zero, List.getElem?_cons_succ] at a0 a1 a2 a3
      have hlt := rp2.lt
      have hne : ¬ w1.heap.size = w2.heap.size := by omega
      have hs12 : W1.heap.size ≤ w2.heap.size := hk2.size
      clear hk1 hk2 rp rp2 hb2
      go_wp2_with fail
      obtain ⟨W2, hW2⟩ : ∃ W2, w2.alloc (.cells #[.int .i64 K, .int .i64 T, .int .i64 X, .slice A2 Y.length c2] 26) = W2 := ⟨_, rfl⟩
      have hk2 : Keeps w2 W2 [] := by rw [← hW2]; exact Keeps.alloc _ _
      have rq : Row W2 w2.heap.size 26 #[.int .i64 K, .int .i64 T, .int .i64 X, .slice A2 Y.length c2] := by rw [← hW2]; exact Row.new _ _ _
      rw [hW2]
      clear hW2
      refine (refSame_yes W2 K T X A1 A2 c1 c2 Y (owned_lies H2.out.2.1 hk2) ((H2.out.2.2.2.keep hk2 hs12 (by simp)).mono (Nat.le_trans hs12 hk2.size))).mono ?_
      rintro e w3 ⟨rfl, hk3⟩
      have H3 := Lib.hid (And.intro (H2.out.1.then_ (hk2.then_ hk3)) (And.intro (own_keep H2.out.2.1 (hk2.then_ hk3) (by simp)) (And.intro (H2.out.2.2.1.keep (hk2.then_ hk3) (by simp)) (And.intro (rq.keep hk3 (by simp)) (lies_on ((H2.out.2.2.2.keep hk2 hs12 (by simp)).mono (Nat.le_trans hs12 hk2.size)) hk3)))))
      have l3 : w2.heap.size < w3.heap.size := (rq.keep hk3 (by simp)).lt
      clear hk2 hk3 rq a0 a1 a2 a3
      go_wp2_with fail
      refine (HPA.out w3 H3.out.1).mono ?_
      rintro e w4 ⟨hk4, ⟨h0, _⟩ | ⟨_, rfl⟩⟩
      · have := HP.out; omega
      rw [HP.out]
      simp only [noParse]
      have H4 := Lib.hid (And.intro (H3.out.1.then_ hk4) (And.intro (own_keep H3.out.2.1 hk4 (by simp)) (H3.out.2.2.1.keep hk4 (by simp))))
      have p4 := H3.out.2.2.1.keep hk4 (by simp)
      have b0 := p4.cell 0
      have b1 := p4.cell 1
      have b2 := p4.cell 2
      have b3 := p4.cell 3
      simp only [List.getElem?_toArray, List.getElem?_cons_zero, List.getElem?_cons_succ] at b0 b1 b2 b3
      have l4 := p4.lt
      have n4 : ¬ w1.heap.size = w4.heap.size := by omega
      clear hk4 p4
      go_wp2_with fail
      refine (raw256 (w4.alloc (.cells #[.int .i64 0, .int .i64 0, .int .i64 0, .slice none 0 0] 26)) N K T X A1 c1 Y (owned_bytes H4.out.2.1 (Keeps.alloc _ _) (by omega)) HO.out HW.out).mono ?_
      rintro e w6 ⟨b5, o5, c5, rfl, hF5, hk5⟩
      have H6 := Lib.hid (And.intro (H4.out.1.then_ ((Keeps.alloc w4 _).then_ hk5)) hF5)
      clear hk5 hF5 b0 b1 b2 b3
      have CB := (HC.out.keep H6.out.1).2.2.2
      have CV := conv_str _ _ A c l CB
      rw [HL.out] at CV
      have CR := H6.out.2.str
      rw [HRI.out] at CR
      have ll : (l == l) = true := by simp
      clear CB
      go_wp2_with fail
      refine (known4_any _).mono ?_
      rintro e w7 ⟨rfl, hk7⟩
      have H7 := Lib.hid (H6.out.1.then_ hk7)
      clear hk7
      go_wp2
      go_ret
      exact ⟨rfl, H7.out⟩
  · have hw : withinB n 0 4095 = false := by simp [withinB]; omega
    have HP := Lib.hid (show parseErr n l = 2 by rw [HPE.out]; simp [hw])
    by_cases h0 : n < 0
    · have d2 : decide (n < 0) = true := by simp; omega
      clear hn h0 hw
      go_enter Try.func3, Try.ntmps3
      go_wp2_with fail
      refine (HLK.out w (Keeps.refl _ _)).mono ?_
      rintro e w1 ⟨A1, c1, rfl, ho1, hk1⟩
      have H1 := Lib.hid (And.intro hk1 ho1)
      clear hk1 ho1
      go_wp2_with fail
      obtain ⟨W1, hW1⟩ : ∃ W1, w1.alloc (.cells #[.int .i64 K, .int .i64 T, .int .i64 X, .slice A1 Y.length c1] 26) = W1 := ⟨_, rfl⟩
      have hk1 : Keeps w1 W1 [] := by rw [← hW1]; exact Keeps.alloc _ _
      have rp : Row W1 w1.heap.size 26 #[.int .i64 K, .int .i64 T, .int .i64 X, .slice A1 Y.length c1] := by rw [← hW1]; exact Row.new _ _ _
      rw [hW1]
      clear hW1
      refine (HRL.out W1 (H1.out.1.then_ hk1)).mono ?_
      rintro e w2 ⟨A2, c2, rfl, hb2, hk2⟩
      have H2 := Lib.hid (And.intro ((H1.out.1.then_ hk1).then_ hk2) (And.intro (own_keep H1.out.2 (hk1.then_ hk2) (by simp)) (And.intro (rp.keep hk2 (by simp)) (hb2.below (hk2.below (Nat.le_refl _) (by simp))).lies)))
      have rp2 := rp.keep hk2 (by simp)
      have a0 := rp2.cell 0
      have a1 := rp2.cell 1
      have a2 := rp2.cell 2
      have a3 := rp2.cell 3
      simp only [List.getElem?_toArray, List.getElem?_cons_zero, List.getElem?_cons_succ] at a0 a1 a2 a3
      have hlt := rp2.lt
      have hne : ¬ w1.heap.size = w2.heap.size := by omega
      have hs12 : W1.heap.size ≤ w2.heap.size := hk2.size
      clear hk1 hk2 rp rp2 hb2
      go_wp2_with fail
      obtain ⟨W2, hW2⟩ : ∃ W2, w2.alloc (.cells #[.int .i64 K, .int .i64 T, .int .i64 X, .slice A2 Y.length c2] 26) = W2 := ⟨_, rfl⟩
      have hk2 : Keeps w2 W2 [] := by rw [← hW2]; exact Keeps.alloc _ _
      have rq : Row W2 w2.heap.size 26 #[.int .i64 K, .int .i64 T, .int .i64 X, .slice A2 Y.length c2] := by rw [← hW2]; exact Row.new _ _ _
      rw [hW2]
      clear hW2
      refine (refSame_yes W2 K T X A1 A2 c1 c2 Y (owned_lies H2.out.2.1 hk2) ((H2.out.2.2.2.keep hk2 hs12 (by simp)).mono (Nat.le_trans hs12 hk2.size))).mono ?_
      rintro e w3 ⟨rfl, hk3⟩
      have H3 := Lib.hid (And.intro (H2.out.1.then_ (hk2.then_ hk3)) (And.intro (own_keep H2.out.2.1 (hk2.then_ hk3) (by simp)) (And.intro (H2.out.2.2.1.keep (hk2.then_ hk3) (by simp)) (And.intro (rq.keep hk3 (by simp)) (lies_on ((H2.out.2.2.2.keep hk2 hs12 (by simp)).mono (Nat.le_trans hs12 hk2.size)) hk3)))))
      have l3 : w2.heap.size < w3.heap.size := (rq.keep hk3 (by simp)).lt
      clear hk2 hk3 rq a0 a1 a2 a3
      go_wp2_with fail
      refine (HPA.out w3 H3.out.1).mono ?_
      rintro e w4 ⟨hk4, ⟨h0, _⟩ | ⟨_, rfl⟩⟩
      · have := HP.out; omega
      rw [HP.out]
      simp only [noParse]
      have H4 := Lib.hid (H3.out.1.then_ hk4)
      clear hk4
      go_wp2_with fail
      refine (refSame_zero _).mono ?_
      rintro e w5 ⟨rfl, hk5⟩
      have H5 := Lib.hid ((H4.out.then_alloc _).then_ hk5)
      clear hk5
      go_wp2_with fail
      refine (known4_any _).mono ?_
      rintro e w6 ⟨rfl, hk6⟩
      have H6 := Lib.hid (H5.out.then_ hk6)
      clear hk6
      go_wp2
      go_ret
      exact ⟨rfl, H6.out⟩
    · have d2 : decide (n < 0) = false := by simp; omega
      have d3 : decide (4095 < n) = true := by simp; omega
      clear hn h0 hw
      go_enter Try.func3, Try.ntmps3
      go_wp2_with fail
      refine (HLK.out w (Keeps.refl _ _)).mono ?_
      rintro e w1 ⟨A1, c1, rfl, ho1, hk1⟩
      have H1 := Lib.hid (And.intro hk1 ho1)
      clear hk1 ho1
      go_wp2_with fail
      obtain ⟨W1, hW1⟩ : ∃ W1, w1.alloc (.cells #[.int .i64 K, .int .i64 T, .int .i64 X, .slice A1 Y.length c1] 26) = W1 := ⟨_, rfl⟩
      have hk1 : Keeps w1 W1 [] := by rw [← hW1]; exact Keeps.alloc _ _
      have rp : Row W1 w1.heap.size 26 #[.int .i64 K, .int .i64 T, .int .i64 X, .slice A1 Y.length c1] := by rw [← hW1]; exact Row.new _ _ _
      rw [hW1]
      clear hW1
      refine (HRL.out W1 (H1.out.1.then_ hk1)).mono ?_
      rintro e w2 ⟨A2, c2, rfl, hb2, hk2⟩
      have H2 := Lib.hid (And.intro ((H1.out.1.then_ hk1).then_ hk2) (And.intro (own_keep H1.out.2 (hk1.then_ hk2) (by simp)) (And.intro (rp.keep hk2 (by simp)) (hb2.below (hk2.below (Nat.le_refl _) (by simp))).lies)))
      have rp2 := rp.keep hk2 (by simp)
      have a0 := rp2.cell 0
      have a1 := rp2.cell 1
      have a2 := rp2.cell 2
      have a3 := rp2.cell 3
      simp only [List.getElem?_toArray, List.getElem?_cons_zero, List.getElem?_cons_succ] at a0 a1 a2 a3
      have hlt := rp2.lt
      have hne : ¬ w1.heap.size = w2.heap.size := by omega
      have hs12 : W1.heap.size ≤ w2.heap.size := hk2.size
      clear hk1 hk2 rp rp2 hb2
      go_wp2_with fail
      obtain ⟨W2, hW2⟩ : ∃ W2, w2.alloc (.cells #[.int .i64 K, .int .i64 T, .int .i64 X, .slice A2 Y.length c2] 26) = W2 := ⟨_, rfl⟩
      have hk2 : Keeps w2 W2 [] := by rw [← hW2]; exact Keeps.alloc _ _
      have rq : Row W2 w2.heap.size 26 #[.int .i64 K, .int .i64 T, .int .i64 X, .slice A2 Y.length c2] := by rw [← hW2]; exact Row.new _ _ _
      rw [hW2]
      clear hW2
      refine (refSame_yes W2 K T X A1 A2 c1 c2 Y (owned_lies H2.out.2.1 hk2) ((H2.out.2.2.2.keep hk2 hs12 (by simp)).mono (Nat.le_trans hs12 hk2.size))).mono ?_
      rintro e w3 ⟨rfl, hk3⟩
      have H3 := Lib.hid (And.intro (H2.out.1.then_ (hk2.then_ hk3)) (And.intro (own_keep H2.out.2.1 (hk2.then_ hk3) (by simp)) (And.intro (H2.out.2.2.1.keep (hk2.then_ hk3) (by simp)) (And.intro (rq.keep hk3 (by simp)) (lies_on ((H2.out.2.2.2.keep hk2 hs12 (by simp)).mono (Nat.le_trans hs12 hk2.size)) hk3)))))
      have l3 : w2.heap.size < w3.heap.size := (rq.keep hk3 (by simp)).lt
      clear hk2 hk3 rq a0 a1 a2 a3
      go_wp2_with fail
      refine (HPA.out w3 H3.out.1).mono ?_
      rintro e w4 ⟨hk4, ⟨h0, _⟩ | ⟨_, rfl⟩⟩
      · have := HP.out; omega
      rw [HP.out]
      simp only [noParse]
      have H4 := Lib.hid (H3.out.1.then_ hk4)
      clear hk4
      go_wp2_with fail
      refine (refSame_zero _).mono ?_
      rintro e w5 ⟨rfl, hk5⟩
      have H5 := Lib.hid ((H4.out.then_alloc _).then_ hk5)
      clear hk5
      go_wp2_with fail
      refine (known4_any _).mono ?_
      rintro e w6 ⟨rfl, hk6⟩
      have H6 := Lib.hid (H5.out.then_ hk6)
      clear hk6
      go_wp2
      go_ret
      exact ⟨rfl, H6.out⟩
theorem pageLooks_came (w : World) (n : Int) (A : Option Addr) (c : Nat) (l : List UInt8) (hC : Came w A c l) :
    Calls Try.prog 3 #[.slice A l.length c, .int .i64 n] w fun e w' => e = .returned (.bool true) ∧ Keeps w w' [] := by
  by_cases h : l.length ≤ 300
  · by_cases he : lookErr l = 0
    · have := pageLooks_good w n A c l hC he
      rwa [← (lookErr_zero he).1] at this
    · exact pageLooks_bad w n A c l hC h he
  · exact pageLooks_long w n A l.length c (by omega) hC.small
end Go.Proofs.Ythepcoifcoinoaa
