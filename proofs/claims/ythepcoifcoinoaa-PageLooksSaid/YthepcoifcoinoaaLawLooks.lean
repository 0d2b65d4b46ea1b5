/- The statement PageLooks (layer 4): the walk where the bytes are too many, or none's. -/
import Derived.Test.YthepcoifcoinoaaKit4b
namespace Go.Proofs.Ythepcoifcoinoaa
open Go.RowKit

theorem refSame_zero (W : World) :
    Calls Try.prog 16 #[.agg #[.int .i64 0, .int .i64 0, .int .i64 0, .slice none 0 0], .agg #[.int .i64 0, .int .i64 0, .int .i64 0, .slice none 0 0]] W fun e w' => e = .returned (.bool true) ∧ Keeps W w' [] :=
  refSame_yes W 0 0 0 none none 0 0 [] (Lies.nil _ _ _) (Lies.nil _ _ _)

set_option maxRecDepth 100000 in
set_option maxHeartbeats 2000000 in
theorem pageLooks_long (w : World) (n : Int) (A : Option Addr) (len c : Nat) (h : 300 < len) (hm : len ≤ 9223372036854775807) :
    Calls Try.prog 3 #[.slice A len c, .int .i64 n] w fun e w' => e = .returned (.bool true) ∧ Keeps w w' [] := by
  have d1 : decide ((300 : Int) < (len : Int)) = true := by simp; omega
  clear h
  go_enter Try.func3, Try.ntmps3
  go_wp2_with fail
  refine (known4_any _).mono ?_
  rintro e w1 ⟨rfl, hk1⟩
  have H := Lib.hid hk1
  clear hk1
  go_wp2
  go_ret
  exact ⟨rfl, H.out⟩

set_option maxRecDepth 100000 in
set_option maxHeartbeats 4000000 in
theorem pageLooks_bad (w : World) (n : Int) (A : Option Addr) (c : Nat) (l : List UInt8) (hC : Came w A c l) (h300 : l.length ≤ 300) (he : lookErr l ≠ 0) :
    Calls Try.prog 3 #[.slice A l.length c, .int .i64 n] w fun e w' => e = .returned (.bool true) ∧ Keeps w w' [] := by
  have d1 : decide ((300 : Int) < (l.length : Int)) = false := by simp; omega
  obtain ⟨E, hE⟩ : ∃ E, lookErr l = E := ⟨_, rfl⟩
  have hE0 : E ≠ 0 := hE ▸ he
  have e1 : ((E : Int) != 0) = true := by simp; omega
  have e2 : ((E : Int) == 0) = false := by simp; omega
  have e3 : ((E : Int) == (E : Int)) = true := by simp
  have e4 : ((E : Int) != (E : Int)) = false := by simp
  have HC := Lib.hid hC
  have HE := Lib.hid (And.intro hE hE0)
  clear hC hE hE0 he
  by_cases hn : 0 ≤ n ∧ n ≤ 4095
  · have d2 : decide (n < 0) = false := by simp; omega
    have d3 : decide (4095 < n) = false := by simp; omega
    have HP := Lib.hid (show parseErr n l = E by
      have hw : withinB n 0 4095 = true := by simp [withinB, hn]
      simp [parseErr, hw, HE.out.1, HE.out.2])
    clear hn
    go_enter Try.func3, Try.ntmps3
    go_wp2_with fail
    refine (look_any w A c l (HC.out.bytes (by omega)) (by omega)).mono ?_
    rintro e w1 ⟨hk1, ⟨h0, _⟩ | ⟨_, rfl⟩⟩
    · exact absurd (HE.out.1.symm.trans h0) HE.out.2
    rw [HE.out.1]
    simp only [noLook]
    have H1 := Lib.hid hk1
    clear hk1
    go_wp2_with fail
    obtain ⟨W1, hW1⟩ : ∃ W1, w1.alloc (.cells #[.int .i64 0, .int .i64 0, .int .i64 0, .slice none 0 0] 26) = W1 := ⟨_, rfl⟩
    have hk1 : Keeps w1 W1 [] := by rw [← hW1]; exact Keeps.alloc _ _
    have rp : Row W1 w1.heap.size 26 #[.int .i64 0, .int .i64 0, .int .i64 0, .slice none 0 0] := by rw [← hW1]; exact Row.new _ _ _
    rw [hW1]
    clear hW1
    refine (refLook_any W1 A c l ((HC.out.keep (H1.out.then_ hk1)).bytes (by omega)) (by omega)).mono ?_
    rintro e w2 ⟨hk2, ⟨h0, _⟩ | ⟨_, rfl⟩⟩
    · exact absurd (HE.out.1.symm.trans h0) HE.out.2
    rw [HE.out.1]
    simp only [noLook]
    have rp2 := rp.keep hk2 (by simp)
    have a0 := rp2.cell 0
    have a1 := rp2.cell 1
    have a2 := rp2.cell 2
    have a3 := rp2.cell 3
    simp only [List.getElem?_toArray, List.getElem?_cons_zero, List.getElem?_cons_succ] at a0 a1 a2 a3
    have hlt := rp2.lt
    have hne : ¬ w1.heap.size = w2.heap.size := by omega
    have H2 := Lib.hid ((H1.out.then_ hk1).then_ hk2)
    clear hk1 hk2 rp rp2
    go_wp2_with fail
    refine (refSame_zero _).mono ?_
    rintro e w3 ⟨rfl, hk3⟩
    have H3 := Lib.hid ((H2.out.then_alloc _).then_ hk3)
    clear hk3 a0 a1 a2 a3
    go_wp2_with fail
    refine (parse_any w3 n A c l ((HC.out.keep H3.out).bytes (by omega)) (by omega)).mono ?_
    rintro e w4 ⟨hk4, ⟨h0, _⟩ | ⟨_, rfl⟩⟩
    · have := HP.out; have := HE.out.2; omega
    rw [HP.out]
    simp only [noParse]
    have H4 := Lib.hid (H3.out.then_ hk4)
    clear hk4
    go_wp2_with fail
    refine (known4_any _).mono ?_
    rintro e w5 ⟨rfl, hk5⟩
    have H5 := Lib.hid ((H4.out.then_alloc _).then_ hk5)
    clear hk5
    go_wp2
    go_ret
    exact ⟨rfl, H5.out⟩
  · have HP := Lib.hid (show parseErr n l = 2 by
      have hw : withinB n 0 4095 = false := by simp [withinB]; omega
      simp [parseErr, hw])
    by_cases h0 : n < 0
    · have d2 : decide (n < 0) = true := by simp; omega
      clear hn h0
      go_enter Try.func3, Try.ntmps3
      go_wp2_with fail
      refine (look_any w A c l (HC.out.bytes (by omega)) (by omega)).mono ?_
      rintro e w1 ⟨hk1, ⟨h0, _⟩ | ⟨_, rfl⟩⟩
      · exact absurd (HE.out.1.symm.trans h0) HE.out.2
      rw [HE.out.1]
      simp only [noLook]
      have H1 := Lib.hid hk1
      clear hk1
      go_wp2_with fail
      obtain ⟨W1, hW1⟩ : ∃ W1, w1.alloc (.cells #[.int .i64 0, .int .i64 0, .int .i64 0, .slice none 0 0] 26) = W1 := ⟨_, rfl⟩
      have hk1 : Keeps w1 W1 [] := by rw [← hW1]; exact Keeps.alloc _ _
      have rp : Row W1 w1.heap.size 26 #[.int .i64 0, .int .i64 0, .int .i64 0, .slice none 0 0] := by rw [← hW1]; exact Row.new _ _ _
      rw [hW1]
      clear hW1
      refine (refLook_any W1 A c l ((HC.out.keep (H1.out.then_ hk1)).bytes (by omega)) (by omega)).mono ?_
      rintro e w2 ⟨hk2, ⟨h0, _⟩ | ⟨_, rfl⟩⟩
      · exact absurd (HE.out.1.symm.trans h0) HE.out.2
      rw [HE.out.1]
      simp only [noLook]
      have rp2 := rp.keep hk2 (by simp)
      have a0 := rp2.cell 0
      have a1 := rp2.cell 1
      have a2 := rp2.cell 2
      have a3 := rp2.cell 3
      simp only [List.getElem?_toArray, List.getElem?_cons_zero, List.getElem?_cons_succ] at a0 a1 a2 a3
      have hlt := rp2.lt
      have hne : ¬ w1.heap.size = w2.heap.size := by omega
      have H2 := Lib.hid ((H1.out.then_ hk1).then_ hk2)
      clear hk1 hk2 rp rp2
      go_wp2_with fail
      refine (refSame_zero _).mono ?_
      rintro e w3 ⟨rfl, hk3⟩
      have H3 := Lib.hid ((H2.out.then_alloc _).then_ hk3)
      clear hk3 a0 a1 a2 a3
      go_wp2_with fail
      refine (parse_any w3 n A c l ((HC.out.keep H3.out).bytes (by omega)) (by omega)).mono ?_
      rintro e w4 ⟨hk4, ⟨h0, _⟩ | ⟨_, rfl⟩⟩
      · have := HP.out; have := HE.out.2; omega
      rw [HP.out]
      simp only [noParse]
      have H4 := Lib.hid (H3.out.then_ hk4)
      clear hk4
      go_wp2_with fail
      refine (refSame_zero _).mono ?_
      rintro e w5 ⟨rfl, hk5⟩
      have H5 := Lib.hid ((H4.out.then_alloc _).then_ hk5)
      clear hk5
      go_wp2_with fail
      refine (known4_any _).mono ?_
      rintro e w6 ⟨rfl, hk6⟩
      have H6 := Lib.hid (H5.out.then_ hk6)
      clear hk6
      go_wp2
      go_ret
      exact ⟨rfl, H6.out⟩
    · have d2 : decide (n < 0) = false := by simp; omega
      have d3 : decide (4095 < n) = true := by simp; omega
      clear hn h0
      go_enter Try.func3, Try.ntmps3
      go_wp2_with fail
      refine (look_any w A c l (HC.out.bytes (by omega)) (by omega)).mono ?_
      rintro e w1 ⟨hk1, ⟨h0, _⟩ | ⟨_, rfl⟩⟩
      · exact absurd (HE.out.1.symm.trans h0) HE.out.2
      rw [HE.out.1]
      simp only [noLook]
      have H1 := Lib.hid hk1
      clear hk1
      go_wp2_with fail
      obtain ⟨W1, hW1⟩ : ∃ W1, w1.alloc (.cells #[.int .i64 0, .int .i64 0, .int .i64 0, .slice none 0 0] 26) = W1 := ⟨_, rfl⟩
      have hk1 : Keeps w1 W1 [] := by rw [← hW1]; exact Keeps.alloc _ _
      have rp : Row W1 w1.heap.size 26 #[.int .i64 0, .int .i64 0, .int .i64 0, .slice none 0 0] := by rw [← hW1]; exact Row.new _ _ _
      rw [hW1]
      clear hW1
      refine (refLook_any W1 A c l ((HC.out.keep (H1.out.then_ hk1)).bytes (by omega)) (by omega)).mono ?_
      rintro e w2 ⟨hk2, ⟨h0, _⟩ | ⟨_, rfl⟩⟩
      · exact absurd (HE.out.1.symm.trans h0) HE.out.2
      rw [HE.out.1]
      simp only [noLook]
      have rp2 := rp.keep hk2 (by simp)
      have a0 := rp2.cell 0
      have a1 := rp2.cell 1
      have a2 := rp2.cell 2
      have a3 := rp2.cell 3
      simp only [List.getElem?_toArray, List.getElem?_cons_zero, List.getElem?_cons_succ] at a0 a1 a2 a3
      have hlt := rp2.lt
      have hne : ¬ w1.heap.size = w2.heap.size := by omega
      have H2 := Lib.hid ((H1.out.then_ hk1).then_ hk2)
      clear hk1 hk2 rp rp2
      go_wp2_with fail
      refine (refSame_zero _).mono ?_
      rintro e w3 ⟨rfl, hk3⟩
      have H3 := Lib.hid ((H2.out.then_alloc _).then_ hk3)
      clear hk3 a0 a1 a2 a3
      go_wp2_with fail
      refine (parse_any w3 n A c l ((HC.out.keep H3.out).bytes (by omega)) (by omega)).mono ?_
      rintro e w4 ⟨hk4, ⟨h0, _⟩ | ⟨_, rfl⟩⟩
      · have := HP.out; have := HE.out.2; omega
      rw [HP.out]
      simp only [noParse]
      have H4 := Lib.hid (H3.out.then_ hk4)
      clear hk4
      go_wp2_with fail
      refine (refSame_zero _).mono ?_
      rintro e w5 ⟨rfl, hk5⟩
      have H5 := Lib.hid ((H4.out.then_alloc _).then_ hk5)
      clear hk5
      go_wp2_with fail
      refine (known4_any _).mono ?_
      rintro e w6 ⟨rfl, hk6⟩
      have H6 := Lib.hid (H5.out.then_ hk6)
      clear hk6
      go_wp2
      go_ret
      exact ⟨rfl, H6.out⟩
end Go.Proofs.Ythepcoifcoinoaa
