/- The statement PageMoves (layer 4): the walk. -/
import Derived.Test.YthepcoifcoinoaaKit4b
import Derived.Test.YthepcoifcoinoaaOwnSet
namespace Go.Proofs.Ythepcoifcoinoaa
open Go.RowKit

theorem rawI_inj {a a' k t n : Int} {body : List UInt8} (hok : pageOk k t n body.length = true) (ha : withinB a 0 4095 = true) (ha' : withinB a' 0 4095 = true) (h : rawI a k t n body = rawI a' k t n body) : a = a' := by
  have h1 := (rawI_look a k t n body hok ha).2.2.2.2.1
  have h2 := (rawI_look a' k t n body hok ha').2.2.2.2.1
  rw [← h1, ← h2, h]

set_option maxRecDepth 100000 in
set_option maxHeartbeats 2000000 in
theorem pageMoves_long (w : World) (m m' k t n : Int) (A : Option Addr) (len c : Nat) (h : 300 < len) (hm : len ≤ 9223372036854775807) :
    Calls Try.prog 5 #[.agg #[.int .i64 k, .int .i64 t, .int .i64 n, .slice A len c], .int .i64 m, .int .i64 m'] w fun e w' => e = .returned (.bool true) ∧ Keeps w w' [] := by
  have d1 : decide ((300 : Int) < (len : Int)) = true := by simp; omega
  clear h
  go_enter Try.func5, Try.ntmps5
  go_wp2_with fail
  refine (known4_any _).mono ?_
  rintro e w1 ⟨rfl, hk1⟩
  have H := Lib.hid ((Keeps.alloc _ _).then_ hk1)
  clear hk1
  go_wp2
  go_ret
  exact ⟨rfl, H.out⟩

set_option maxRecDepth 100000 in
set_option maxHeartbeats 2000000 in
theorem pageMoves_no (w : World) (m m' k t n : Int) (A : Option Addr) (c : Nat) (l : List UInt8) (hC : Came w A c l) (h300 : l.length ≤ 300) (hno : (pageOk k t n l.length && (withinB m 0 4095 && withinB m' 0 4095)) = false) :
    Calls Try.prog 5 #[.agg #[.int .i64 k, .int .i64 t, .int .i64 n, .slice A l.length c], .int .i64 m, .int .i64 m'] w fun e w' => e = .returned (.bool true) ∧ Keeps w w' [] := by
  have d1 : decide ((300 : Int) < (l.length : Int)) = false := by simp; omega
  have HC := Lib.hid hC
  cases h1 : (pageOk k t n l.length && withinB m 0 4095)
  · have HN := Lib.hid h1
    clear hC hno h1
    cases h2 : (pageOk k t n l.length && withinB m' 0 4095)
    · have HN2 := Lib.hid h2
      clear h2
      go_enter Try.func5, Try.ntmps5
      go_wp2_with fail
      refine (rawNo_any _ m k t n A l.length c (by omega) HN.out).mono ?_
      rintro e w1 ⟨rfl, hk1⟩
      have r1 := (Row.new w 26 #[.int .i64 k, .int .i64 t, .int .i64 n, .slice A l.length c]).keep hk1 (by simp)
      have H1 := Lib.hid (And.intro ((Keeps.alloc _ _).then_ hk1) r1)
      have a0 := r1.cell 0
      have a1 := r1.cell 1
      have a2 := r1.cell 2
      have a3 := r1.cell 3
      simp only [List.getElem?_toArray, List.getElem?_cons_zero, List.getElem?_cons_succ] at a0 a1 a2 a3
      clear hk1 r1
      go_wp2_with fail
      refine (rawNo_any _ m' k t n A l.length c (by omega) HN2.out).mono ?_
      rintro e w2 ⟨rfl, hk2⟩
      have H2 := Lib.hid (H1.out.1.then_ hk2)
      clear hk2 a0 a1 a2 a3
      go_wp2_with fail
      refine (known4_any _).mono ?_
      rintro e w3 ⟨rfl, hk3⟩
      have H3 := Lib.hid (H2.out.then_ hk3)
      clear hk3
      go_wp2
      go_ret
      exact ⟨rfl, H3.out⟩
    · have HN2 := Lib.hid (Bool.and_eq_true_iff.1 h2)
      clear h2
      go_enter Try.func5, Try.ntmps5
      go_wp2_with fail
      refine (rawNo_any _ m k t n A l.length c (by omega) HN.out).mono ?_
      rintro e w1 ⟨rfl, hk1⟩
      have r1 := (Row.new w 26 #[.int .i64 k, .int .i64 t, .int .i64 n, .slice A l.length c]).keep hk1 (by simp)
      have H1 := Lib.hid (And.intro ((Keeps.alloc _ _).then_ hk1) r1)
      have a0 := r1.cell 0
      have a1 := r1.cell 1
      have a2 := r1.cell 2
      have a3 := r1.cell 3
      simp only [List.getElem?_toArray, List.getElem?_cons_zero, List.getElem?_cons_succ] at a0 a1 a2 a3
      clear hk1 r1
      go_wp2_with fail
      refine (raw256 _ m' k t n A c l ((HC.out.keep H1.out.1).bytes (by omega)) HN2.out.1 HN2.out.2).mono ?_
      rintro e w2 ⟨b, o, c2, rfl, hF, hk2⟩
      clear hF
      have H2 := Lib.hid (H1.out.1.then_ hk2)
      clear hk2 a0 a1 a2 a3
      go_wp2_with fail
      refine (known4_any _).mono ?_
      rintro e w3 ⟨rfl, hk3⟩
      have H3 := Lib.hid (H2.out.then_ hk3)
      clear hk3
      go_wp2
      go_ret
      exact ⟨rfl, H3.out⟩
  · have HN := Lib.hid (Bool.and_eq_true_iff.1 h1)
    have HN2 := Lib.hid (show (pageOk k t n l.length && withinB m' 0 4095) = false by
      obtain ⟨a, b⟩ := Bool.and_eq_true_iff.1 h1
      rw [a, b] at hno
      rw [a]
      simpa using hno)
    clear hC hno h1
    go_enter Try.func5, Try.ntmps5
    go_wp2_with fail
    refine (raw256 _ m k t n A c l ((HC.out.keep (Keeps.alloc _ _)).bytes (by omega)) HN.out.1 HN.out.2).mono ?_
    rintro e w1 ⟨b, o, c1, rfl, hF, hk1⟩
    clear hF
    have r1 := (Row.new w 26 #[.int .i64 k, .int .i64 t, .int .i64 n, .slice A l.length c]).keep hk1 (by simp)
    have H1 := Lib.hid (And.intro ((Keeps.alloc _ _).then_ hk1) r1)
    have a0 := r1.cell 0
    have a1 := r1.cell 1
    have a2 := r1.cell 2
    have a3 := r1.cell 3
    simp only [List.getElem?_toArray, List.getElem?_cons_zero, List.getElem?_cons_succ] at a0 a1 a2 a3
    clear hk1 r1
    go_wp2_with fail
    refine (rawNo_any _ m' k t n A l.length c (by omega) HN2.out).mono ?_
    rintro e w2 ⟨rfl, hk2⟩
    have H2 := Lib.hid (H1.out.1.then_ hk2)
    clear hk2 a0 a1 a2 a3
    go_wp2_with fail
    refine (known4_any _).mono ?_
    rintro e w3 ⟨rfl, hk3⟩
    have H3 := Lib.hid (H2.out.then_ hk3)
    clear hk3
    go_wp2
    go_ret
    exact ⟨rfl, H3.out⟩
end Go.Proofs.Ythepcoifcoinoaa
