/- Walk over the statements' own 'known' (layer 4). -/
import Derived.Test.YthepcoifcoinoaaKit4
namespace Go.Proofs.Ythepcoifcoinoaa
open Go.RowKit

theorem nilBytes (w : World) : Bytes w w.heap.size (.slice none ([] : List UInt8).length 0) [] :=
  ⟨none, 0, rfl, by simp, fun _ => rfl, by simp [maxLen], by simp, Lies.nil _ _ _⟩
theorem known4_bytes : (rawI 3 2 7 0 []).getD 4 0 = 2 ∧ (rawI 3 2 7 0 []).getD 5 0 = 0 ∧ (rawI 3 2 7 0 []).getD 13 0 = 7 ∧ (rawI 3 2 7 0 []).getD 17 0 = 3 := by
  have h : ∀ i, (rawI 3 2 7 0 []).getD (i + 4) 0 = (rawTail 3 2 7 0 []).getD i 0 := fun i => by
    show (toBE 4 _ ++ rawTail 3 2 7 0 []).getD (i + 4) 0 = _
    rw [List.getD_eq_getElem?_getD, List.getD_eq_getElem?_getD, List.getElem?_append_right (by rw [toBE_length]; omega), toBE_length, Nat.add_sub_cancel]
  exact ⟨(h 0).trans (by decide +kernel), (h 1).trans (by decide +kernel), (h 9).trans (by decide +kernel), (h 13).trans (by decide +kernel)⟩

set_option maxRecDepth 100000 in
set_option maxHeartbeats 2000000 in
theorem known4_any (w : World) : Calls Try.prog 13 #[] w fun e w' => e = .returned (.bool true) ∧ Keeps w w' [] := by
  have hok : pageOk 2 7 0 ([] : List UInt8).length = true := by decide
  have ha : withinB 3 0 4095 = true := by decide
  have hb4 : withinB 4 0 4095 = true := by decide
  have HOK := Lib.hid (And.intro hok (And.intro ha hb4))
  clear hok ha hb4
  go_enter Try.func13, Try.ntmps13
  go_wp2_with fail
  refine (raw256 _ 3 2 7 0 none 0 [] (nilBytes _) HOK.out.1 HOK.out.2.1).mono ?_
  rintro e w1 ⟨b, o, c, rfl, hF, hk1⟩
  have x4 := hF.cell 4 (by omega)
  have x5 := hF.cell 5 (by omega)
  have x13 := hF.cell 13 (by omega)
  have x17 := hF.cell 17 (by omega)
  obtain ⟨k4, k5, k13, k17⟩ := known4_bytes
  rw [k4] at x4
  rw [k5] at x5
  rw [k13] at x13
  rw [k17] at x17
  clear k4 k5 k13 k17
  have hc1 := hF.cap
  have hc2 := hF.max
  have H1 := Lib.hid (And.intro hF hk1)
  clear hF hk1
  go_wp2_with fail
  refine (parseRawNo _ 4 w.heap.size b o c 3 2 7 0 [] H1.out.1 HOK.out.1 HOK.out.2.1 HOK.out.2.2 (by decide)).mono ?_
  rintro e w2 ⟨rfl, hk2⟩
  have H2 := Lib.hid (And.intro (H1.out.1.keep hk2 (by simp)) (H1.out.2.then_ hk2))
  clear hk2
  simp only [noParse]
  go_wp2_with fail
  refine (parseRaw _ 3 w.heap.size b o c 3 2 7 0 [] (H2.out.1.keep (Keeps.alloc _ _) (by simp)) HOK.out.1 HOK.out.2.1 rfl).mono ?_
  rintro e w3 ⟨A3, c3, rfl, ho3, hk3⟩
  have H3 := Lib.hid (And.intro (H2.out.1.keep ((Keeps.alloc _ _).then_ hk3) (by simp)) ((H2.out.2.then_alloc _).then_ hk3))
  clear ho3 hk3
  go_wp2_with fail
  refine (textYes_any 4 (by omega) _).mono ?_
  rintro e w4 ⟨rfl, hk4⟩
  have hr := (Row.new w3 26 #[.int .i64 2, .int .i64 7, .int .i64 0, .slice A3 ([] : List UInt8).length c3]).keep hk4 (by simp)
  have y1 := hr.cell 1
  have H4 := Lib.hid ((H3.out.2.then_alloc _).then_ hk4)
  clear hk4 hr
  simp only [kindName]
  go_wp2_with fail
  refine (textNo_any 6 (by omega) _).mono ?_
  rintro e w5 ⟨rfl, rfl⟩
  go_wp2
  go_ret
  exact ⟨rfl, H4.out⟩
end Go.Proofs.Ythepcoifcoinoaa
