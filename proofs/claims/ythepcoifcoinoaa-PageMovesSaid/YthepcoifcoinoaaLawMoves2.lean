/- The statement PageMoves (layer 4): the walk where both numbers may be. -/
import Derived.Test.YthepcoifcoinoaaLawMoves
namespace Go.Proofs.Ythepcoifcoinoaa
open Go.RowKit

theorem byte_next (y : UInt8) : byteV (y + 1) = .int .u8 ((((y.toNat : Nat) : Int) + 1) % 256) := by
  unfold byteV
  rw [UInt8.toNat_add]
  congr 1
theorem own_cell {w : World} {base g c : Nat} {l : List UInt8} (h : Owned w base (.slice (some ⟨g, 0, none⟩) l.length c) l) (j : Nat) (hj : j < l.length) :
    w.cell? ⟨g, j, none⟩ = some (.int .u8 ((l.getD j 0).toNat : Nat)) ∧ w.frozen? ⟨g, j, none⟩ = false := by
  obtain ⟨b', o', e, _, hc⟩ := (Lies.of_own h) (by simp; omega)
  injection e with e
  injection e with e1 e2
  subst e1; subst e2
  constructor
  · have := hc j (.int .u8 ((l.getD j 0).toNat : Nat)) (by rw [List.getElem?_map, List.getElem?_eq_getElem (by omega)]; simp [byteV, List.getD, List.getElem?_eq_getElem (show j < l.length by omega)])
    rwa [Nat.zero_add] at this
  · rcases h.2 with ⟨hv, _⟩ | ⟨g', cap, cur, hv, hg, hh, _⟩
    · cases hv
    · injection hv with e1 e2 e3
      injection e1 with e1
      injection e1 with e1 e4 e5
      subst e1
      exact (show Row w g 5 cur from hh).frozen j

set_option maxRecDepth 100000 in
set_option maxHeartbeats 4000000 in
theorem pageMoves_other (w : World) (m m' k t n : Int) (A : Option Addr) (c : Nat) (l : List UInt8) (hC : Came w A c l) (h300 : l.length ≤ 300) (hok : pageOk k t n l.length = true) (hm : withinB m 0 4095 = true) (hm' : withinB m' 0 4095 = true) (hne : m ≠ m') :
    Calls Try.prog 5 #[.agg #[.int .i64 k, .int .i64 t, .int .i64 n, .slice A l.length c], .int .i64 m, .int .i64 m'] w fun e w' => e = .returned (.bool true) ∧ Keeps w w' [] := by
  have d1 : decide ((300 : Int) < (l.length : Int)) = false := by simp; omega
  have e1 : (m == m') = false := by simpa using hne
  have HH := Lib.hid (And.intro hC (And.intro hok (And.intro hm (And.intro hm' hne))))
  have HR := Lib.hid (show (rawI m k t n l == rawI m' k t n l) = false by
    simp only [beq_eq_false_iff_ne]
    exact fun h => hne (rawI_inj hok hm hm' h))
  clear hC hok hm hm' hne
  go_enter Try.func5, Try.ntmps5
  go_wp2_with fail
  refine (raw256 _ m k t n A c l ((HH.out.1.keep (Keeps.alloc _ _)).bytes (by omega)) HH.out.2.1 HH.out.2.2.1).mono ?_
  rintro e w1 ⟨b, o, c1, rfl, hF, hk1⟩
  have r1 := (Row.new w 26 #[.int .i64 k, .int .i64 t, .int .i64 n, .slice A l.length c]).keep hk1 (by simp)
  have H1 := Lib.hid (And.intro hF (And.intro ((Keeps.alloc _ _).then_ hk1) r1))
  have a0 := r1.cell 0
  have a1 := r1.cell 1
  have a2 := r1.cell 2
  have a3 := r1.cell 3
  simp only [List.getElem?_toArray, List.getElem?_cons_zero, List.getElem?_cons_succ] at a0 a1 a2 a3
  clear hk1 r1 hF
  go_wp2_with fail
  refine (raw256 w1 m' k t n A c l ((HH.out.1.keep H1.out.2.1).bytes (by omega)) HH.out.2.1 HH.out.2.2.2.1).mono ?_
  rintro e w2 ⟨b2, o2, c2, rfl, hF2, hk2⟩
  have H2 := Lib.hid (And.intro (H1.out.1.keep hk2 (by simp)) (And.intro hF2 (And.intro (H1.out.2.1.then_ hk2) (H1.out.2.2.keep hk2 (by simp)))))
  clear hk2 hF2 a0 a1 a2 a3
  go_wp2_with fail
  refine (parseRawNo w2 m' _ b o _ m k t n l H2.out.1 HH.out.2.1 HH.out.2.2.1 HH.out.2.2.2.1 HH.out.2.2.2.2).mono ?_
  rintro e w3 ⟨rfl, hk3⟩
  simp only [noParse]
  have CVa := fun (ob : Obj) => (H2.out.1.keep (hk3.then_alloc ob) (by simp)).str
  have CVb := fun (ob : Obj) => (H2.out.2.1.keep (hk3.then_alloc ob) (by simp)).str
  have H3 := Lib.hid (And.intro (H2.out.1.keep hk3 (by simp)) (And.intro (H2.out.2.2.1.then_ hk3) (H2.out.2.2.2.keep hk3 (by simp))))
  clear hk3
  have hr := HR.out
  generalize rawI m k t n l = R1 at CVa hr
  generalize rawI m' k t n l = R2 at CVb hr
  have hr2 : (R1 != R2) = true := by simpa using hr
  go_wp2_with fail
  clear CVa CVb hr hr2
  go_loopw [13] (fun i wr => i = .int .i64 0 ∧ wr = w3.alloc (.cells #[.int .i64 0, .int .i64 0, .int .i64 0, .slice none 0 0] 26)) (fun _ _ => 0)
  case atStart => exact ⟨rfl, rfl⟩
  case round =>
    obtain ⟨rfl, rfl⟩ := hrel
    go_wp2_with fail
    refine (parseRaw _ m _ b o _ m k t n l (H3.out.1.keep (Keeps.alloc _ _) (by simp)) HH.out.2.1 HH.out.2.2.1 rfl).mono ?_
    rintro e w4 ⟨A4, c4, rfl, ho4, hk4⟩
    have H4 := Lib.hid (And.intro ((H3.out.2.1.then_alloc _).then_ hk4) (And.intro ((H3.out.2.2.alloc _).keep hk4 (by simp)) ho4))
    clear hk4 ho4
    have lp := H4.out.2.1.lt
    have np : ¬ w.heap.size = w4.heap.size := by omega
    have a0 := H4.out.2.1.cell 0
    have a1 := H4.out.2.1.cell 1
    have a2 := H4.out.2.1.cell 2
    have a3 := H4.out.2.1.cell 3
    simp only [List.getElem?_toArray, List.getElem?_cons_zero, List.getElem?_cons_succ] at a0 a1 a2 a3
    go_wp2_with fail
    refine (refSame_yes _ k t n A4 A c4 c l (owned_lies H4.out.2.2 (Keeps.alloc _ _)) (HH.out.1.keep (H4.out.1.then_alloc _)).2.2.2).mono ?_
    rintro e w5 ⟨rfl, hk5⟩
    have H5 := Lib.hid ((H4.out.1.then_alloc _).then_ hk5)
    clear hk5
    go_wp2_with fail
    refine (known4_any _).mono ?_
    rintro e w6 ⟨rfl, hk6⟩
    have H6 := Lib.hid (H5.out.then_ hk6)
    clear hk6
    go_wp2
    go_ret
    exact ⟨rfl, H6.out⟩

set_option maxRecDepth 100000 in
set_option maxHeartbeats 4000000 in
theorem pageMoves_same (w : World) (m k t n : Int) (A : Option Addr) (c : Nat) (l : List UInt8) (hC : Came w A c l) (h300 : l.length ≤ 300) (hok : pageOk k t n l.length = true) (hm : withinB m 0 4095 = true) :
    Calls Try.prog 5 #[.agg #[.int .i64 k, .int .i64 t, .int .i64 n, .slice A l.length c], .int .i64 m, .int .i64 m] w fun e w' => e = .returned (.bool true) ∧ Keeps w w' [] := by
  have d1 : decide ((300 : Int) < (l.length : Int)) = false := by simp; omega
  have e1 : (m == m) = true := by simp
  obtain ⟨m', hm'⟩ : ∃ m' : Int, m' = m := ⟨_, rfl⟩
  have HH := Lib.hid (And.intro hC (And.intro hok (And.intro hm hm)))
  clear hC hok hm hm'
  go_enter Try.func5, Try.ntmps5
  go_wp2_with fail
  refine (raw256 _ m k t n A c l ((HH.out.1.keep (Keeps.alloc _ _)).bytes (by omega)) HH.out.2.1 HH.out.2.2.1).mono ?_
  rintro e w1 ⟨b, o, c1, rfl, hF, hk1⟩
  have r1 := (Row.new w 26 #[.int .i64 k, .int .i64 t, .int .i64 n, .slice A l.length c]).keep hk1 (by simp)
  have H1 := Lib.hid (And.intro hF (And.intro ((Keeps.alloc _ _).then_ hk1) r1))
  have a0 := r1.cell 0
  have a1 := r1.cell 1
  have a2 := r1.cell 2
  have a3 := r1.cell 3
  simp only [List.getElem?_toArray, List.getElem?_cons_zero, List.getElem?_cons_succ] at a0 a1 a2 a3
  clear hk1 r1 hF
  go_wp2_with fail
  refine (raw256 w1 m k t n A c l ((HH.out.1.keep H1.out.2.1).bytes (by omega)) HH.out.2.1 HH.out.2.2.1).mono ?_
  rintro e w2 ⟨b2, o2, c2, rfl, hF2, hk2⟩
  have H2 := Lib.hid (And.intro (H1.out.1.keep hk2 (by simp)) (And.intro hF2 (And.intro (H1.out.2.1.then_ hk2) (H1.out.2.2.keep hk2 (by simp)))))
  clear hk2 hF2 a0 a1 a2 a3
  go_wp2_with fail
  refine (parseRaw w2 m _ b o _ m k t n l H2.out.1 HH.out.2.1 HH.out.2.2.1 rfl).mono ?_
  rintro e w3 ⟨A3, c3, rfl, ho3, hk3⟩
  have CVa := fun (ob : Obj) => (H2.out.1.keep (hk3.then_alloc ob) (by simp)).str
  have CVb := fun (ob : Obj) => (H2.out.2.1.keep (hk3.then_alloc ob) (by simp)).str
  have hblt := H2.out.1.lt
  have hw2 : w.heap.size < w2.heap.size := H2.out.2.2.2.lt
  have H3 := Lib.hid (And.intro (H2.out.1.keep hk3 (by simp)) (And.intro (H2.out.2.2.1.then_ hk3) (And.intro (H2.out.2.2.2.keep hk3 (by simp)) ho3)))
  clear hk3 ho3
  generalize rawI m k t n l = R1 at CVa CVb
  have hr : (R1 == R1) = true := by simp
  go_wp2_with fail
  clear CVa CVb hr
  obtain ⟨W3, hW3⟩ : ∃ W3, w3.alloc (.cells #[.int .i64 k, .int .i64 t, .int .i64 n, .slice A3 l.length c3] 26) = W3 := ⟨_, rfl⟩
  have hk3 : Keeps w3 W3 [] := by rw [← hW3]; exact Keeps.alloc _ _
  have hr3 : Row W3 w3.heap.size 26 #[.int .i64 k, .int .i64 t, .int .i64 n, .slice A3 l.length c3] := by rw [← hW3]; exact Row.new _ _ _
  rw [hW3]
  clear hW3
  have hG := fun (x : Nat) (hx : x ∈ (Value.slice A3 l.length c3).ownBlock.toList) => owned_lt H3.out.2.2.2 x (by simpa using hx)
  have HG := Lib.hid hG
  have H3b := Lib.hid (And.intro (H3.out.1.keep hk3 (by simp)) (And.intro (H3.out.2.1.then_ hk3) (And.intro (H3.out.2.2.1.keep hk3 (by simp)) (And.intro (own_keep H3.out.2.2.2 hk3 (by simp)) hr3))))
  have hc3 : l.length ≤ c3 ∧ c3 ≤ 9223372036854775807 := by
    obtain ⟨A', c', hv, h1, h2, _⟩ := Owned.parts H3.out.2.2.2
    injection hv with _ _ e3
    subst e3
    simp only [maxLen] at h2
    exact ⟨h1, h2⟩
  have hwl : w.heap.size < w3.heap.size := H3.out.2.2.1.lt
  clear hk3 hr3 hG
  go_loopw [13] (fun i wr => ∃ (j : Nat) (Z : List UInt8), j ≤ l.length ∧ i = .int .i64 j ∧ Z.length = l.length ∧ Owned wr w2.heap.size (.slice A3 Z.length c3) Z ∧ Keeps W3 wr (Value.slice A3 l.length c3).ownBlock.toList) (fun i _ => l.length - (intOf i).toNat)
  case atStart => exact ⟨0, l, by omega, rfl, rfl, H3b.out.2.2.2.1, Keeps.refl _ _⟩
  case round =>
    obtain ⟨j, Z, hj, rfl, hZ, ho, hk⟩ := hrel
    have hbox := H3b.out.2.2.2.2.keep hk (fun hm => by have := HG.out _ hm; omega)
    have HJ := Lib.hid (And.intro hZ (And.intro ho (And.intro hk hbox)))
    have x3 := hbox.cell 3
    simp only [List.getElem?_toArray, List.getElem?_cons_zero, List.getElem?_cons_succ] at x3
    clear hbox
    by_cases hlt : j < l.length
    · obtain ⟨g, cap, hv, hgB, hgl⟩ := World.ownsRow.form ho (by omega)
      injection hv with e1 e2 e3
      subst e1
      obtain ⟨y1, y2⟩ := own_cell ho j (by omega)
      clear hZ ho hk e2 e3
      go_wp2_with fail
      have hs := own_set HJ.out.2.1 (q := j) (by have := HJ.out.1; omega) (Z.getD j 0 + 1)
      rw [byte_next, Nat.zero_add] at hs
      refine ⟨⟨j + 1, Z.set j (Z.getD j 0 + 1), by omega, by go_num, by have := HJ.out.1; simpa using this, hs, HJ.out.2.2.1.trans (Keeps.setCell _ _ _) (fun x hx _ => by simpa [Value.ownBlock] using hx)⟩, by simp [intOf]; omega⟩
    · obtain rfl : j = l.length := by omega
      clear hZ ho hk
      go_wp2_with fail
      refine (parseRaw wr m _ b o _ m k t n l (H3b.out.1.keep HJ.out.2.2.1 (fun hm => by have := HG.out _ hm; omega)) HH.out.2.1 HH.out.2.2.1 rfl).mono ?_
      rintro e w4 ⟨A4, c4, rfl, ho4, hk4⟩
      have hW4 : Keeps w w4 [] := (H3b.out.2.1.trans HJ.out.2.2.1 (fun x hx hl => by have := HG.out _ hx; omega)).then_ hk4
      have H4 := Lib.hid (And.intro hW4 (And.intro ((H3b.out.2.2.1.keep HJ.out.2.2.1 (fun hm => by have := HG.out _ hm; omega)).keep hk4 (by simp)) ho4))
      clear hk4 ho4 hW4
      have lp := H4.out.2.1.lt
      have np : ¬ w.heap.size = w4.heap.size := by omega
      have a0 := H4.out.2.1.cell 0
      have a1 := H4.out.2.1.cell 1
      have a2 := H4.out.2.1.cell 2
      have a3 := H4.out.2.1.cell 3
      simp only [List.getElem?_toArray, List.getElem?_cons_zero, List.getElem?_cons_succ] at a0 a1 a2 a3
      go_wp2_with fail
      refine (refSame_yes _ k t n A4 A c4 c l (owned_lies H4.out.2.2 (Keeps.alloc _ _)) (HH.out.1.keep (H4.out.1.then_alloc _)).2.2.2).mono ?_
      rintro e w5 ⟨rfl, hk5⟩
      have H5 := Lib.hid ((H4.out.1.then_alloc _).then_ hk5)
      clear hk5
      go_wp2_with fail
      refine (known4_any _).mono ?_
      rintro e w6 ⟨rfl, hk6⟩
      have H6 := Lib.hid (H5.out.then_ hk6)
      clear hk6
      go_wp2
      go_ret
      exact ⟨rfl, H6.out⟩
theorem pageMoves_came (w : World) (m m' k t n : Int) (A : Option Addr) (c : Nat) (l : List UInt8) (hC : Came w A c l) :
    Calls Try.prog 5 #[.agg #[.int .i64 k, .int .i64 t, .int .i64 n, .slice A l.length c], .int .i64 m, .int .i64 m'] w fun e w' => e = .returned (.bool true) ∧ Keeps w w' [] := by
  by_cases h : l.length ≤ 300
  · cases hok : (pageOk k t n l.length && (withinB m 0 4095 && withinB m' 0 4095))
    · exact pageMoves_no w m m' k t n A c l hC h hok
    · obtain ⟨h1, h2⟩ := Bool.and_eq_true_iff.1 hok
      obtain ⟨h4, h3⟩ := Bool.and_eq_true_iff.1 h2
      by_cases he : m = m'
      · subst he; exact pageMoves_same w m k t n A c l hC h h1 h4
      · exact pageMoves_other w m m' k t n A c l hC h h1 h4 h3 he
  · exact pageMoves_long w m m' k t n A l.length c (by omega) hC.small
end Go.Proofs.Ythepcoifcoinoaa
