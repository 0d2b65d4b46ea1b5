/- strings.IndexAny, strings.ContainsAny with the two signs of filters, of any text. -/
import Derived.Test.YtfglgeoookbppaaGreatDoorPa33
import Derived.Test.YtfglgeoookbppaaGreatDoorPa23
import Derived.Lib.OthersKept

namespace Go.Proofs.YtfglgeoookbppaaGreatDoor
open Go.RowKit Go.Shelf

theorem sgn_contains (b : UInt8) : [43, 35].contains b = (b == 43 || b == 35) := by
  simp [List.contains, List.elem]
  rcases Bool.eq_false_or_eq_true (b == 43) with h | h <;> rcases Bool.eq_false_or_eq_true (b == 35) with h' | h' <;> simp [h, h']
theorem indexAny_sign (s : List UInt8) : 0 ≤ Lib.indexAny s [43, 35] ↔ tSign s = true := by
  induction s with
  | nil => simp [Lib.indexAny, tSign]
  | cons b s ih =>
    unfold Lib.indexAny tSign
    rw [sgn_contains, List.any_cons]
    cases hb : (b == 43 || b == 35) with
    | true => simp
    | false =>
      simp only [Bool.false_eq_true, if_false, Bool.false_or]
      have hg := Lib.indexAny_ge [43, 35] s
      unfold tSign at ih
      rw [← ih]
      split
      · rename_i h
        have := beq_iff_eq.1 h
        omega
      · rename_i h
        have : ¬ Lib.indexAny s [43, 35] = -1 := fun e => h (beq_iff_eq.2 e)
        omega
theorem zero256 (w : World) : (zeroValue 170).run Tryz.prog w = .ok (.agg (Array.replicate 256 (.bool false))) w := by kernel_rfl
/-- What IndexAny answers. -/
def AnyPost (w : World) (s : List UInt8) (e : Ending) (w' : World) : Prop := ∃ z : Int, e = .returned (.int .i64 z) ∧ (0 ≤ z ↔ tSign s = true) ∧ Keeps w w' []
theorem idxAny_long (w : World) (s : List UInt8) (h8 : 8 < s.length) (hs : s.length ≤ 60000) : Calls Tryz.prog 132 #[.string ⟨s.toArray⟩, .string sgnS] w (AnyPost w s) := by
  refine (Tryz.strings_IndexAny_long zero256 ⟨s.toArray⟩ sgnS w (by decide) h8 (show s.length < 4294967281 by omega) (by decide) (fun j b hb => ?_)).mono ?_
  · have hb' : [43, 35][j]? = some b := hb
    rcases (show j = 0 ∨ j = 1 ∨ 2 ≤ j by omega) with rfl | rfl | hj
    · simp at hb'; rw [← hb']; decide
    · simp at hb'; rw [← hb']; decide
    · rw [List.getElem?_eq_none (by simpa using hj)] at hb'; cases hb'
  · rintro e w' ⟨rfl, rfl⟩
    exact ⟨_, rfl, indexAny_sign s, (Keeps.alloc _ _).then_alloc _⟩
/-- No sign ahead of a place. -/
def NoSgn (s : List UInt8) (i : Nat) : Prop := ∀ j b, j < i → s[j]? = some b → (b == 43 || b == 35) = false
theorem noSgn_all {s : List UInt8} (h : NoSgn s s.length) : tSign s = false := by
  unfold tSign
  rw [List.any_eq_false]
  intro b hb
  obtain ⟨j, hj, e⟩ := List.getElem_of_mem hb
  have := h j b hj (by rw [List.getElem?_eq_getElem hj, e])
  simp at this ⊢
  exact this
theorem shouldUse_any (w : World) (n : Int) (h : n ≤ 8) : Calls Tryz.prog 149 #[.int .i64 n] w fun e w' => e = .returned (.bool false) ∧ w = w' := by
  have hd : ¬ 8 < n := by omega
  clear h
  go_enter Tryz.func149, Tryz.ntmps149
  go_wp2
  go_ret
  exact ⟨rfl, rfl⟩
theorem Keeps.iterAt {w w' : World} (h : Keeps w w' []) (s : ByteArray) (p : Nat) : Keeps w (w'.iterAt w.heap.size s p) [] :=
  ⟨h.os, h.tape, h.output, by simpa [World.iterAt] using h.size, fun k hk hs => by
    have := h.block k hk hs
    rw [← this]
    simp only [World.iterAt]
    rw [Array.getElem?_setIfInBounds_ne (by omega)]⟩
set_option maxRecDepth 100000 in
set_option maxHeartbeats 4000000 in
theorem idxAny_short (w : World) (s : List UInt8) (h8 : s.length ≤ 8) : Calls Tryz.prog 132 #[.string ⟨s.toArray⟩, .string sgnS] w (AnyPost w s) := by
  obtain ⟨S, hS⟩ : ∃ S : ByteArray, (⟨s.toArray⟩ : ByteArray) = S := ⟨_, rfl⟩
  have hsz : S.size = s.length := by rw [← hS]; rfl
  have HS := Lib.hid (And.intro hS hsz)
  rw [hS]
  clear hS hsz
  go_enter Tryz.func132, Tryz.ntmps132
  go_wp2_with fail
  refine (shouldUse_any w _ (by rw [HS.out.2]; omega)).mono ?_
  rintro e w' ⟨rfl, rfl⟩
  go_wp2_with fail
  go_loopg [9, 10] S.size (fun g _ _ wx => ∃ i : Nat, i + g = S.size ∧ Hid (wx.heap[w.heap.size]? = some (.stringIter S i) ∧ Keeps w wx [] ∧ NoSgn s i))
  case atStart => exact ⟨0, by omega, Lib.hid ⟨World.iter_heap w S 0, Keeps.alloc _ _, fun j b hj => absurd hj (Nat.not_lt_zero _)⟩⟩
  case round =>
    obtain ⟨i, hig, HR⟩ := hrel
    cases gk with
    | zero =>
      obtain rfl : i = S.size := by omega
      have hnx := fun ty => Lib.run_next_end_at (P := Tryz.prog) wr w.heap.size S S.size ty HR.out.1 (by omega)
      go_wp2_with fail
      go_ret
      have hn : tSign s = false := noSgn_all (by rw [← HS.out.2]; exact HR.out.2.2)
      exact ⟨-1, rfl, by rw [hn]; simp, HR.out.2.1⟩
    | succ g =>
      have hi : i < S.size := by omega
      have hil : i < s.length := by rw [← HS.out.2]; exact hi
      obtain ⟨b, hb⟩ : ∃ b, s[i] = b := ⟨_, rfl⟩
      have hSb : S[i]'hi = b := by rw [str_get HS.out.1 hil hi, hb]
      by_cases hba : b.toNat < 128
      · have hnx := fun ty => Lib.run_next_ascii_at (P := Tryz.prog) wr w.heap.size S i ty HR.out.1 hi (by rw [hSb]; exact hba)
        rw [hSb] at hnx
        obtain ⟨W1, hW1⟩ : ∃ W1, wr.iterAt w.heap.size S (i + 1) = W1 := ⟨_, rfl⟩
        rw [hW1] at hnx
        have H1 := Lib.hid (show W1.heap[w.heap.size]? = some (.stringIter S (i + 1)) ∧ Keeps w W1 [] from by
          rw [← hW1]
          exact ⟨Lib.iterAt_heap wr w.heap.size S i (i + 1) HR.out.1, HR.out.2.1.iterAt S (i + 1)⟩)
        have hback : ((b.toNat : Int)).toNat.toUInt8 = b := by simp
        have hcon := Lib.contains_iff_indexByte [43, 35] b
        rw [sgn_contains] at hcon
        have HB := Lib.hid hb
        clear hW1 hSb hb
        cases hin : (b == 43 || b == 35) with
        | false =>
          rw [hin] at hcon
          have HN := Lib.hid (show NoSgn s (i + 1) from fun j y hj hy => by
            rcases Nat.lt_or_ge j i with h | h
            · exact HR.out.2.2 j y h hy
            · obtain rfl : j = i := by omega
              rw [List.getElem?_eq_getElem hil, HB.out] at hy
              injection hy with hy
              rw [← hy]; exact hin)
          have hlt : ¬ ((0 : Int) ≤ Lib.indexByte [43, 35] b) := of_decide_eq_false hcon.symm
          obtain ⟨z, hz⟩ : ∃ z, Lib.indexByte [43, 35] b = z := ⟨_, rfl⟩
          have HZ := Lib.hid hz
          rw [hz] at hlt
          clear hcon hin hz
          go_wp2_with fail
          refine (Tryz.strings_IndexRune_ascii sgnS _ _ (by omega) (by omega)).mono ?_
          rintro e w' ⟨rfl, rfl⟩
          rw [hback, show (sgnS : ByteArray).data.toList = [43, 35] from rfl, HZ.out]
          go_wp2_with fail
          go_roundg g
          case measure => omega
          case rel => exact ⟨i + 1, by omega, Lib.hid ⟨H1.out.1, H1.out.2, HN.out⟩⟩
        | true =>
          rw [hin] at hcon
          have HN := Lib.hid (show tSign s = true by
            unfold tSign
            rw [List.any_eq_true]
            exact ⟨b, by rw [← HB.out]; exact List.getElem_mem hil, hin⟩)
          have hlt : (0 : Int) ≤ Lib.indexByte [43, 35] b := of_decide_eq_true hcon.symm
          obtain ⟨z, hz⟩ : ∃ z, Lib.indexByte [43, 35] b = z := ⟨_, rfl⟩
          have HZ := Lib.hid hz
          rw [hz] at hlt
          clear hcon hin hz
          go_wp2_with fail
          refine (Tryz.strings_IndexRune_ascii sgnS _ _ (by omega) (by omega)).mono ?_
          rintro e w' ⟨rfl, rfl⟩
          rw [hback, show (sgnS : ByteArray).data.toList = [43, 35] from rfl, HZ.out]
          go_wp2_with fail
          go_ret
          exact ⟨_, rfl, ⟨fun _ => HN.out, fun _ => by omega⟩, H1.out.2⟩
      · have hg : S.get! i = b := by
          rw [← hSb]
          simp [ByteArray.get!, getElem!_pos, hi]
          rfl
        obtain ⟨d1, d2, d3, d4, d5⟩ := decode_hi S i hi (by rw [hg]; omega)
        have hnx := fun ty => Lib.run_next_any_at (P := Tryz.prog) wr w.heap.size S i ty HR.out.1 hi
        obtain ⟨c, hc⟩ : ∃ c, (Utf8.decode S i).1 = c := ⟨_, rfl⟩
        obtain ⟨k, hk⟩ : ∃ k, (Utf8.decode S i).2 = k := ⟨_, rfl⟩
        rw [hc] at d1 d2 hnx
        rw [hk] at d3 d4 d5 hnx
        obtain ⟨W1, hW1⟩ : ∃ W1, wr.iterAt w.heap.size S (i + k) = W1 := ⟨_, rfl⟩
        rw [hW1] at hnx
        have H1 := Lib.hid (show W1.heap[w.heap.size]? = some (.stringIter S (i + k)) ∧ Keeps w W1 [] from by
          rw [← hW1]
          exact ⟨Lib.iterAt_heap wr w.heap.size S i (i + k) HR.out.1, HR.out.2.1.iterAt S (i + k)⟩)
        have HN := Lib.hid (show NoSgn s (i + k) from fun j y hj hy => by
          rcases Nat.lt_or_ge j i with h | h
          · exact HR.out.2.2 j y h hy
          · have h5 := d5 j h hj
            have hjS : j < S.size := by omega
            have hjl : j < s.length := by rw [← HS.out.2]; exact hjS
            have e : S.get! j = s[j] := by
              rw [← str_get HS.out.1 hjl hjS]
              simp [ByteArray.get!, getElem!_pos, hjS]
              rfl
            rw [List.getElem?_eq_getElem hjl] at hy
            injection hy with hy
            rw [e, hy] at h5
            have n1 : (y == 43) = false := by
              rw [beq_eq_false_iff_ne]
              rintro rfl
              revert h5; decide
            have n2 : (y == 35) = false := by
              rw [beq_eq_false_iff_ne]
              rintro rfl
              revert h5; decide
            rw [n1, n2]; rfl)
        have HIK := Lib.hid (And.intro d3 d4)
        clear hW1 hSb hb hg hc hk d5
        go_wp2_with fail
        refine (idxRune_hi _ (c : Int) (by omega) (by omega)).mono ?_
        rintro e w' ⟨rfl, hk⟩
        have H2 := Lib.hid hk
        clear hk
        go_wp2_with fail
        go_roundg (S.size - (i + k))
        case measure => have := HIK.out; omega
        case rel => exact ⟨i + k, by have := HIK.out; omega, Lib.hid ⟨(H2.out.block _ (Array.getElem?_eq_some_iff.1 H1.out.1).1 (by simp)).trans H1.out.1, H1.out.2.then_ H2.out, HN.out⟩⟩
theorem idxAny_any (w : World) (s : List UInt8) (hs : s.length ≤ 60000) : Calls Tryz.prog 132 #[.string ⟨s.toArray⟩, .string sgnS] w (AnyPost w s) := by
  by_cases h : s.length ≤ 8
  · exact idxAny_short w s h
  · exact idxAny_long w s (by omega) hs
set_option maxRecDepth 100000 in
set_option maxHeartbeats 4000000 in
theorem cntAny_any (w : World) (s : List UInt8) (hs : s.length ≤ 60000) : Calls Tryz.prog 99 #[.string ⟨s.toArray⟩, .string sgnS] w fun e w' => e = .returned (.bool (tSign s)) ∧ Keeps w w' [] := by
  obtain ⟨S, hS⟩ : ∃ S : ByteArray, (⟨s.toArray⟩ : ByteArray) = S := ⟨_, rfl⟩
  have HS := Lib.hid hS
  rw [hS]
  clear hS
  go_enter Tryz.func99, Tryz.ntmps99
  go_wp2_with fail
  rw [← HS.out]
  refine (idxAny_any w s hs).mono ?_
  rintro e w1 ⟨z, rfl, hz, hk⟩
  have HK := Lib.hid hk
  clear hk
  by_cases h0 : 0 ≤ z
  · have HG := Lib.hid (hz.1 h0)
    clear hz
    go_wp2_with fail
    go_ret
    refine ⟨?_, HK.out⟩
    rw [HG.out]
    simp
  · have HG := Lib.hid (show tSign s = false by
      cases h : tSign s with
      | false => rfl
      | true => exact absurd (hz.2 h) h0)
    clear hz
    go_wp2_with fail
    go_ret
    refine ⟨?_, HK.out⟩
    rw [HG.out]
    simp [h0]
end Go.Proofs.YtfglgeoookbppaaGreatDoor
