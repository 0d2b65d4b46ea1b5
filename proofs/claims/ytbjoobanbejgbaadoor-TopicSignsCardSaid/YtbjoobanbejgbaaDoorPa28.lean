/- Package topic: Within. -/
import Derived.Test.YtbjoobanbejgbaaDoorPa27
import Derived.WalkMore
import Derived.ScopeJumps
import Derived.ArgAppend

namespace Go.Proofs.YtbjoobanbejgbaaDoor
open Go.RowKit Go.Shelf

def WiJump (w : World) (a : Act) (w' : World) : Prop := ∃ x : Nat → Value, a = { tmps := #[x 0, x 1, x 2, x 3, x 4, x 5, x 6, x 7, x 8, x 9, x 10, x 11, x 12, x 13, x 14, x 15, x 16, x 17, x 18, x 19, x 20, x 21, x 22, x 23, x 24, x 25, x 26, x 27, x 28, x 29, x 30, x 31, x 32, x 33, x 34, x 35, x 36], defers := [] } ∧ Keeps w w' []
theorem WiJump.mk' {w w' : World} {x0 x1 x2 x3 x4 x5 x6 x7 x8 x9 x10 x11 x12 x13 x14 x15 x16 x17 x18 x19 x20 x21 x22 x23 x24 x25 x26 x27 x28 x29 x30 x31 x32 x33 x34 x35 x36 : Value} (k : Keeps w w' []) : WiJump w { tmps := #[x0, x1, x2, x3, x4, x5, x6, x7, x8, x9, x10, x11, x12, x13, x14, x15, x16, x17, x18, x19, x20, x21, x22, x23, x24, x25, x26, x27, x28, x29, x30, x31, x32, x33, x34, x35, x36], defers := [] } w' := ⟨fun i => (#[x0, x1, x2, x3, x4, x5, x6, x7, x8, x9, x10, x11, x12, x13, x14, x15, x16, x17, x18, x19, x20, x21, x22, x23, x24, x25, x26, x27, x28, x29, x30, x31, x32, x33, x34, x35, x36] : Array Value).getD i undef, rfl, k⟩
theorem undTxs : Tryd.prog.underlying 28 = some (.slice 9) := by kernel_rfl
theorem partsStr : ∃ i, Tryd.prog.info? 9 = some i ∧ i.zero = some (.string ⟨#[]⟩) ∧ i.size = 1 ∧ i.bytes = 16 := info_parts (by kernel_rfl)
def WiPost (w : World) (B : Bool) (c : Int) (e : Ending) (w' : World) : Prop := e = .returned (.tuple #[.bool B, .int .i64 c]) ∧ Keeps w w' []
theorem lies_two (w : World) (a b : List UInt8) (S T : ByteArray) (h1 : (⟨a.toArray⟩ : ByteArray) = S) (h2 : (⟨b.toArray⟩ : ByteArray) = T) : Lies (w.alloc (.cells #[.string S, .string T] 9)) (w.alloc (.cells #[.string S, .string T] 9)).heap.size (some ⟨w.heap.size, 0, none⟩) (txL [a, b]) :=
  lies_of_row (Row.new _ _ _) (by rw [← h1, ← h2]; rfl)

set_option maxRecDepth 100000 in
set_option maxHeartbeats 4000000 in
theorem tWithin_bad (w : World) (a b : List UInt8) (ha : a.length ≤ 50000) (hb : b.length ≤ 50000) (hm : MaxL w) (hF : [a, b].all tFilter = false) :
    Calls Tryd.prog 13 #[.string ⟨a.toArray⟩, .string ⟨b.toArray⟩] w (WiPost w false 230) := by
  obtain ⟨S, hS⟩ : ∃ S : ByteArray, (⟨a.toArray⟩ : ByteArray) = S := ⟨_, rfl⟩
  obtain ⟨T, hT⟩ : ∃ S : ByteArray, (⟨b.toArray⟩ : ByteArray) = S := ⟨_, rfl⟩
  have HA := Lib.hid (And.intro hF (And.intro hm (And.intro (show ∀ s ∈ [a, b], s.length ≤ 50000 by simp [ha, hb]) (And.intro hS hT))))
  have HST := Lib.hid (show ∀ w, Calls Tryd.prog 22 #[.string T, .string S] w fun e w' => e = .returned (.bool (tStarts b a)) ∧ w = w' from fun w => by rw [← hS, ← hT]; exact tStarts_any w b a)
  have HLA := Lib.hid (show ∀ w, MaxL w → Calls Tryd.prog 19 #[.string S] w fun e w' => e = .returned (.slice (some ⟨w.heap.size, 0, none⟩) (tLev a).length (tLev a).length) ∧ w' = w.alloc (.cells (txC (tLev a)) 9) from fun w h => by rw [← hS]; exact tLevels_any w a (by omega) h)
  have HLB := Lib.hid (show ∀ w, MaxL w → Calls Tryd.prog 19 #[.string T] w fun e w' => e = .returned (.slice (some ⟨w.heap.size, 0, none⟩) (tLev b).length (tLev b).length) ∧ w' = w.alloc (.cells (txC (tLev b)) 9) from fun w h => by rw [← hT]; exact tLevels_any w b (by omega) h)
  rw [hS, hT]
  clear hF hm hS hT
  go_enter Tryd.func13, Tryd.ntmps13
  go_wp2_with fail
  refine wp_scope_jumps 0 (WiJump w) (fun _ _ => 0) rfl ?_ ?_
  · skip
    go_wp2_with fail
    refine (tAll_any _ _ 2 [a, b] (lies_two w a b S T HA.out.2.2.2.1 HA.out.2.2.2.2) (by simp) (HA.out.2.1.keeps (Keeps.alloc _ _)) HA.out.2.2.1).mono ?_
    rintro e w1 ⟨rfl, hk1⟩
    rw [HA.out.1]
    have HK := Lib.hid (show Keeps w w1 [] from (Keeps.alloc _ _).trans hk1 (by simp))
    clear hk1
    go_wp2_with fail
    go_step3
    exact ⟨rfl, WiJump.mk' HK.out⟩
  · rintro aa W ⟨x, rfl, hk⟩
    have HK := Lib.hid hk
    clear hk
    go_wp2_with fail
    go_ret2
    exact ⟨rfl, HK.out⟩

theorem wide_one : tWide [35] = [] ++ [[43], [35]] := by decide
theorem wide_two : tWide [47, 35] = [[]] ++ [[43], [35]] := by decide
theorem lies_lev2 (w1 : World) (la lb : List (List UInt8)) (W : World) (hW : (w1.alloc (.cells (txC la) 9)).alloc (.cells (txC lb) 9) = W) : Lies W W.heap.size (some ⟨w1.heap.size, 0, none⟩) (txL la) ∧ Lies W W.heap.size (some ⟨w1.heap.size + 1, 0, none⟩) (txL lb) := by
  subst hW
  refine ⟨txL_lies ((Row.new _ _ _).alloc _), txL_lies ?_⟩
  have := Row.new (w1.alloc (.cells (txC la) 9)) 9 (txC lb)
  rwa [show (w1.alloc (.cells (txC la) 9)).heap.size = w1.heap.size + 1 by simp] at this
theorem lies_holds {w : World} {B g : Nat} {xs : List Value} (h : Lies w B (some ⟨g, 0, none⟩) xs) : ∀ b, some (⟨g, 0, none⟩ : Addr) = some b → ∀ j u, xs[j]? = some u → w.cell? (b.add j) = some u := by
  intro b hb j u hu
  injection hb with hb
  subst hb
  obtain ⟨b, o, e, hb, hc⟩ := h (by cases xs with
    | nil => cases hu
    | cons a l => simp)
  cases e
  rw [Addr.add_lit]
  exact hc j u hu
theorem lies_three (w1 : World) (X Y : Obj) (a b : List UInt8) (W : World) (hW : ((w1.alloc X).alloc Y).alloc (.cells #[.string ⟨a.toArray⟩, .string ⟨b.toArray⟩] 9) = W) : Lies W W.heap.size (some ⟨w1.heap.size + 2, 0, none⟩) (txL [a, b]) := by
  subst hW
  have := lies_two ((w1.alloc X).alloc Y) a b _ _ rfl rfl
  rwa [show ((w1.alloc X).alloc Y).heap.size = w1.heap.size + 2 by simp] at this
theorem wi_size {w w' : World} {l : List (List UInt8)} (k : Keeps w w' []) : Keeps w (w'.alloc (.cells (txC l) 9)) [] := k.trans (Keeps.alloc _ _) (by simp)
set_option maxRecDepth 100000 in
set_option maxHeartbeats 4000000 in
theorem tWithin_good (w : World) (a b : List UInt8) (ha : a.length ≤ 50000) (hb : b.length ≤ 50000) (hm : MaxL w) (hF : [a, b].all tFilter = true) :
    Calls Tryd.prog 13 #[.string ⟨a.toArray⟩, .string ⟨b.toArray⟩] w (WiPost w (tWithin a b) 0) := by
  obtain ⟨S, hS⟩ : ∃ S : ByteArray, (⟨a.toArray⟩ : ByteArray) = S := ⟨_, rfl⟩
  obtain ⟨T, hT⟩ : ∃ S : ByteArray, (⟨b.toArray⟩ : ByteArray) = S := ⟨_, rfl⟩
  have HA := Lib.hid (And.intro hF (And.intro hm (And.intro (show ∀ s ∈ [a, b], s.length ≤ 50000 by simp [ha, hb]) (And.intro hS hT))))
  have HST := Lib.hid (show ∀ w, Calls Tryd.prog 22 #[.string T, .string S] w fun e w' => e = .returned (.bool (tStarts b a)) ∧ w = w' from fun w => by rw [← hS, ← hT]; exact tStarts_any w b a)
  have HLA := Lib.hid (show ∀ w, MaxL w → Calls Tryd.prog 19 #[.string S] w fun e w' => e = .returned (.slice (some ⟨w.heap.size, 0, none⟩) (tLev a).length (tLev a).length) ∧ w' = w.alloc (.cells (txC (tLev a)) 9) from fun w h => by rw [← hS]; exact tLevels_any w a (by omega) h)
  have HLB := Lib.hid (show ∀ w, MaxL w → Calls Tryd.prog 19 #[.string T] w fun e w' => e = .returned (.slice (some ⟨w.heap.size, 0, none⟩) (tLev b).length (tLev b).length) ∧ w' = w.alloc (.cells (txC (tLev b)) 9) from fun w h => by rw [← hT]; exact tLevels_any w b (by omega) h)
  rw [hS, hT]
  clear hF hm hS hT
  go_enter Tryd.func13, Tryd.ntmps13
  go_wp2_with fail
  refine wp_scope_straight ?_
  go_wp2_with fail
  refine (tAll_any _ _ 2 [a, b] (lies_two w a b S T HA.out.2.2.2.1 HA.out.2.2.2.2) (by simp) (HA.out.2.1.keeps (Keeps.alloc _ _)) HA.out.2.2.1).mono ?_
  rintro e w1 ⟨rfl, hk1⟩
  rw [HA.out.1]
  have HK := Lib.hid (show Keeps w w1 [] from (Keeps.alloc _ _).trans hk1 (by simp))
  clear hk1
  go_wp2_with fail
  refine (HST.out w1).mono ?_
  rintro e w2 ⟨rfl, rfl⟩
  cases h1 : tStarts b a with
  | false =>
    have HT := Lib.hid (show tWithin a b = false by unfold tWithin; rw [h1]; rfl)
    clear h1
    go_wp2_with fail
    go_ret2
    exact ⟨by rw [HT.out]; rfl, HK.out⟩
  | true =>
    have HT := Lib.hid (show tWithin a b = tWithL (tWide a) (tLev b) by unfold tWithin; rw [h1]; rfl)
    clear h1
    have HM1 := Lib.hid (HA.out.2.1.keeps HK.out)
    go_wp2_with fail
    refine (HLA.out w1 HM1.out).mono ?_
    rintro e w2 ⟨rfl, rfl⟩
    go_wp2_with fail
    refine (HLB.out _ (HM1.out.keeps (Keeps.alloc _ _))).mono ?_
    rintro e w2 ⟨rfl, rfl⟩
    by_cases hw : a = [35] ∨ a = [47, 35]
    · rcases hw with rfl | rfl
      · skip
        have eS : S.toList = [35] := by rw [← HA.out.2.2.2.1, Lib.toList_data]
        have e1 : (S.toList == [35]) = ([35] == ([35] : List UInt8)) := by rw [eS]
        have e2 : (S.toList == [47, 35]) = ([35] == ([47, 35] : List UInt8)) := by rw [eS]
        rw [show ([35] == ([35] : List UInt8)) = decide (1 = 1) from rfl] at e1
        rw [show ([35] == ([47, 35] : List UInt8)) = decide (1 = 2) from rfl] at e2
        clear eS
        rw [show (tLev [35]).length = 1 from rfl]
        obtain ⟨i0, hi, hz0, hz1, hz2⟩ := partsStr
        go_wp2_with (at_builtin; refine wpList_append_grows _ rfl (.tmp 31) (.tmp 32) 28 rfl 9 i0 (.string ⟨#[]⟩) 1 16 undTxs hi hz0 hz1 hz2 rfl (by omega) (some ⟨w1.heap.size, 0, none⟩) 0 1 (txL []) rfl (fun h => by cases h) rfl (lies_holds (((lies_lev2 w1 _ _ _ rfl).1.keeps (Keeps.alloc _ _)).take 0)) ⟨w1.heap.size + 2, 0, none⟩ 2 2 (txL [[43], [35]]) rfl rfl (lies_holds (lies_three w1 _ _ [43] [35] _ rfl) _ rfl) (by simp [Value.oneCell']) (by omega) (by simp [maxLen]) (by omega) ?_; intro v' w5 hown hgrow)
        obtain ⟨A5, c5, rfl, hc5, -⟩ := own_slice hown
        have hk5 : Keeps _ w5 [] := Keeps.of_grown hgrow
        obtain ⟨la, hla⟩ : ∃ la : List (List UInt8), [] ++ [[43], [35]] = la := ⟨_, rfl⟩
        have hlen : la.length = 0 + 2 := by rw [← hla]; rfl
        have hL : Lies w5 w5.heap.size A5 (txL la) := by rw [← hla]; exact Lies.of_own hown
        have HO := Lib.hid (And.intro hL (And.intro (((lies_lev2 w1 _ _ _ rfl).2.keeps (Keeps.alloc _ _)).keeps hk5) (And.intro (show la.length ≤ c5 by rw [hlen]; exact hc5) ((((HK.out.trans (Keeps.alloc _ _) (by simp)).trans (Keeps.alloc _ _) (by simp)).trans (Keeps.alloc _ _) (by simp)).trans hk5 (by simp)))))
        have HWW := Lib.hid (show tWide [35] = la by rw [← hla]; exact wide_one)
        have HLA2 := Lib.hid (show la.length ≤ 60000 by rw [hlen]; omega)
        rw [← hlen]
        clear hown hgrow hc5 hk5 hL hlen hla
        go_wp2_with fail
        refine (tWithL_any w5 la (tLev b) _ _ _ _ HO.out.1 HO.out.2.1 HO.out.2.2.1 (Nat.le_refl _) HLA2.out).mono ?_
        rintro e w6 ⟨rfl, hk6⟩
        have HK6 := Lib.hid (HO.out.2.2.2.trans hk6 (by simp))
        clear hk6
        go_wp2_with fail
        go_ret2
        exact ⟨by rw [HT.out, HWW.out]; rfl, HK6.out⟩
      · skip
        have eS : S.toList = [47, 35] := by rw [← HA.out.2.2.2.1, Lib.toList_data]
        have e1 : (S.toList == [35]) = ([47, 35] == ([35] : List UInt8)) := by rw [eS]
        have e2 : (S.toList == [47, 35]) = ([47, 35] == ([47, 35] : List UInt8)) := by rw [eS]
        rw [show ([47, 35] == ([35] : List UInt8)) = decide (2 = 1) from rfl] at e1
        rw [show ([47, 35] == ([47, 35] : List UInt8)) = decide (2 = 2) from rfl] at e2
        clear eS
        rw [show (tLev [47, 35]).length = 2 from rfl]
        obtain ⟨i0, hi, hz0, hz1, hz2⟩ := partsStr
        go_wp2_with (at_builtin; refine wpList_append_grows _ rfl (.tmp 31) (.tmp 32) 28 rfl 9 i0 (.string ⟨#[]⟩) 1 16 undTxs hi hz0 hz1 hz2 rfl (by omega) (some ⟨w1.heap.size, 0, none⟩) 1 2 (txL [[]]) rfl (fun h => by cases h) rfl (lies_holds (((lies_lev2 w1 _ _ _ rfl).1.keeps (Keeps.alloc _ _)).take 1)) ⟨w1.heap.size + 2, 0, none⟩ 2 2 (txL [[43], [35]]) rfl rfl (lies_holds (lies_three w1 _ _ [43] [35] _ rfl) _ rfl) (by simp [Value.oneCell']) (by omega) (by simp [maxLen]) (by omega) ?_; intro v' w5 hown hgrow)
        obtain ⟨A5, c5, rfl, hc5, -⟩ := own_slice hown
        have hk5 : Keeps _ w5 [] := Keeps.of_grown hgrow
        obtain ⟨la, hla⟩ : ∃ la : List (List UInt8), [[]] ++ [[43], [35]] = la := ⟨_, rfl⟩
        have hlen : la.length = 1 + 2 := by rw [← hla]; rfl
        have hL : Lies w5 w5.heap.size A5 (txL la) := by rw [← hla]; exact Lies.of_own hown
        have HO := Lib.hid (And.intro hL (And.intro (((lies_lev2 w1 _ _ _ rfl).2.keeps (Keeps.alloc _ _)).keeps hk5) (And.intro (show la.length ≤ c5 by rw [hlen]; exact hc5) ((((HK.out.trans (Keeps.alloc _ _) (by simp)).trans (Keeps.alloc _ _) (by simp)).trans (Keeps.alloc _ _) (by simp)).trans hk5 (by simp)))))
        have HWW := Lib.hid (show tWide [47, 35] = la by rw [← hla]; exact wide_two)
        have HLA2 := Lib.hid (show la.length ≤ 60000 by rw [hlen]; omega)
        rw [← hlen]
        clear hown hgrow hc5 hk5 hL hlen hla
        go_wp2_with fail
        refine (tWithL_any w5 la (tLev b) _ _ _ _ HO.out.1 HO.out.2.1 HO.out.2.2.1 (Nat.le_refl _) HLA2.out).mono ?_
        rintro e w6 ⟨rfl, hk6⟩
        have HK6 := Lib.hid (HO.out.2.2.2.trans hk6 (by simp))
        clear hk6
        go_wp2_with fail
        go_ret2
        exact ⟨by rw [HT.out, HWW.out]; rfl, HK6.out⟩
    · obtain ⟨f1, f2⟩ := not_or.1 hw
      have HW := Lib.hid (show tWide a = tLev a by unfold tWide; rw [if_neg hw])
      have eS : S.toList = a := by rw [← HA.out.2.2.2.1, Lib.toList_data]
      have e1 : (S.toList == [35]) = false := by rw [eS]; simpa using f1
      have e2 : (S.toList == [47, 35]) = false := by rw [eS]; simpa using f2
      clear hw f1 f2 eS
      go_wp2_with fail
      refine (tWithL_any _ (tLev a) (tLev b) _ _ _ _ (lies_lev2 w1 _ _ _ rfl).1 (lies_lev2 w1 _ _ _ rfl).2 (Nat.le_refl _) (Nat.le_refl _) (by have := tLev_len a; omega)).mono ?_
      rintro e w2 ⟨rfl, hk2⟩
      have HK2 := Lib.hid (((HK.out.trans (Keeps.alloc _ _) (by simp)).trans (Keeps.alloc _ _) (by simp)).trans hk2 (by simp))
      clear hk2
      go_wp2_with fail
      go_ret2
      exact ⟨by rw [HT.out, HW.out]; rfl, HK2.out⟩
end Go.Proofs.YtbjoobanbejgbaaDoor
