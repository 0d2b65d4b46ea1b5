/- Package topic: what a level meets. -/
import Derived.Test.YtbjoobanbejgbaaDoorPa22
import Derived.Test.YtbjoobanbejgbaaDoorPa23
import Derived.StringKeys

namespace Go.Proofs.YtbjoobanbejgbaaDoor
open Go.RowKit Go.Shelf Go.Maps

set_option maxRecDepth 100000 in
theorem tAny1_any (w : World) (X : Value) : Calls Tryd.prog 36 (#[X] ++ #[]) w fun e w' => e = .returned (.bool true) ∧ w = w' := by
  go_enter Tryd.func36, Tryd.ntmps36
  go_wp2
  go_ret
  exact ⟨rfl, rfl⟩
set_option maxRecDepth 100000 in
theorem tSame1_any (w : World) (b : Nat) (f x : List UInt8) (h : Row w b 9 #[.string ⟨f.toArray⟩]) : Calls Tryd.prog 45 (#[.string ⟨x.toArray⟩] ++ #[.pointer (some ⟨b, 0, none⟩)]) w fun e w' => e = .returned (.bool (f == x)) ∧ w = w' := by
  obtain ⟨S, hS⟩ : ∃ S : ByteArray, (⟨f.toArray⟩ : ByteArray) = S := ⟨_, rfl⟩
  obtain ⟨X, hX⟩ : ∃ S : ByteArray, (⟨x.toArray⟩ : ByteArray) = S := ⟨_, rfl⟩
  have e1 : S.toList = f := by rw [← hS, Lib.toList_data]
  have e2 : X.toList = x := by rw [← hX, Lib.toList_data]
  rw [hS] at h
  rw [hX]
  have c := h.cell 0
  simp only [List.getElem?_toArray, List.getElem?_cons_zero] at c
  obtain ⟨bb, hb⟩ : ∃ bb, (f == x) = bb := ⟨_, rfl⟩
  have hcmp : (S.toList == X.toList) = bb := by rw [e1, e2, hb]
  rw [hb]
  clear hS hX e1 e2 hb h
  go_enter Tryd.func45, Tryd.ntmps45
  go_wp2_with fail
  go_ret
  exact ⟨rfl, rfl⟩
set_option maxRecDepth 100000 in
theorem tSameF_any (w : World) (S : ByteArray) : Calls Tryd.prog 37 #[.string S] w fun e w' => e = .returned (.func (.func 45) #[] #[.pointer (some ⟨w.heap.size, 0, none⟩)]) ∧ w' = w.alloc (.cells #[.string S] 9) := by
  go_enter Tryd.func37, Tryd.ntmps37
  go_wp2
  go_ret
  exact ⟨rfl, rfl⟩
/-- What a level meets, as a function. -/
def MeetsFn (w : World) (f : List UInt8) (v : Value) : Prop := (f = [43] ∧ v = .func (.func 36) #[] #[]) ∨ (f ≠ [43] ∧ ∃ b, v = .func (.func 45) #[] #[.pointer (some ⟨b, 0, none⟩)] ∧ Row w b 9 #[.string ⟨f.toArray⟩])
theorem undMf : Tryd.prog.underlying 44 = some (.map 9 26) := by kernel_rfl
theorem undStr : Tryd.prog.underlying 9 = some .string := by kernel_rfl
theorem zeroFn (w : World) : (zeroValue 26).run Tryd.prog w = .ok .nilFunc w := by kernel_rfl
/-- The one entry. -/
def mfD : DataW Value := (DataW.map []).put (.string [43]) (.held (.func (.func 36) #[] #[]))
theorem mfD_at (zd : DataW Value) : mfD.atKey (.string [43]) zd = .held (.func (.func 36) #[] #[]) := rfl
set_option maxRecDepth 100000 in
set_option maxHeartbeats 4000000 in
theorem tMeetsF_any (w : World) (f : List UInt8) (hf : f.length ≤ 60000) : Calls Tryd.prog 24 #[.string ⟨f.toArray⟩] w fun e w' => ∃ v, e = .returned v ∧ Keeps w w' [] ∧ MeetsFn w' f v := by
  have hmm := @run_makeMap Tryd.prog
  obtain ⟨S, hS⟩ : ∃ S : ByteArray, (⟨f.toArray⟩ : ByteArray) = S := ⟨_, rfl⟩
  have hkey : keyOf Tryd.prog 9 (.string S) = some (.string f) := by
    have := Go.WideMaps.keyOf_string_mk (P := Tryd.prog) (k := 9) undStr (s := S) (by rw [← hS]; show f.length ≤ maxLen; unfold maxLen; omega)
    rw [← hS] at this ⊢
    exact this
  have HS := Lib.hid (And.intro hS hkey)
  rw [hS]
  clear hS hkey
  by_cases h43 : f = [43]
  · have H43 := Lib.hid h43
    have HK := Lib.hid (show ∀ W, HMap W Tryd.prog 9 w.heap.size 1 mfD → (Instr.lookup 44 (.map (some w.heap.size)) (.string S) true).run Tryd.prog W = .ok (.tuple #[.func (.func 36) #[] #[], .bool true]) W from fun W h => by
      have := HMap.there h (string_keyed undStr) undMf (zeroFn W) HS.out.2 (v := .func (.func 36) #[] #[]) (fun zd => by rw [H43.out]; exact mfD_at zd) true
      rw [if_pos rfl] at this
      exact this)
    clear h43
    go_enter Tryd.func24, Tryd.ntmps24
    go_wp2_with (refine wpList_insert_held rfl (.tmp 6) (.const (.string { data := #[43] })) (.func 36) rfl (string_keyed undStr) undMf rfl (World.ownsMap_made w _ _ _) (by unfold maxLen; omega) (.string { data := #[43] }) (.func (.func 36) #[] #[]) (.string [43]) rfl rfl (Go.WideMaps.keyOf_string_mk undStr (by decide)) ?_; intro w1 hm1 hg1; have HM1 := Lib.hid hm1; have HG1 := Lib.hid hg1; have hlk := HK.out w1 hm1; clear hm1 hg1)
    go_ret
    have k1 := Keeps.of_grown HG1.out
    simp only [Option.toList] at k1
    exact ⟨_, rfl, (Keeps.alloc w _).trans k1 (by simp), .inl ⟨H43.out, rfl⟩⟩
  · have H43 := Lib.hid h43
    have HK := Lib.hid (show ∀ W, HMap W Tryd.prog 9 w.heap.size 1 mfD → (Instr.lookup 44 (.map (some w.heap.size)) (.string S) true).run Tryd.prog W = .ok (.tuple #[.nilFunc, .bool false]) W from fun W h => by
      have := HMap.missing h (string_keyed undStr) undMf (zeroFn W) HS.out.2 (fun zd => by
        unfold mfD
        rw [atKey_put_other (by simpa using h43)]
        rfl) true
      rw [if_pos rfl] at this
      exact this)
    clear h43
    go_enter Tryd.func24, Tryd.ntmps24
    go_wp2_with (refine wpList_insert_held rfl (.tmp 6) (.const (.string { data := #[43] })) (.func 36) rfl (string_keyed undStr) undMf rfl (World.ownsMap_made w _ _ _) (by unfold maxLen; omega) (.string { data := #[43] }) (.func (.func 36) #[] #[]) (.string [43]) rfl rfl (Go.WideMaps.keyOf_string_mk undStr (by decide)) ?_; intro w1 hm1 hg1; have HM1 := Lib.hid hm1; have HG1 := Lib.hid hg1; have hlk := HK.out w1 hm1; clear hm1 hg1)
    refine (tSameF_any w1 S).mono ?_
    rintro e w2 ⟨rfl, rfl⟩
    go_wp2_with fail
    go_ret
    have k1 := Keeps.of_grown HG1.out
    simp only [Option.toList] at k1
    exact ⟨_, rfl, ((Keeps.alloc w _).trans k1 (by simp)).then_alloc _, .inr ⟨H43.out, _, rfl, by rw [HS.out.1]; exact Row.new _ _ _⟩⟩
theorem tMeetsF_43 (w : World) (f : List UInt8) (hf : f.length ≤ 60000) (h : f = [43]) : Calls Tryd.prog 24 #[.string ⟨f.toArray⟩] w fun e w' => e = .returned (.func (.func 36) #[] #[]) ∧ Keeps w w' [] :=
  (tMeetsF_any w f hf).mono (by
    rintro e w' ⟨v, rfl, hk, ⟨_, rfl⟩ | ⟨h', _⟩⟩
    · exact ⟨rfl, hk⟩
    · exact absurd h h')
theorem tMeetsF_other (w : World) (f : List UInt8) (hf : f.length ≤ 60000) (h : f ≠ [43]) : Calls Tryd.prog 24 #[.string ⟨f.toArray⟩] w fun e w' => ∃ b, e = .returned (.func (.func 45) #[] #[.pointer (some ⟨b, 0, none⟩)]) ∧ Row w' b 9 #[.string ⟨f.toArray⟩] ∧ Keeps w w' [] :=
  (tMeetsF_any w f hf).mono (by
    rintro e w' ⟨v, rfl, hk, ⟨h', _⟩ | ⟨_, b, rfl, hr⟩⟩
    · exact absurd h' h
    · exact ⟨b, rfl, hr, hk⟩)
end Go.Proofs.YtbjoobanbejgbaaDoor
