/- Layer 18: the bytes of any parts: the stage's law. -/
import Derived.Test.YtckmlmedhchpaaaDoorPa35
import Derived.Test.YtckmlmedhchpaaaDoorPa37
import Derived.Test.YtckmlmedhchpaaaDoorPa42

namespace Go.Proofs.YtckmlmedhchpaaaDoor
open Go.RowKit

set_option maxRecDepth 100000 in
set_option maxHeartbeats 4000000 in
theorem keysRaw_big (w : World) (A : Option Addr) (ca : Nat) (a : List KP) (hA : Lies w w.heap.size A (kFlat a)) (hM : MaxL w) (hf : kFew a = false) :
    Calls Tryd.prog 6 #[.slice A a.length ca] w fun e w' => e = .returned (.bool true) ∧ Keeps w w' [] := by
  have HKN := Lib.hid (known_at hM)
  have HF := Lib.hid (few_at hA ca hf)
  clear hM hA hf
  have HM := Lib.hid (Keeps.refl w [])
  go_enter Tryd.func6, Tryd.ntmps6
  go_wp2_with fail
  refine (HF.out _ HM.out).mono ?_
  rintro e w' ⟨rfl, hk⟩
  replace HM := Lib.hid (HM.out.trans hk (by simp))
  clear hk
  go_wp2_with fail
  refine (HKN.out _ HM.out).mono ?_
  rintro e w' ⟨rfl, hk⟩
  replace HM := Lib.hid (HM.out.trans hk (by simp))
  clear hk
  go_wp2_with fail
  go_ret
  exact ⟨rfl, HM.out⟩
/-- What the law reads, as words alone. -/
structure RArg (w : World) (A : Option Addr) (na ca : Nat) (ea : Nat) (X Z : List UInt8) : Prop where
  kn : ∀ W, Keeps w W [] → Calls Tryd.prog 9 #[] W fun e w' => e = .returned (.bool true) ∧ Keeps W w' []
  fa : ∀ W, Keeps w W [] → Calls Tryd.prog 18 #[.slice A na ca] W fun e w' => e = .returned (.bool true) ∧ Keeps W w' []
  ra : ∀ W, Keeps w W [] → Calls Tryd.prog 14 #[.slice A na ca] W fun e w' => e = .returned (.tuple #[.string ⟨X.toArray⟩, .int .i64 (ea : Nat)]) ∧ Keeps W w' []
  rr : ∀ W, Keeps w W [] → Calls Tryd.prog 19 #[.slice A na ca] W fun e w' => e = .returned (.tuple #[.string ⟨X.toArray⟩, .int .i64 (ea : Nat)]) ∧ Keeps W w' []
  ck : ∀ W, Keeps w W [] → Calls Tryd.prog 20 #[.slice A na ca] W fun e w' => e = .returned (.int .i64 (ea : Nat)) ∧ Keeps W w' []
  be : ∀ W, Keeps w W [] → Calls Tryd.prog 21 #[.slice A na ca] W fun e w' => e = .returned (.tuple #[.string ⟨Z.toArray⟩, .int .i64 (ea : Nat)]) ∧ Keeps W w' []
  pa : ea = 0 → ∀ W, Keeps w W [] → Calls Tryd.prog 10 #[.string ⟨X.toArray⟩] W fun e w' => ∃ B cb, e = .returned (.tuple #[.slice B na cb, .int .i64 0]) ∧ Keeps W w' [] ∧
    ∀ W2, Keeps w' W2 [] → Calls Tryd.prog 12 #[.slice B na cb, .slice A na ca] W2 fun e w2 => e = .returned (.int .i64 0) ∧ Keeps W2 w2 []
  z : ea = 0 → Z = X ++ [255]
  len : ea = 0 → X.length ≤ 48
theorem RArg.of {w : World} {A : Option Addr} {a : List KP} (ca : Nat) (ha : KArg w A a) (fa : kFew a = true) :
    RArg w A a.length ca (kErr a) (kKey a) (if kErr a = 0 then kRaw a ++ [255] else []) := by
  have la := ha.len
  refine ⟨known_at ha.max, few_at ha.lies ca fa, fun W hk => (ha.keep hk).raw ca, fun W hk => ?_, fun W hk => (ha.keep hk).check ca, fun W hk => (ha.keep hk).behind ca, fun h0 W hk => ?_, fun h0 => ?_, fun h0 => ?_⟩
  · exact refRaw_any W A ca a ha.ok (ha.keep hk).lies ha.len ha.text
  · have hX : kKey a = kRaw a := if_pos h0
    obtain ⟨h48, l', g1, g2, g3, g4, g5⟩ := par_own a ha.ok h0
    rw [hX]
    refine (kParse_any W (kRaw a) (ha.max.keeps hk) (by omega)).mono ?_
    rintro e w' ⟨hk', ⟨l2, v, _, q2, q3, rfl, q5⟩ | ⟨hno, _⟩⟩
    · have : l2 = l' := by rw [g1] at q2; exact (Option.some.inj q2).symm
      subst this
      obtain ⟨B, cb, rfl, hL⟩ := ownP_slice q5
      refine ⟨B, cb, by rw [g3], hk', fun W2 hk2 => ?_⟩
      have := refCompare_any W2 B A cb ca l2 a (fun p hp => (g5 p hp).1) ha.ok (hL.keeps hk2) ((ha.keep hk).keep hk' |>.keep hk2).lies (by omega) (by omega)
      rw [g3, g4] at this
      exact this
    · exact absurd ⟨h48, l', g1, g2⟩ hno
  · unfold kKey; rw [if_pos h0, if_pos h0]
  · have hX : kKey a = kRaw a := if_pos h0
    rw [hX]
    exact (par_own a ha.ok h0).1
set_option maxRecDepth 100000 in
set_option maxHeartbeats 4000000 in
theorem keysRaw_err (w : World) (A : Option Addr) (na ca ea : Nat) (X Z : List UInt8) (h : RArg w A na ca ea X Z) (he : ea ≠ 0) :
    Calls Tryd.prog 6 #[.slice A na ca] w fun e w' => e = .returned (.bool true) ∧ Keeps w w' [] := by
  have H := Lib.hid h
  have tX := strV_toList X
  have h2 : ((ea : Int) != 0) = true := by simp [he]
  clear h he
  have HM := Lib.hid (Keeps.refl w [])
  go_enter Tryd.func6, Tryd.ntmps6
  go_wp2_with fail
  refine (H.out.fa _ HM.out).mono ?_
  rintro e w' ⟨rfl, hk⟩
  replace HM := Lib.hid (HM.out.trans hk (by simp))
  clear hk
  go_wp2_with fail
  refine (H.out.ra _ HM.out).mono ?_
  rintro e w' ⟨rfl, hk⟩
  replace HM := Lib.hid (HM.out.trans hk (by simp))
  clear hk
  go_wp2_with fail
  refine (H.out.rr _ HM.out).mono ?_
  rintro e w' ⟨rfl, hk⟩
  replace HM := Lib.hid (HM.out.trans hk (by simp))
  clear hk
  go_wp2_with fail
  refine (H.out.ck _ HM.out).mono ?_
  rintro e w' ⟨rfl, hk⟩
  replace HM := Lib.hid (HM.out.trans hk (by simp))
  clear hk
  go_wp2_with fail
  refine (H.out.kn _ HM.out).mono ?_
  rintro e w' ⟨rfl, hk⟩
  replace HM := Lib.hid (HM.out.trans hk (by simp))
  clear hk
  go_wp2_with fail
  go_ret
  exact ⟨rfl, HM.out⟩
set_option maxRecDepth 100000 in
set_option maxHeartbeats 4000000 in
theorem keysRaw_ok (w : World) (A : Option Addr) (na ca : Nat) (X Z : List UInt8) (h : RArg w A na ca 0 X Z) :
    Calls Tryd.prog 6 #[.slice A na ca] w fun e w' => e = .returned (.bool true) ∧ Keeps w w' [] := by
  have H := Lib.hid h
  have tX := strV_toList X
  have tZ := strV_toList Z
  have e1 : (⟨X.toArray⟩ : ByteArray) ++ ⟨#[255]⟩ = ⟨Z.toArray⟩ := by rw [h.z rfl]; exact bytes_append X [255]
  have hl := h.len rfl
  have s1 : (⟨X.toArray⟩ : ByteArray).size = X.length := by simp [ByteArray.size]
  clear h
  have HM := Lib.hid (Keeps.refl w [])
  go_enter Tryd.func6, Tryd.ntmps6
  go_wp2_with fail
  refine (H.out.fa _ HM.out).mono ?_
  rintro e w' ⟨rfl, hk⟩
  replace HM := Lib.hid (HM.out.trans hk (by simp))
  clear hk
  go_wp2_with fail
  refine (H.out.ra _ HM.out).mono ?_
  rintro e w' ⟨rfl, hk⟩
  replace HM := Lib.hid (HM.out.trans hk (by simp))
  clear hk
  go_wp2_with fail
  refine (H.out.rr _ HM.out).mono ?_
  rintro e w' ⟨rfl, hk⟩
  replace HM := Lib.hid (HM.out.trans hk (by simp))
  clear hk
  go_wp2_with fail
  refine (H.out.ck _ HM.out).mono ?_
  rintro e w' ⟨rfl, hk⟩
  replace HM := Lib.hid (HM.out.trans hk (by simp))
  clear hk
  go_wp2_with fail
  refine (H.out.pa rfl _ HM.out).mono ?_
  rintro e w1 ⟨B, cb, rfl, hk, hcmp⟩
  replace HM := Lib.hid (HM.out.trans hk (by simp))
  have HC := Lib.hid hcmp
  have HN := Lib.hid (Keeps.refl w1 [])
  clear hk hcmp
  go_wp2_with fail
  refine (H.out.be _ HM.out).mono ?_
  rintro e w2 ⟨rfl, hk⟩
  replace HM := Lib.hid (HM.out.trans hk (by simp))
  replace HN := Lib.hid (HN.out.trans hk (by simp))
  clear hk
  go_wp2_with fail
  refine (HC.out _ HN.out).mono ?_
  rintro e w3 ⟨rfl, hk⟩
  replace HM := Lib.hid (HM.out.trans hk (by simp))
  clear hk
  go_wp2_with fail
  refine (H.out.kn _ HM.out).mono ?_
  rintro e w' ⟨rfl, hk⟩
  replace HM := Lib.hid (HM.out.trans hk (by simp))
  clear hk
  go_wp2_with fail
  go_ret
  exact ⟨rfl, HM.out⟩
theorem keysRaw_any (w : World) (A : Option Addr) (ca : Nat) (a : List KP) (hoa : ∀ p ∈ a, p.Ok) (hA : Lies w w.heap.size A (kFlat a)) (hM : MaxL w) :
    Calls Tryd.prog 6 #[.slice A a.length ca] w fun e w' => e = .returned (.bool true) ∧ Keeps w w' [] := by
  cases fa : kFew a
  · exact keysRaw_big w A ca a hA hM fa
  · have h := RArg.of ca (few_arg fa hoa hA hM) fa
    by_cases he : kErr a = 0
    · rw [he] at h
      exact keysRaw_ok w A _ ca _ _ h
    · exact keysRaw_err w A _ ca _ _ _ h he
end Go.Proofs.YtckmlmedhchpaaaDoor
