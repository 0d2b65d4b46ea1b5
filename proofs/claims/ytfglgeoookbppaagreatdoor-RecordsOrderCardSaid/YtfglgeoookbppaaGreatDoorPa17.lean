/- Package keys: a text's bytes. -/
import Derived.Test.YtfglgeoookbppaaGreatDoorPa16
import Derived.Test.YtfglgeoookbppaaGreatDoorShelf
import Derived.Test.YtfglgeoookbppaaGreatDoorPa0

namespace Go.Proofs.YtfglgeoookbppaaGreatDoor
open Go.RowKit

theorem replaceK_esc : ∀ s : List UInt8, Lib.replaceK [0] [0, 255] (Lib.count s [0]) s = kEsc s
  | [] => by rw [Lib.count_miss (by simp [Lib.index])]; rfl
  | b :: l => by
    have ih := replaceK_esc l
    by_cases h : b = 0
    · subst h
      rw [Lib.count_cons_eq, Nat.add_comm]
      have hix : Lib.index (0 :: l) [0] = ((0 : Nat) : Int) := by rw [Lib.index]; simp [List.isPrefixOf]
      rw [Lib.replaceK_hit _ _ _ _ 0 hix]
      simp [kEsc, ih]
    · rw [Lib.count_cons_ne b 0 l h]
      simp only [kEsc, if_neg h]
      rcases hc : Lib.count l [0] with _ | k
      · rw [hc] at ih
        simp only [Lib.replaceK] at ih ⊢
        rw [← ih]; rfl
      · rw [hc] at ih
        obtain ⟨j, hj⟩ := Lib.index_of_count (s := l) (old := [0]) (by omega)
        have hp : ([0] : List UInt8).isPrefixOf (b :: l) = false := by simp [List.isPrefixOf, Ne.symm h]
        have hix : Lib.index (b :: l) [0] = ((j + 1 : Nat) : Int) := by
          rw [Lib.index, hp, hj, if_neg (by simp), if_neg (by simp)]; rfl
        rw [Lib.replaceK_hit _ _ _ _ (j + 1) hix]
        rw [Lib.replaceK_hit _ _ _ _ j hj] at ih
        rw [← ih]
        simp
theorem replaceAll_esc (s : List UInt8) : Lib.replaceAll s [0] [0, 255] = kEsc s := by
  have hn : Lib.replaceNum s [0] (-1) = Lib.count s [0] := by unfold Lib.replaceNum; rw [if_pos (.inl (by decide))]
  rw [Lib.replaceAll, Lib.replace, if_neg (by decide), hn]
  exact replaceK_esc s

theorem kEsc_length (s : List UInt8) : (kEsc s).length ≤ 2 * s.length ∧ s.length ≤ (kEsc s).length := by
  induction s with
  | nil => simp [kEsc]
  | cons b l ih => simp only [kEsc, List.length_append]; split <;> simp <;> omega

theorem bytes_append (a b : List UInt8) : (⟨a.toArray⟩ : ByteArray) ++ ⟨b.toArray⟩ = ⟨(a ++ b).toArray⟩ := by
  apply ByteArray.ext
  simp

set_option maxRecDepth 100000 in
set_option maxHeartbeats 2000000 in
theorem kRawT_any (p : KP) (w : World) (hm : MaxL w) (hs : p.s.length ≤ 1000000) : Calls Tryz.prog 121 #[kpV p] w fun e w' => e = .returned (strV (kEsc p.s ++ [0, 1])) ∧ Keeps w w' [] := by
  obtain ⟨k, n, f, s⟩ := p
  unfold kpV strV
  have hsf := @run_store_float Tryz.prog
  have hc := Lib.countB_le ⟨#[0]⟩ (by decide) s.length ⟨s.toArray⟩ (by simp [ByteArray.size])
  have HC := Lib.hid (show (⟨s.toArray⟩ : ByteArray).size < 4294967281 ∧ (⟨s.toArray⟩ : ByteArray).size + Lib.countB ⟨s.toArray⟩ ⟨#[0]⟩ * (⟨#[0, 255]⟩ : ByteArray).size ≤ 140737488355328 by
    have e1 : (⟨s.toArray⟩ : ByteArray).size = s.length := by simp [ByteArray.size]
    have e2 : (⟨#[0, 255]⟩ : ByteArray).size = 2 := rfl
    simp only at hs
    rw [e1] at hc ⊢
    rw [e2]
    omega)
  have HL := Lib.hid (show ¬ 9223372036854775807 < (Lib.replaceAll s [0] [0, 255]).length + 2 by
    rw [replaceAll_esc]
    have := kEsc_length s
    simp only at hs
    omega)
  have HM := Lib.hid (show ∀ w', Keeps w w' [] → MaxL w' from fun w' hk => hm.keeps hk)
  clear hc hm hs
  go_enter Tryz.func121, Tryz.ntmps121
  go_wp2_with fail
  obtain ⟨m, hm⟩ := HM.out _ (Keeps.alloc w (.cells #[.int .i64 k, .int .i64 n, .float .f64 f, .string ⟨s.toArray⟩] 63))
  have HMM := Lib.hid hm
  clear hm
  refine (Tryz.strings_ReplaceAll _ _ _ m _ HC.out.1 HMM.out (by decide) HC.out.2).mono ?_
  rintro e w' ⟨rfl, hb⟩
  have HK := Lib.hid (Keeps.of_below hb)
  clear hb
  have hl := HL.out
  go_wp2_with fail
  go_ret
  refine ⟨?_, (Keeps.alloc _ _).trans HK.out (by simp)⟩
  rw [← replaceAll_esc, ← bytes_append]
  rfl
end Go.Proofs.YtfglgeoookbppaaGreatDoor
