/- Plain words of layer 18: the parts' own bytes, read. -/
import Derived.Test.YtckmlmedhchpaaaDoorPa34
import Derived.Test.YtckmlmedhchpaaaDoorPa24

namespace Go.Proofs.YtckmlmedhchpaaaDoor
open Go.RowKit

theorem kUnesc_own (s t : List UInt8) : kUnesc (kEsc s ++ [0, 1] ++ t) = some (s, t) := by
  induction s with
  | nil => exact kUnesc_end t
  | cons b s ih =>
    by_cases hb : b = 0
    · subst hb
      rw [show kEsc (0 :: s) ++ [0, 1] ++ t = 0 :: 255 :: (kEsc s ++ [0, 1] ++ t) by simp [kEsc], kUnesc_nought, ih]
      rfl
    · rw [show kEsc (b :: s) ++ [0, 1] ++ t = b :: (kEsc s ++ [0, 1] ++ t) by simp [kEsc, hb], kUnesc_byte _ hb, ih]
      rfl
theorem kBits_lt (x : Nat) (h : x < 18446744073709551616) : kBits x < 18446744073709551616 := by unfold kBits; split <;> (try split) <;> omega
theorem kBits_idem (x : Nat) : kBits (kBits x) = kBits x := by
  by_cases h1 : fInf < x % fS
  · have : kBits x = 9221120237041090560 := by unfold kBits; rw [if_pos h1]
    rw [this]; decide
  · by_cases h2 : x % fS = 0
    · have : kBits x = 0 := by unfold kBits; rw [if_neg h1, if_pos h2]
      rw [this]; decide
    · have : kBits x = x := by unfold kBits; rw [if_neg h1, if_neg h2]
      rw [this, this]
theorem kWord_ord (b : Nat) (h : b < 18446744073709551616) : kWord (kOrd b) = b := by
  unfold kWord kOrd fS
  split <;> split <;> omega
/-- One part's own bytes, read. -/
theorem rd_own (p : KP) (hp : p.Ok) (hm : kMay p = true) (t : List UInt8) : ∃ p', kRd p.k.toNat (kTail p ++ t) = some (p', t) ∧ kCmp1 p' p = 0 ∧ kMay p' = true ∧ p'.Ok ∧ p'.k = p.k ∧ p'.s.length ≤ (kTail p).length := by
  have n1 := hp.n1
  have n2 := hp.n2
  have f1 := hp.f
  have hk := kMay_kind hm
  obtain ⟨k, n, f, s⟩ := p
  dsimp only at n1 n2 f1 hk ⊢
  rcases hk with rfl | rfl | rfl
  · have hl : (toBE 8 (kUp n)).length = 8 := toBE_length 8 _
    refine ⟨⟨1, n, 0, []⟩, ?_, cmpI_eq n, rfl, ⟨(by simp), (by simp), n1, n2, (by simp)⟩, rfl, by simp⟩
    rw [kTail1]
    have h1 : (toBE 8 (kUp n) ++ t).take 8 = toBE 8 (kUp n) := by rw [List.take_append_of_le_length (by omega), List.take_of_length_le (by omega)]
    have h2 : (toBE 8 (kUp n) ++ t).drop 8 = t := by rw [List.drop_append_of_le_length (by omega), List.drop_of_length_le (by omega)]; rfl
    unfold kRd
    rw [if_pos (by decide), if_pos (by rw [List.length_append]; omega), h1, h2, beN_toBE 8 _ (kUp_lt n2)]
    have : ((kUp n : Nat) : Int) - 9223372036854775808 = n := by unfold kUp; omega
    rw [this]
  · have hl : (toBE 8 (kOf f)).length = 8 := toBE_length 8 _
    have hW : kWord (kOf f) = kBits f := kWord_ord _ (kBits_lt f f1)
    have hO : kOf (wholeW (kBits f)) = kOf f := by rw [kOf_whole]; unfold kOf; rw [kBits_idem]
    refine ⟨⟨2, 0, wholeW (kBits f), []⟩, ?_, ?_, rfl, ⟨(by simp), (by simp), (by simp), (by simp), wholeW_lt _ (kBits_lt f f1)⟩, rfl, by simp⟩
    · rw [kTail2]
      have h1 : (toBE 8 (kOf f) ++ t).take 8 = toBE 8 (kOf f) := by rw [List.take_append_of_le_length (by omega), List.take_of_length_le (by omega)]
      have h2 : (toBE 8 (kOf f) ++ t).drop 8 = t := by rw [List.drop_append_of_le_length (by omega), List.drop_of_length_le (by omega)]; rfl
      unfold kRd
      rw [if_neg (by decide), if_pos (by decide), h1, h2, beN_toBE 8 _ (kOf_lt f f1), hW, if_pos ⟨by rw [List.length_append]; omega, hO⟩]
    · rw [kCmp12, hO]; exact cmpI_eq _
  · refine ⟨⟨3, 0, 0, s⟩, ?_, ?_, rfl, ⟨(by simp), (by simp), (by simp), (by simp), (by simp)⟩, rfl, ?_⟩
    · rw [kTail3]
      unfold kRd
      rw [if_neg (by decide), if_neg (by decide), kUnesc_own]
      rfl
    · rw [kCmp13]; exact (cmpS_zero _ _).2 rfl
    · rw [kTail3]; have := (kEsc_length s).2; simp; omega
/-- Parts' own bytes, read: they are these parts again. -/
theorem ps_own : ∀ (l : List KP) (F : Nat), l.length + 1 ≤ F → (∀ p ∈ l, p.Ok ∧ kMay p = true) → ∃ l', kPs F (kRaw l) = some l' ∧ l'.length = l.length ∧ kCmp l' l = 0 ∧ kRaw l' = kRaw l ∧ (∀ p ∈ l', p.Ok ∧ kMay p = true ∧ p.s.length ≤ (kRaw l).length)
  | [], F, hF, _ => by
    obtain ⟨F', rfl⟩ : ∃ F', F = F' + 1 := ⟨F - 1, by omega⟩
    exact ⟨[], rfl, rfl, rfl, rfl, fun _ h => by cases h⟩
  | p :: l, F, hF, h => by
    obtain ⟨F', rfl⟩ : ∃ F', F = F' + 1 := ⟨F - 1, by simp at hF; omega⟩
    have hp := h p (by simp)
    obtain ⟨l', g1, g2, g3, g4, g5⟩ := ps_own l F' (by simp at hF; omega) (fun q hq => h q (by simp [hq]))
    obtain ⟨p', r1, r2, r3, r4, r5, r6⟩ := rd_own p hp.1 hp.2 (kRaw l)
    have hk := kMay_kind hp.2
    have hb : (UInt8.ofNat p.k.toNat).toNat = p.k.toNat := by rcases hk with e | e | e <;> rw [e] <;> rfl
    have hps : kPart p' = kPart p := part_same p' p r3 r4 hp.1 r2
    refine ⟨p' :: l', ?_, by simp [g2], ?_, ?_, ?_⟩
    · show kPs (F' + 1) (UInt8.ofNat p.k.toNat :: (kTail p ++ kRaw l)) = _
      rw [kPs, hb, if_pos (by rcases hk with e | e | e <;> rw [e] <;> rfl), r1]
      simp only [g1, Option.map_some]
    · show (if kCmp1 p' p = 0 then kCmp l' l else kCmp1 p' p) = 0
      rw [if_pos r2]; exact g3
    · show kPart p' ++ kRaw l' = kPart p ++ kRaw l
      rw [hps, g4]
    · intro q hq
      have hlen : (kRaw (p :: l)).length = 1 + (kTail p).length + (kRaw l).length := by
        show (UInt8.ofNat p.k.toNat :: (kTail p ++ kRaw l)).length = _
        simp; omega
      rcases List.mem_cons.1 hq with rfl | hq
      · exact ⟨r4, r3, by omega⟩
      · exact ⟨(g5 q hq).1, (g5 q hq).2.1, by have := (g5 q hq).2.2; omega⟩
theorem raw_count : ∀ l : List KP, l.length ≤ (kRaw l).length
  | [] => Nat.le_refl _
  | p :: l => by
    have := raw_count l
    show l.length + 1 ≤ (UInt8.ofNat p.k.toNat :: (kTail p ++ kRaw l)).length
    simp; omega
theorem par_own (l : List KP) (ho : ∀ p ∈ l, p.Ok) (he : kErr l = 0) : (kRaw l).length ≤ 48 ∧ ∃ l', kPar (kRaw l) = some l' ∧ kErr l' = 0 ∧ l'.length = l.length ∧ kCmp l' l = 0 ∧ (∀ p ∈ l', p.Ok ∧ p.s.length ≤ 48) := by
  have hm : ∀ p ∈ l, p.Ok ∧ kMay p = true := fun p hp => ⟨ho p hp, List.all_eq_true.1 (kErr_may (.inl he)) p hp⟩
  have h48 : (kRaw l).length ≤ 48 := by
    unfold kErr at he
    rw [if_pos (List.all_eq_true.2 fun p hp => (hm p hp).2)] at he
    split at he
    · omega
    · split at he
      · omega
      · omega
  obtain ⟨l', g1, g2, g3, g4, g5⟩ := ps_own l ((kRaw l).length + 1) (by have := raw_count l; omega) hm
  refine ⟨h48, l', g1, ?_, g2, g3, fun p hp => ⟨(g5 p hp).1, by have := (g5 p hp).2.2; omega⟩⟩
  unfold kErr at he ⊢
  rw [if_pos (List.all_eq_true.2 fun p hp => (hm p hp).2)] at he
  rw [if_pos (List.all_eq_true.2 fun p hp => (g5 p hp).2.1), g2, g4]
  exact he
end Go.Proofs.YtckmlmedhchpaaaDoor
