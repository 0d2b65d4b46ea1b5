/- Plain words of layer 18: what reads as parts has these parts' bytes. Plain words of layer 18: parts in the reference's way of reading . -/
import Derived.Test.YtckmlmedhchpaaaDoorPa37

namespace Go.Proofs.YtckmlmedhchpaaaDoor
open Go.RowKit

theorem kUnesc_sound : ∀ (n : Nat) (l s t : List UInt8), l.length ≤ n → kUnesc l = some (s, t) → l = kEsc s ++ [0, 1] ++ t
  | 0, l, s, t, hn, h => by
    have : l = [] := List.eq_nil_of_length_eq_zero (by omega)
    subst this
    cases h
  | n + 1, [], s, t, _, h => by cases h
  | n + 1, [b], s, t, _, h => by cases h
  | n + 1, b :: c :: r, s, t, hn, h => by
    by_cases hb : b = 0
    · subst hb
      by_cases h1 : c = 1
      · subst h1
        rw [kUnesc_end] at h
        injection h with h
        injection h with h2 h3
        subst h2 h3
        rfl
      · by_cases h255 : c = 255
        · subst h255
          rw [kUnesc_nought] at h
          obtain ⟨⟨s', t'⟩, g1, g2⟩ := Option.map_eq_some_iff.1 h
          injection g2 with g3 g4
          subst g3 g4
          have := kUnesc_sound n r s' t' (by simp at hn; omega) g1
          rw [this]
          simp [kEsc]
        · rw [kUnesc_bad r h1 h255] at h
          cases h
    · rw [kUnesc_byte _ hb] at h
      obtain ⟨⟨s', t'⟩, g1, g2⟩ := Option.map_eq_some_iff.1 h
      injection g2 with g3 g4
      subst g3 g4
      have := kUnesc_sound n (c :: r) s' t' (by simp at hn ⊢; omega) g1
      rw [this]
      simp [kEsc, hb]
theorem kUp_down (N : Nat) (h : N < 18446744073709551616) : kUp ((N : Int) - 9223372036854775808) = N := by unfold kUp; omega
/-- A part that was read: its bytes are those that were read. -/
theorem rd_sound (k : Nat) (hk : k = 1 ∨ k = 2 ∨ k = 3) (l t : List UInt8) (p : KP) (h : kRd k l = some (p, t)) : UInt8.ofNat k :: l = kPart p ++ t ∧ p.Ok ∧ kMay p = true := by
  unfold kRd at h
  rcases hk with rfl | rfl | rfl
  · rw [if_pos rfl] at h
    split at h
    · rename_i h8
      injection h with h
      injection h with h1 h2
      subst h1 h2
      have hb := beN8_lt l
      refine ⟨?_, ⟨(by simp), (by simp), (by dsimp only; omega), (by dsimp only; omega), (by simp)⟩, rfl⟩
      show UInt8.ofNat 1 :: l = UInt8.ofNat 1 :: (toBE 8 (kUp ((beN (l.take 8) : Int) - 9223372036854775808)) ++ l.drop 8)
      rw [kUp_down _ hb, toBE_beN (l.take 8) 8 (by rw [List.length_take]; omega), List.take_append_drop]
    · cases h
  · rw [if_neg (by decide), if_pos rfl] at h
    split at h
    · rename_i h8
      injection h with h
      injection h with h1 h2
      subst h1 h2
      refine ⟨?_, ⟨(by simp), (by simp), (by simp), (by simp), ?_⟩, rfl⟩
      · show UInt8.ofNat 2 :: l = UInt8.ofNat 2 :: (toBE 8 (kOf (wholeW (kWord (beN (l.take 8))))) ++ l.drop 8)
        rw [h8.2, toBE_beN (l.take 8) 8 (by rw [List.length_take]; omega), List.take_append_drop]
      · apply wholeW_lt
        have hb := beN8_lt l
        unfold kWord fS
        split <;> omega
    · cases h
  · rw [if_neg (by decide), if_neg (by decide)] at h
    obtain ⟨⟨s, t'⟩, g1, g2⟩ := Option.map_eq_some_iff.1 h
    injection g2 with g3 g4
    subst g3 g4
    refine ⟨?_, ⟨(by simp), (by simp), (by simp), (by simp), (by simp)⟩, rfl⟩
    have := kUnesc_sound l.length l s t' (Nat.le_refl _) g1
    show UInt8.ofNat 3 :: l = UInt8.ofNat 3 :: (kEsc s ++ [0, 1] ++ t')
    rw [← this]
/-- What reads as parts has their bytes. -/
theorem ps_sound : ∀ (F : Nat) (s : List UInt8) (l : List KP), kPs F s = some l → kRaw l = s ∧ ∀ p ∈ l, p.Ok ∧ kMay p = true
  | 0, s, l, h => by cases h
  | F + 1, [], l, h => by
    injection h with h
    subst h
    exact ⟨rfl, fun _ h => by cases h⟩
  | F + 1, b :: s, l, h => by
    rw [kPs] at h
    split at h
    · rename_i hb
      have hk : b.toNat = 1 ∨ b.toNat = 2 ∨ b.toNat = 3 := by
        unfold kIs at hb
        simp only [Bool.or_eq_true, beq_iff_eq] at hb
        omega
      have hb2 : UInt8.ofNat b.toNat = b := by simp
      cases hr : kRd b.toNat s with
      | none => rw [hr] at h; cases h
      | some x =>
        obtain ⟨p, t⟩ := x
        rw [hr] at h
        obtain ⟨l', g1, g2⟩ := Option.map_eq_some_iff.1 h
        subst g2
        have i := ps_sound F t l' g1
        have r := rd_sound b.toNat hk s t p hr
        rw [hb2] at r
        refine ⟨?_, fun q hq => ?_⟩
        · show kPart p ++ kRaw l' = _
          rw [i.1, r.1]
        · rcases List.mem_cons.1 hq with rfl | hq
          · exact r.2
          · exact i.2 q hq
    · cases h
end Go.Proofs.YtckmlmedhchpaaaDoor

namespace Go.Proofs.YtckmlmedhchpaaaDoor
open Go.RowKit

/-- A text's bytes and what is behind, in the reference's way: a nought before anything but one is a nought. -/
def rUnesc : List UInt8 → Option (List UInt8 × List UInt8)
  | [] => none
  | [_] => none
  | b :: c :: r => if b = 0 then (if c = 1 then some ([], r) else (rUnesc r).map fun (s, t) => (0 :: s, t)) else (rUnesc (c :: r)).map fun (s, t) => (b :: s, t)
theorem rUnesc_byte {b : UInt8} (l : List UInt8) (h : b ≠ 0) : rUnesc (b :: l) = (rUnesc l).map fun (s, t) => (b :: s, t) := by
  rcases l with _ | ⟨c, r⟩
  · rfl
  · rw [rUnesc, if_neg h]
theorem rUnesc_own (s t : List UInt8) : rUnesc (kEsc s ++ [0, 1] ++ t) = some (s, t) := by
  induction s with
  | nil => show rUnesc (0 :: 1 :: t) = _; rw [rUnesc, if_pos rfl, if_pos rfl]
  | cons b s ih =>
    by_cases hb : b = 0
    · subst hb
      rw [show kEsc (0 :: s) ++ [0, 1] ++ t = 0 :: 255 :: (kEsc s ++ [0, 1] ++ t) by simp [kEsc], rUnesc, if_pos rfl, if_neg (by decide), ih]
      rfl
    · rw [show kEsc (b :: s) ++ [0, 1] ++ t = b :: (kEsc s ++ [0, 1] ++ t) by simp [kEsc, hb], rUnesc_byte _ hb, ih]
      rfl
/-- A part out of bytes, in the reference's way (its kind is the first byte, whatever it is). -/
def rRd (b : UInt8) (l : List UInt8) : Option (KP × List UInt8) :=
  if b = 1 then (if 8 ≤ l.length then some (⟨1, (beN (l.take 8) : Int) - 9223372036854775808, 0, []⟩, l.drop 8) else none)
  else if b = 2 then (if 8 ≤ l.length then some (⟨2, 0, kWord (beN (l.take 8)), []⟩, l.drop 8) else none)
  else (rUnesc l).map fun (s, t) => (⟨b.toNat, 0, 0, s⟩, t)
/-- Alike but for the word of no number. -/
structure Like (p q : KP) : Prop where
  k : p.k = q.k
  n : p.n = q.n
  s : p.s = q.s
  f : kOf p.f = kOf q.f
  z : p.k = 2 ∨ fz p.f = fz q.f
theorem Like.part {p q : KP} (h : Like p q) : kPart p = kPart q := by
  unfold kPart kTail
  rw [h.k, h.n, h.s, h.f]
theorem Like.may {p q : KP} (h : Like p q) : kMay p = kMay q := by
  unfold kMay
  rw [← h.k, h.n, h.s]
  rcases h.z with hz | hz
  · rw [hz]; rfl
  · rw [hz]
def likes : List KP → List KP → Prop
  | [], [] => True
  | p :: a, q :: b => Like p q ∧ likes a b
  | _, _ => False
theorem likes_snoc : ∀ {a b : List KP} {p q : KP}, likes a b → Like p q → likes (a ++ [p]) (b ++ [q])
  | [], [], _, _, _, h => ⟨h, trivial⟩
  | _ :: _, _ :: _, _, _, g, h => ⟨g.1, likes_snoc g.2 h⟩
  | [], _ :: _, _, _, g, _ => g.elim
  | _ :: _, [], _, _, g, _ => g.elim
theorem likes_raw : ∀ {a b : List KP}, likes a b → kRaw a = kRaw b ∧ a.length = b.length ∧ a.all kMay = b.all kMay
  | [], [], _ => ⟨rfl, rfl, rfl⟩
  | p :: a, q :: b, g => by
    obtain ⟨h1, h2, h3⟩ := likes_raw g.2
    refine ⟨?_, by simp [h2], ?_⟩
    · show kPart p ++ kRaw a = kPart q ++ kRaw b
      rw [g.1.part, h1]
    · rw [List.all_cons, List.all_cons, g.1.may, h3]
  | [], _ :: _, g => g.elim
  | _ :: _, [], g => g.elim
theorem likes_err {a b : List KP} (h : likes a b) : kErr a = kErr b := by
  obtain ⟨h1, h2, h3⟩ := likes_raw h
  unfold kErr
  rw [h1, h2, h3]
theorem rUnesc_len : ∀ {l s t : List UInt8}, rUnesc l = some (s, t) → s.length + t.length + 2 ≤ l.length
  | [], s, t, h => by cases h
  | [_], s, t, h => by cases h
  | b :: c :: r, s, t, h => by
    rw [rUnesc] at h
    split at h
    · split at h
      · injection h with h
        injection h with h1 h2
        subst h1 h2
        simp
      · cases hu : rUnesc r with
        | none => rw [hu] at h; cases h
        | some x =>
          obtain ⟨s', t'⟩ := x
          have := rUnesc_len hu
          rw [hu] at h
          simp only [Option.map_some, Option.some.injEq, Prod.mk.injEq] at h
          obtain ⟨rfl, rfl⟩ := h
          simp only [List.length_cons]
          omega
    · cases hu : rUnesc (c :: r) with
      | none => rw [hu] at h; cases h
      | some x =>
        obtain ⟨s', t'⟩ := x
        have := rUnesc_len hu
        rw [hu] at h
        simp only [Option.map_some, Option.some.injEq, Prod.mk.injEq] at h
        obtain ⟨rfl, rfl⟩ := h
        simp only [List.length_cons] at this ⊢
        omega
theorem rRd_len {b : UInt8} {l t : List UInt8} {p : KP} (h : rRd b l = some (p, t)) : t.length ≤ l.length ∧ p.s.length ≤ l.length := by
  unfold rRd at h
  split at h
  · split at h
    · injection h with h
      injection h with h1 h2
      subst h1 h2
      exact ⟨by simp, by simp⟩
    · cases h
  · split at h
    · split at h
      · injection h with h
        injection h with h1 h2
        subst h1 h2
        exact ⟨by simp, by simp⟩
      · cases h
    · cases hu : rUnesc l with
      | none => rw [hu] at h; cases h
      | some x =>
        obtain ⟨s', t'⟩ := x
        have := rUnesc_len hu
        rw [hu] at h
        simp only [Option.map_some, Option.some.injEq, Prod.mk.injEq] at h
        obtain ⟨rfl, rfl⟩ := h
        exact ⟨by omega, by dsimp only; omega⟩
def rPs : Nat → List UInt8 → Option (List KP)
  | 0, _ => none
  | _ + 1, [] => some []
  | f + 1, b :: l => match rRd b l with | none => none | some (p, t) => (rPs f t).map (p :: ·)
def rPar (s : List UInt8) : Option (List KP) := rPs (s.length + 1) s
theorem rPs_more : ∀ (f g : Nat) (l : List UInt8), l.length < f → l.length < g → rPs f l = rPs g l
  | 0, _, _, h, _ => by omega
  | _, 0, _, _, h => by omega
  | f + 1, g + 1, [], _, _ => rfl
  | f + 1, g + 1, b :: l, h1, h2 => by
    unfold rPs
    cases hr : rRd b l with
    | none => rfl
    | some x =>
      obtain ⟨p, t⟩ := x
      have := (rRd_len hr).1
      simp only [List.length_cons] at h1 h2
      show (rPs f t).map _ = (rPs g t).map _
      rw [rPs_more f g t (by omega) (by omega)]
theorem rPar_step {b : UInt8} {l t : List UInt8} {p : KP} (h : rRd b l = some (p, t)) : rPar (b :: l) = (rPar t).map (p :: ·) := by
  have := (rRd_len h).1
  unfold rPar
  rw [rPs, h]
  show (rPs _ t).map _ = _
  rw [rPs_more _ (t.length + 1) t (by simp only [List.length_cons]; omega) (by omega)]
theorem rPar_none {b : UInt8} {l : List UInt8} (h : rRd b l = none) : rPar (b :: l) = none := by
  unfold rPar
  rw [rPs, h]
theorem rPar_nil : rPar [] = some [] := rfl
/-- One part's own bytes, read in the reference's way. -/
theorem rrd_own (p : KP) (hp : p.Ok) (hm : kMay p = true) (t : List UInt8) : ∃ p', rRd (UInt8.ofNat p.k.toNat) (kTail p ++ t) = some (p', t) ∧ Like p' p := by
  have n1 := hp.n1
  have n2 := hp.n2
  have f1 := hp.f
  rcases kMay_cases hm with ⟨hk, hs, hf⟩ | ⟨hk, hs, hf⟩ | ⟨hk, hn, hf⟩
  all_goals
    obtain ⟨k, n, f, s⟩ := p
    dsimp only at n1 n2 f1 hk hf
  · dsimp only at hs
    subst hk hs
    have hl : (toBE 8 (kUp n)).length = 8 := toBE_length 8 _
    have h1 : (toBE 8 (kUp n) ++ t).take 8 = toBE 8 (kUp n) := by rw [List.take_append_of_le_length (by omega), List.take_of_length_le (by omega)]
    have h2 : (toBE 8 (kUp n) ++ t).drop 8 = t := by rw [List.drop_append_of_le_length (by omega), List.drop_of_length_le (by omega)]; rfl
    refine ⟨⟨1, n, 0, []⟩, ?_, rfl, rfl, rfl, ?_, .inr ?_⟩
    · rw [kTail1]
      show rRd 1 _ = _
      unfold rRd
      rw [if_pos rfl, if_pos (by rw [List.length_append]; omega), h1, h2, beN_toBE 8 _ (kUp_lt n2)]
      have : ((kUp n : Nat) : Int) - 9223372036854775808 = n := by unfold kUp; omega
      rw [this]
    · unfold fz at hf
      show kOf 0 = kOf f
      unfold kOf kBits
      have : f % fS = 0 := by simpa using hf
      rw [this]
      rfl
    · rw [hf]; rfl
  · dsimp only at hs
    subst hk hs hf
    have hl : (toBE 8 (kOf f)).length = 8 := toBE_length 8 _
    have h1 : (toBE 8 (kOf f) ++ t).take 8 = toBE 8 (kOf f) := by rw [List.take_append_of_le_length (by omega), List.take_of_length_le (by omega)]
    have h2 : (toBE 8 (kOf f) ++ t).drop 8 = t := by rw [List.drop_append_of_le_length (by omega), List.drop_of_length_le (by omega)]; rfl
    have hW : kWord (kOf f) = kBits f := kWord_ord _ (kBits_lt f f1)
    refine ⟨⟨2, 0, kBits f, []⟩, ?_, rfl, rfl, rfl, ?_, .inl rfl⟩
    · rw [kTail2]
      show rRd 2 _ = _
      unfold rRd
      rw [if_neg (by decide), if_pos rfl, if_pos (by rw [List.length_append]; omega), h1, h2, beN_toBE 8 _ (kOf_lt f f1), hW]
    · show kOf (kBits f) = kOf f
      unfold kOf; rw [kBits_idem]
  · dsimp only at hn
    subst hk hn
    refine ⟨⟨3, 0, 0, s⟩, ?_, rfl, rfl, rfl, ?_, .inr ?_⟩
    · rw [kTail3]
      show rRd 3 _ = _
      unfold rRd
      rw [if_neg (by decide), if_neg (by decide), rUnesc_own]
      rfl
    · unfold fz at hf
      show kOf 0 = kOf f
      unfold kOf kBits
      have : f % fS = 0 := by simpa using hf
      rw [this]
      rfl
    · rw [hf]; rfl
theorem rps_own : ∀ (l : List KP) (F : Nat), l.length + 1 ≤ F → (∀ p ∈ l, p.Ok ∧ kMay p = true) → ∃ l', rPs F (kRaw l) = some l' ∧ likes l' l
  | [], F, hF, _ => by
    obtain ⟨F', rfl⟩ : ∃ F', F = F' + 1 := ⟨F - 1, by omega⟩
    exact ⟨[], rfl, trivial⟩
  | p :: l, F, hF, h => by
    obtain ⟨F', rfl⟩ : ∃ F', F = F' + 1 := ⟨F - 1, by simp at hF; omega⟩
    have hp := h p (by simp)
    obtain ⟨l', g1, g2⟩ := rps_own l F' (by simp at hF; omega) (fun q hq => h q (by simp [hq]))
    obtain ⟨p', r1, r2⟩ := rrd_own p hp.1 hp.2 (kRaw l)
    refine ⟨p' :: l', ?_, r2, g2⟩
    show rPs (F' + 1) (UInt8.ofNat p.k.toNat :: (kTail p ++ kRaw l)) = _
    rw [rPs, r1]
    simp only [g1, Option.map_some]
/-- Parts' own bytes, read in the reference's way: parts like these. -/
theorem rpar_own (l : List KP) (ho : ∀ p ∈ l, p.Ok) (he : kErr l = 0) : ∃ l', rPar (kRaw l) = some l' ∧ likes l' l :=
  rps_own l _ (by have := raw_count l; omega) fun p hp => ⟨ho p hp, List.all_eq_true.1 (kErr_may (.inl he)) p hp⟩
/-- What is read for a part of the bytes. -/
def RdAs (b : UInt8) (l t : List UInt8) (p : KP) : Prop := ∃ p0, rRd b l = some (p0, t) ∧ Like p p0 ∧ p.Ok
/-- Equal bytes: as many parts, and they stand alike. -/
theorem raw_inj (a b : List KP) (ha : ∀ p ∈ a, p.Ok ∧ kMay p = true) (hb : ∀ p ∈ b, p.Ok ∧ kMay p = true) (h : kRaw a = kRaw b) : a.length = b.length ∧ kCmp a b = 0 := by
  have key : ∀ r : List KP, 0 < r.length → kRaw r ≠ [] := by
    intro r hr
    cases r with
    | nil => cases hr
    | cons p r => intro h; have := raw_count (p :: r); rw [h] at this; simp at this
  rcases raw_cmp a b ha hb with ⟨_, h2, _⟩ | ⟨r, _, h1, h2, h3, _⟩ | ⟨r, _, h1, h2, h3, _⟩
  · exact absurd h h2.ne
  · have h0 : kRaw r = [] := by
      rw [h] at h1
      have := congrArg List.length h1
      rw [List.length_append] at this
      exact List.eq_nil_of_length_eq_zero (by omega)
    have hr : r.length = 0 := by
      rcases Nat.eq_zero_or_pos r.length with h4 | h4
      · exact h4
      · exact absurd h0 (key r h4)
    have hl : a.length = b.length := by omega
    exact ⟨hl, by rw [h3, hl]; exact cmpI_eq _⟩
  · exfalso
    have h0 : kRaw r = [] := by
      rw [h] at h1
      have := congrArg List.length h1
      rw [List.length_append] at this
      exact List.eq_nil_of_length_eq_zero (by omega)
    exact key r h3 h0
end Go.Proofs.YtckmlmedhchpaaaDoor
