/- Package records, plain: the keys of rows that may be. Package records, plain: how keys stand. -/
import Derived.Test.YtfglgeoookbppaaGreatDoorPa24
import Derived.Test.YtfglgeoookbppaaGreatDoorPa21

namespace Go.Proofs.YtfglgeoookbppaaGreatDoor
open Go

theorem uRaw_nozero {r : Nat} (h : uMay r) : ∀ a ∈ uRaw r, a ≠ 0 := by
  intro a ha e
  subst e
  have h0 := h.1
  have h1 : r ≤ 1114111 := by have := h.2; omega
  have key : ∀ n : Nat, 0 < n → n < 256 → (0 : UInt8) ≠ u8 n := fun n hn hn2 e => by
    have := congrArg UInt8.toNat e
    rw [toNat_u8 hn2] at this
    simp at this
    omega
  unfold uRaw at ha
  split at ha
  · simp only [List.mem_cons, List.not_mem_nil, or_false] at ha
    exact key _ (by omega) (by omega) ha
  · split at ha
    · simp only [List.mem_cons, List.not_mem_nil, or_false] at ha
      rcases ha with ha | ha <;> exact key _ (by omega) (by omega) ha
    · split at ha
      · simp only [List.mem_cons, List.not_mem_nil, or_false] at ha
        rcases ha with ha | ha | ha <;> exact key _ (by omega) (by omega) ha
      · simp only [List.mem_cons, List.not_mem_nil, or_false] at ha
        rcases ha with ha | ha | ha | ha <;> exact key _ (by omega) (by omega) ha
theorem uGood_nozero : ∀ (n : Nat) (s : List UInt8), s.length ≤ n → uGood s = true → (0 : UInt8) ∉ s
  | 0, s, hn, _ => by
    rw [List.length_eq_zero_iff.1 (Nat.le_zero.1 hn)]
    simp
  | n + 1, s, hn, h => by
    by_cases hs : s = []
    · rw [hs]; simp
    · rw [uGood_step hs] at h
      by_cases h0 : uFirst s = 0
      · rw [if_pos h0] at h; cases h
      · rw [if_neg h0] at h
        have ih := uGood_nozero n (s.drop (uFirst s)) (by rw [List.length_drop]; omega) h
        obtain ⟨r, hr, e⟩ := uFirst_pos h0
        have hz := uRaw_nozero hr
        rw [e] at hz
        intro hm
        rw [← List.take_append_drop (uFirst s) s] at hm
        rcases List.mem_append.1 hm with h1 | h1
        · exact hz 0 h1 rfl
        · exact ih h1
theorem kEsc_plain {s : List UInt8} (h : (0 : UInt8) ∉ s) : kEsc s = s := by
  induction s with
  | nil => rfl
  | cons a s ih =>
    have h1 : ¬ a = 0 := fun e => h (by rw [e]; simp)
    have h2 : (0 : UInt8) ∉ s := fun e => h (List.mem_cons_of_mem _ e)
    simp [kEsc, h1, ih h2]
theorem kInt_ok {n : Int} (h1 : -9223372036854775808 ≤ n) (h2 : n ≤ 9223372036854775807) : (kInt n).Ok ∧ kMay (kInt n) = true ∧ (kInt n).s.length ≤ 23 ∧ (kPart (kInt n)).length = 9 := by
  refine ⟨⟨by show _ ≤ (1 : Int); omega, by show (1 : Int) ≤ _; omega, h1, h2, by show (0 : Nat) < _; omega⟩, by (show (([] : List UInt8).isEmpty && fz 0) = true; decide), by show (0 : Nat) ≤ 23; omega, ?_⟩
  show (toBE 8 _).length + 1 = 9
  rw [toBE_length]
theorem kText_ok {s : List UInt8} (h : rcClient s = true) : (kText s).Ok ∧ kMay (kText s) = true ∧ (kText s).s.length ≤ 23 ∧ (kPart (kText s)).length ≤ 26 := by
  unfold rcClient at h
  simp only [Bool.and_eq_true, decide_eq_true_eq] at h
  refine ⟨⟨by show _ ≤ (3 : Int); omega, by show (3 : Int) ≤ _; omega, by show _ ≤ (0 : Int); omega, by show (0 : Int) ≤ _; omega, by show (0 : Nat) < _; omega⟩, by (show ((0 : Int) == 0 && fz 0) = true; decide), h.2.1, ?_⟩
  show (kEsc s ++ [0, 1]).length + 1 ≤ 26
  rw [kEsc_plain (uGood_nozero _ s (Nat.le_refl _) h.2.2), List.length_append]
  have := h.2.1
  simp
  omega
theorem rcSum_ok (s : List UInt8) : (rcSum s).Ok ∧ kMay (rcSum s) = true ∧ (rcSum s).s.length ≤ 23 ∧ (kPart (rcSum s)).length = 9 :=
  kInt_ok (by omega) (by have := crcSum_lt s; omega)
/-- A list of parts that is a key. -/
structure KeyOk (l : List KP) (n : Nat) : Prop where
  ok : ∀ p ∈ l, p.Ok ∧ kMay p = true
  s : ∀ p ∈ l, p.s.length ≤ 23
  len : (kRaw l).length ≤ n
  ne : l ≠ []
  l : l.length ≤ 3
theorem KeyOk.err {l : List KP} (h : KeyOk l 48) : kErr l = 0 := by
  unfold kErr
  rw [if_pos (List.all_eq_true.2 fun p hp => (h.ok p hp).2), if_neg, if_neg]
  · have := h.len; omega
  · have := h.l
    have : l.length ≠ 0 := fun e => h.ne (List.length_eq_zero_iff.1 e)
    omega
theorem KeyOk.key {l : List KP} (h : KeyOk l 48) : kKey l = kRaw l := if_pos h.err
theorem KeyOk.up {l : List KP} {n m : Nat} (h : KeyOk l n) (hm : n ≤ m) : KeyOk l m := ⟨h.ok, h.s, Nat.le_trans h.len hm, h.ne, h.l⟩
theorem keyOk_text {c : List UInt8} (h : rcClient c = true) : KeyOk [kText c] 26 := by
  obtain ⟨h1, h2, h3, h4⟩ := kText_ok h
  exact ⟨fun p hp => by (rw [List.mem_singleton] at hp; rw [hp]; exact ⟨h1, h2⟩), fun p hp => by (rw [List.mem_singleton] at hp; rw [hp]; exact h3), by rw [kRaw_one]; exact h4, by simp, by simp⟩
theorem keyOk_sum (t : List UInt8) : KeyOk [rcSum t] 26 := by
  obtain ⟨h1, h2, h3, h4⟩ := rcSum_ok t
  exact ⟨fun p hp => by (rw [List.mem_singleton] at hp; rw [hp]; exact ⟨h1, h2⟩), fun p hp => by (rw [List.mem_singleton] at hp; rw [hp]; exact h3), by rw [kRaw_one, h4]; omega, by simp, by simp⟩
theorem KeyOk.more {l : List KP} {n : Nat} {a : Int} (h : KeyOk l n) (hl : l.length ≤ 2) (h1 : -9223372036854775808 ≤ a) (h2 : a ≤ 9223372036854775807) : KeyOk (l ++ [kInt a]) (n + 9) := by
  obtain ⟨g1, g2, g3, g4⟩ := kInt_ok h1 h2
  refine ⟨fun p hp => ?_, fun p hp => ?_, ?_, by simp, by rw [List.length_append]; simp; omega⟩
  · rcases List.mem_append.1 hp with hp | hp
    · exact h.ok p hp
    · rw [List.mem_singleton] at hp; rw [hp]; exact ⟨g1, g2⟩
  · rcases List.mem_append.1 hp with hp | hp
    · exact h.s p hp
    · rw [List.mem_singleton] at hp; rw [hp]; exact g3
  · rw [kRaw_append, kRaw_one, List.length_append, g4]
    have := h.len
    omega
theorem inN_iff {n a b : Int} : inN n a b = true ↔ a ≤ n ∧ n ≤ b := by
  unfold inN
  simp
/-- The parts of a row that may be are a key. -/
theorem rc_parts {x : Rw} (h : rcOk x = true) : KeyOk (rcParts x.k x) 35 ∧ (rcParts x.k x).length ≤ 2 := by
  unfold rcOk at h
  simp only [Bool.and_eq_true] at h
  obtain ⟨h1, h2, _⟩ := h
  unfold rcIs at h1
  rw [inN_iff] at h1
  have e : x.k = 1 ∨ x.k = 2 ∨ x.k = 3 ∨ x.k = 4 ∨ x.k = 5 := by omega
  rcases e with e | e | e | e | e <;> rw [e] at h2 ⊢
  · have hc : rcClient x.c = true := by
      have : (rcClient x.c && _) = true := h2
      rw [Bool.and_eq_true] at this
      exact this.1
    exact ⟨(keyOk_text hc).up (by omega), Nat.le_succ _⟩
  · have hc : rcClient x.c = true := by
      have : (rcClient x.c && _) = true := h2
      rw [Bool.and_eq_true] at this
      exact this.1
    have hs := crcSum_lt x.t
    exact ⟨(keyOk_text hc).more (by simp) (a := (crcSum x.t : Nat)) (by omega) (by omega), Nat.le_refl _⟩
  · have hc : rcClient x.c = true ∧ inN x.seq 0 4611686018427387904 = true := by
      have : (rcClient x.c && (inN x.seq 0 4611686018427387904 && _)) = true := h2
      rw [Bool.and_eq_true, Bool.and_eq_true] at this
      exact ⟨this.1, this.2.1⟩
    have hq := inN_iff.1 hc.2
    exact ⟨(keyOk_text hc.1).more (by simp) (a := x.seq) (by omega) (by omega), Nat.le_refl _⟩
  · have hc : rcClient x.c = true ∧ inN x.id 1 65535 = true := by
      have : (rcClient x.c && inN x.id 1 65535) = true := h2
      rwa [Bool.and_eq_true] at this
    have hq := inN_iff.1 hc.2
    exact ⟨(keyOk_text hc.1).more (by simp) (a := x.id) (by omega) (by omega), Nat.le_refl _⟩
  · exact ⟨(keyOk_sum x.t).up (by omega), Nat.le_succ _⟩
theorem rc_key {x : Rw} {p : Int} (h : rcFits x p = true) : KeyOk (rcKeyL x p) 48 := by
  unfold rcFits at h
  simp only [Bool.and_eq_true] at h
  obtain ⟨h1, h2⟩ := rc_parts h.1
  have hp := inN_iff.1 h.2.1
  unfold rcKeyL
  split
  · exact (h1.more h2 (by omega) (by omega)).up (by omega)
  · exact h1.up (by omega)
end Go.Proofs.YtfglgeoookbppaaGreatDoor

namespace Go.Proofs.YtfglgeoookbppaaGreatDoor
open Go Go.RowKit

theorem oLt_snoc : ∀ (l m : List UInt8) (a b : UInt8), l.length = m.length → Op.bytesLess (l ++ [a]) (m ++ [b]) = (Op.bytesLess l m || (l == m && decide (a < b)))
  | [], [], a, b, _ => by simp [Op.bytesLess]
  | x :: l, y :: m, a, b, h => by
    have ih := oLt_snoc l m a b (by simpa using h)
    simp only [List.cons_append, Op.bytesLess, ih]
    by_cases he : x = y
    · subst he
      have : ¬ x < x := UInt8.lt_irrefl x
      simp [this]
    · have h1 : (x == y) = false := by simpa using he
      have h2 : (x :: l == y :: m) = false := by simp [he]
      simp only [h1, h2, Bool.false_and, Bool.or_false]
theorem oBE_inj {k a b : Nat} (ha : a < 256 ^ k) (hb : b < 256 ^ k) (h : toBE k a = toBE k b) : a = b := by
  rw [← beN_toBE k a ha, ← beN_toBE k b hb, h]
theorem oLt_toBE : ∀ (k a b : Nat), a < 256 ^ k → b < 256 ^ k → Op.bytesLess (toBE k a) (toBE k b) = decide (a < b)
  | 0, a, b, ha, hb => by
    have : a = 0 := by simpa using ha
    have : b = 0 := by simpa using hb
    subst a b
    rfl
  | k + 1, a, b, ha, hb => by
    rw [Nat.pow_succ] at ha hb
    have ih := oLt_toBE k (a / 256) (b / 256) (by omega) (by omega)
    show Op.bytesLess (toBE k (a / 256) ++ [UInt8.ofNat (a % 256)]) (toBE k (b / 256) ++ [UInt8.ofNat (b % 256)]) = _
    rw [oLt_snoc _ _ _ _ (by rw [toBE_length, toBE_length]), ih]
    have hl : decide (UInt8.ofNat (a % 256) < UInt8.ofNat (b % 256)) = decide (a % 256 < b % 256) := by
      congr 1
      rw [UInt8.lt_iff_toNat_lt, UInt8.toNat_ofNat', UInt8.toNat_ofNat']
      simp
    rw [hl]
    have he : (toBE k (a / 256) == toBE k (b / 256)) = decide (a / 256 = b / 256) := by
      rw [Bool.eq_iff_iff]
      simp only [beq_iff_eq, decide_eq_true_eq]
      exact ⟨fun h => oBE_inj (by omega) (by omega) h, fun h => by rw [h]⟩
    rw [he, Bool.eq_iff_iff]
    simp only [Bool.or_eq_true, Bool.and_eq_true, decide_eq_true_eq]
    omega

theorem oLt_pre (p x y : List UInt8) : Op.bytesLess (p ++ x) (p ++ y) = Op.bytesLess x y := by
  induction p with
  | nil => rfl
  | cons c p ih => simp [Op.bytesLess, ih]
theorem kUp_64 {n : Int} (h1 : -9223372036854775808 ≤ n) (h2 : n ≤ 9223372036854775807) : kUp n < 256 ^ 8 := by
  unfold kUp
  omega
/-- Keys that differ by their last number stand as the numbers do. -/
theorem key_last (P : List KP) {m n : Int} (h1 : -9223372036854775808 ≤ m) (h2 : m ≤ 9223372036854775807) (h3 : -9223372036854775808 ≤ n) (h4 : n ≤ 9223372036854775807) :
    (kRaw (P ++ [kInt m]) == kRaw (P ++ [kInt n])) = decide (m = n) ∧ Op.bytesLess (kRaw (P ++ [kInt m])) (kRaw (P ++ [kInt n])) = decide (m < n) := by
  have e : ∀ k : Int, kPart (kInt k) = [1] ++ toBE 8 (kUp k) := fun k => rfl
  have hm := kUp_64 h1 h2
  have hn := kUp_64 h3 h4
  have hu : (kUp m = kUp n) ↔ m = n := by unfold kUp; omega
  have hl : (kUp m < kUp n) ↔ m < n := by unfold kUp; omega
  rw [kRaw_append, kRaw_append, kRaw_one, kRaw_one, e, e]
  constructor
  · rw [Bool.eq_iff_iff, beq_iff_eq, decide_eq_true_eq, ← hu]
    constructor
    · intro h
      have h := List.append_cancel_left (List.append_cancel_left h)
      exact oBE_inj hm hn h
    · intro h
      rw [h]
  · rw [oLt_pre, oLt_pre, oLt_toBE 8 _ _ hm hn]
    rw [Bool.eq_iff_iff, decide_eq_true_eq, decide_eq_true_eq]
    exact hl
end Go.Proofs.YtfglgeoookbppaaGreatDoor
