/- Plain words of layer 18: keys' bytes stand as their parts do; no part's bytes begin with another one's. -/
import Derived.Test.YtckmlmedhchpaaaDoorPa32
import Derived.Test.YtckmlmedhchpaaaDoorPa28

namespace Go.Proofs.YtckmlmedhchpaaaDoor
open Go.RowKit

/-- Two rows of bytes differ at a place that both have; is the first one's byte the lesser? -/
def Dif (x y : List UInt8) (lt : Bool) : Prop := ∃ (p : List UInt8) (a b : UInt8) (x' y' : List UInt8), x = p ++ a :: x' ∧ y = p ++ b :: y' ∧ a ≠ b ∧ lt = decide (a < b)
theorem Dif.app {x y : List UInt8} {lt : Bool} (h : Dif x y lt) (u v : List UInt8) : Dif (x ++ u) (y ++ v) lt := by
  obtain ⟨p, a, b, x', y', rfl, rfl, h1, h2⟩ := h
  exact ⟨p, a, b, x' ++ u, y' ++ v, by simp, by simp, h1, h2⟩
theorem Dif.pre {x y : List UInt8} {lt : Bool} (h : Dif x y lt) (u : List UInt8) : Dif (u ++ x) (u ++ y) lt := by
  obtain ⟨p, a, b, x', y', rfl, rfl, h1, h2⟩ := h
  exact ⟨u ++ p, a, b, x', y', by simp, by simp, h1, h2⟩
theorem Dif.symm {x y : List UInt8} {lt : Bool} (h : Dif x y lt) : Dif y x (!lt) := by
  obtain ⟨p, a, b, x', y', rfl, rfl, h1, h2⟩ := h
  refine ⟨p, b, a, y', x', rfl, rfl, Ne.symm h1, ?_⟩
  subst h2
  rw [← decide_not]
  congr 1
  rw [eq_iff_iff, UInt8.not_lt]
  exact ⟨fun h => UInt8.lt_of_le_of_ne h (Ne.symm h1), fun h => UInt8.le_of_lt h⟩
theorem bLt_pre (p x y : List UInt8) : Op.bytesLess (p ++ x) (p ++ y) = Op.bytesLess x y := by
  induction p with
  | nil => rfl
  | cons c p ih => simp [Op.bytesLess, ih]
theorem Dif.less {x y : List UInt8} {lt : Bool} (h : Dif x y lt) : Op.bytesLess x y = lt := by
  obtain ⟨p, a, b, x', y', rfl, rfl, h1, h2⟩ := h
  rw [bLt_pre, h2]
  simp [Op.bytesLess, h1]
theorem Dif.ne {x y : List UInt8} {lt : Bool} (h : Dif x y lt) : x ≠ y := by
  obtain ⟨p, a, b, x', y', rfl, rfl, h1, _⟩ := h
  intro h
  have := List.append_cancel_left h
  injection this with g
  exact h1 g
theorem Dif.take {x y : List UInt8} {lt : Bool} (h : Dif x y lt) (n : Nat) (hn : n = min x.length y.length) : x.take n ≠ y.take n := by
  obtain ⟨p, a, b, x', y', rfl, rfl, h1, _⟩ := h
  subst hn
  intro h
  have h2 := congrArg (fun l => l[p.length]?) h
  simp only [List.getElem?_take] at h2
  have hl : p.length < min (p ++ a :: x').length (p ++ b :: y').length := by simp
  rw [if_pos hl, if_pos hl] at h2
  simp at h2
  exact h1 h2
theorem dif_of_ne : ∀ (x y : List UInt8), x.length = y.length → x ≠ y → Dif x y (Op.bytesLess x y)
  | [], [], _, h => absurd rfl h
  | a :: x, b :: y, hl, h => by
    by_cases hab : a = b
    · subst hab
      have h1 := dif_of_ne x y (by simpa using hl) (fun h2 => h (by rw [h2]))
      have := h1.pre [a]
      rw [show Op.bytesLess (a :: x) (a :: y) = Op.bytesLess x y from bLt_pre [a] x y]
      exact this
    · exact ⟨[], a, b, x, y, rfl, rfl, hab, by simp [Op.bytesLess, hab]⟩
theorem dif_esc_nil (d : UInt8) (t : List UInt8) : Dif (kEsc [] ++ [0, 1]) (kEsc (d :: t) ++ [0, 1]) true := by
  by_cases hd : d = 0
  · subst hd
    exact ⟨[0], 1, 255, [], kEsc t ++ [0, 1], rfl, by simp [kEsc], by decide, by decide⟩
  · refine ⟨[], 0, d, [1], kEsc t ++ [0, 1], rfl, by simp [kEsc, hd], Ne.symm hd, ?_⟩
    have : (0 : UInt8) < d := by
      rw [UInt8.lt_iff_toNat_lt]
      have : d.toNat ≠ 0 := fun h => hd (UInt8.toNat_inj.1 (by rw [h]; rfl))
      show 0 < d.toNat
      omega
    simp [this]
theorem kEsc_cons (c : UInt8) (s : List UInt8) : ∃ r, kEsc (c :: s) = c :: r := by
  by_cases h : c = 0
  · subst h; exact ⟨_, rfl⟩
  · exact ⟨_, by simp [kEsc, h]; rfl⟩
theorem dif_esc : ∀ (s t : List UInt8), s ≠ t → Dif (kEsc s ++ [0, 1]) (kEsc t ++ [0, 1]) (Op.bytesLess s t)
  | [], [], h => absurd rfl h
  | [], d :: t, _ => by
    have := dif_esc_nil d t
    simpa [Op.bytesLess] using this
  | c :: s, [], _ => by
    have := (dif_esc_nil c s).symm
    simpa [Op.bytesLess] using this
  | c :: s, d :: t, h => by
    by_cases hc : c = d
    · subst hc
      have h1 := (dif_esc s t (fun h2 => h (by rw [h2]))).pre (if c = 0 then [0, 255] else [c])
      rw [show Op.bytesLess (c :: s) (c :: t) = Op.bytesLess s t from bLt_pre [c] s t]
      simpa only [kEsc, List.append_assoc] using h1
    · obtain ⟨r1, e1⟩ := kEsc_cons c s
      obtain ⟨r2, e2⟩ := kEsc_cons d t
      rw [e1, e2]
      exact ⟨[], c, d, r1 ++ [0, 1], r2 ++ [0, 1], rfl, rfl, hc, by simp [Op.bytesLess, hc]⟩
theorem toBE_dif (a b : Nat) (ha : a < 18446744073709551616) (hb : b < 18446744073709551616) (h : a ≠ b) : Dif (toBE 8 a) (toBE 8 b) (decide (a < b)) := by
  have h1 := dif_of_ne (toBE 8 a) (toBE 8 b) (by rw [toBE_length, toBE_length]) (fun h2 => h (toBE_inj (k := 8) ha hb h2))
  rw [bLt_toBE 8 a b ha hb] at h1
  exact h1
theorem cmpI_neg (a b : Int) : decide (cmpI a b < 0) = decide (a < b) := by
  unfold cmpI
  split
  · simp [*]
  · split <;> simp <;> omega
theorem cmpI_zero (a b : Int) : cmpI a b = 0 ↔ a = b := by
  unfold cmpI
  split
  · simp; omega
  · split <;> simp <;> omega
theorem cmpS_neg (a b : List UInt8) : decide (cmpS a b < 0) = Op.bytesLess a b := by
  unfold cmpS
  split
  · simp [*]
  · rename_i h
    split <;> simp [h]
theorem cmpS_zero (a b : List UInt8) : cmpS a b = 0 ↔ a = b := by
  unfold cmpS
  split
  · rename_i h
    refine ⟨fun h => by simp at h, fun h2 => ?_⟩
    subst h2
    rw [bLt_irrefl] at h
    cases h
  · split <;> simp [*]
theorem kUp_lt {n : Int} (h2 : n ≤ 9223372036854775807) : kUp n < 18446744073709551616 := by unfold kUp; omega
theorem kTail1 (n : Int) (f : Nat) (s : List UInt8) : kTail ⟨1, n, f, s⟩ = toBE 8 (kUp n) := rfl
theorem kTail2 (n : Int) (f : Nat) (s : List UInt8) : kTail ⟨2, n, f, s⟩ = toBE 8 (kOf f) := rfl
theorem kTail3 (n : Int) (f : Nat) (s : List UInt8) : kTail ⟨3, n, f, s⟩ = kEsc s ++ [0, 1] := rfl
theorem kCmp11 (n n2 : Int) (f f2 : Nat) (s s2 : List UInt8) : kCmp1 ⟨1, n, f, s⟩ ⟨1, n2, f2, s2⟩ = cmpI n n2 := rfl
theorem kCmp12 (n n2 : Int) (f f2 : Nat) (s s2 : List UInt8) : kCmp1 ⟨2, n, f, s⟩ ⟨2, n2, f2, s2⟩ = cmpI (kOf f : Nat) (kOf f2 : Nat) := rfl
theorem kCmp13 (n n2 : Int) (f f2 : Nat) (s s2 : List UInt8) : kCmp1 ⟨3, n, f, s⟩ ⟨3, n2, f2, s2⟩ = cmpS s s2 := rfl
theorem dif_in {x y : List UInt8} {lt : Bool} (d : UInt8) (h : Dif x y lt) : Dif (d :: x) (d :: y) lt := h.pre [d]
theorem dif_kinds (i j : Int) (hi : i = 1 ∨ i = 2 ∨ i = 3) (hj : j = 1 ∨ j = 2 ∨ j = 3) (hij : i ≠ j) : UInt8.ofNat i.toNat ≠ UInt8.ofNat j.toNat ∧ decide (i < j) = decide (UInt8.ofNat i.toNat < UInt8.ofNat j.toNat) := by
  rcases hi with rfl | rfl | rfl <;> rcases hj with rfl | rfl | rfl <;> first | exact absurd rfl hij | decide
theorem kMay_kind {p : KP} (h : kMay p = true) : p.k = 1 ∨ p.k = 2 ∨ p.k = 3 := by rcases kMay_cases h with ⟨g, _, _⟩ | ⟨g, _, _⟩ | ⟨g, _, _⟩ <;> simp [g]
/-- Two parts that may be and stand apart: so do their bytes. -/
theorem part_dif (p q : KP) (hp : p.Ok) (hq : q.Ok) (mp : kMay p = true) (mq : kMay q = true) (h : kCmp1 p q ≠ 0) : Dif (kPart p) (kPart q) (decide (kCmp1 p q < 0)) := by
  have n1 := hp.n1
  have n2 := hp.n2
  have n3 := hq.n1
  have n4 := hq.n2
  have f1 := hp.f
  have f2 := hq.f
  have kp := kMay_kind mp
  have kq := kMay_kind mq
  clear hp hq mp mq
  obtain ⟨k, n, f, s⟩ := p
  obtain ⟨k2, m, g, t⟩ := q
  dsimp only at n1 n2 n3 n4 f1 f2 kp kq
  by_cases hk : k = k2
  · subst hk
    refine dif_in _ ?_
    rcases kp with rfl | rfl | rfl
    · rw [kCmp11] at h ⊢
      rw [kTail1, kTail1, cmpI_neg]
      have hne : n ≠ m := fun h2 => h ((cmpI_zero _ _).2 h2)
      have := toBE_dif (kUp n) (kUp m) (kUp_lt n2) (kUp_lt n4) (by unfold kUp; omega)
      rw [show decide (kUp n < kUp m) = decide (n < m) by congr 1; unfold kUp; rw [eq_iff_iff]; omega] at this
      exact this
    · rw [kCmp12] at h ⊢
      rw [kTail2, kTail2, cmpI_neg]
      have hne : kOf f ≠ kOf g := fun h2 => h ((cmpI_zero _ _).2 (by rw [h2]))
      have := toBE_dif (kOf f) (kOf g) (kOf_lt _ f1) (kOf_lt _ f2) hne
      rw [show decide (kOf f < kOf g) = decide ((kOf f : Int) < (kOf g : Int)) by congr 1; rw [eq_iff_iff]; omega] at this
      exact this
    · rw [kCmp13] at h ⊢
      rw [kTail3, kTail3, cmpS_neg]
      exact dif_esc s t (fun h2 => h ((cmpS_zero _ _).2 h2))
  · have hc : kCmp1 ⟨k, n, f, s⟩ ⟨k2, m, g, t⟩ = cmpI k k2 := if_neg hk
    rw [hc, cmpI_neg]
    have := dif_kinds _ _ kp kq hk
    exact ⟨[], _, _, _, _, rfl, rfl, this.1, this.2⟩
/-- Two parts that may be and stand alike have the same bytes. -/
theorem part_same (p q : KP) (mp : kMay p = true) (hp : p.Ok) (hq : q.Ok) (h : kCmp1 p q = 0) : kPart p = kPart q := by
  have n1 := hp.n1
  have n2 := hp.n2
  have n3 := hq.n1
  have n4 := hq.n2
  have kp := kMay_kind mp
  clear hp hq mp
  obtain ⟨k, n, f, s⟩ := p
  obtain ⟨k2, m, g, t⟩ := q
  dsimp only at n1 n2 n3 n4 kp
  by_cases hk : k = k2
  · subst hk
    refine congrArg (List.cons _) ?_
    rcases kp with rfl | rfl | rfl
    · rw [kCmp11] at h
      rw [kTail1, kTail1, (cmpI_zero _ _).1 h]
    · rw [kCmp12] at h
      rw [kTail2, kTail2, show kOf f = kOf g by have := (cmpI_zero _ _).1 h; omega]
    · rw [kCmp13] at h
      rw [kTail3, kTail3, (cmpS_zero _ _).1 h]
  · have hc : kCmp1 ⟨k, n, f, s⟩ ⟨k2, m, g, t⟩ = cmpI k k2 := if_neg hk
    rw [hc] at h
    exact absurd ((cmpI_zero _ _).1 h) hk
/-- How the bytes of two rows of parts stand. -/
theorem raw_cmp : ∀ (a b : List KP), (∀ p ∈ a, p.Ok ∧ kMay p = true) → (∀ p ∈ b, p.Ok ∧ kMay p = true) →
    (kCmp a b ≠ 0 ∧ Dif (kRaw a) (kRaw b) (decide (kCmp a b < 0)) ∧ kCmp a (b.take a.length) ≠ 0) ∨
    (∃ r, (∀ p ∈ r, p.Ok ∧ kMay p = true) ∧ kRaw b = kRaw a ++ kRaw r ∧ b.length = a.length + r.length ∧ kCmp a b = cmpI a.length b.length ∧ kCmp a (b.take a.length) = 0) ∨
    (∃ r, (∀ p ∈ r, p.Ok ∧ kMay p = true) ∧ kRaw a = kRaw b ++ kRaw r ∧ a.length = b.length + r.length ∧ 0 < r.length ∧ kCmp a b = cmpI a.length b.length)
  | [], b, _, hb => .inr (.inl ⟨b, hb, rfl, by simp, by cases b <;> rfl, rfl⟩)
  | p :: a, [], ha, _ => .inr (.inr ⟨p :: a, ha, rfl, by simp, by simp, rfl⟩)
  | p :: a, q :: b, ha, hb => by
    have hp := ha p (by simp)
    have hq := hb q (by simp)
    have hcc : ∀ l, kCmp (p :: a) (q :: l) = if kCmp1 p q = 0 then kCmp a l else kCmp1 p q := fun _ => rfl
    have htk : (q :: b).take (p :: a).length = q :: b.take a.length := rfl
    rw [htk, hcc, hcc]
    by_cases h : kCmp1 p q = 0
    · rw [if_pos h, if_pos h]
      have hs := part_same p q hp.2 hp.1 hq.1 h
      have hlen : ∀ x y : Nat, cmpI (x : Nat) (y : Nat) = cmpI ((x + 1 : Nat) : Int) ((y + 1 : Nat) : Int) := by
        intro x y
        unfold cmpI
        split <;> split <;> first | rfl | omega | (split <;> first | rfl | omega)
      rcases raw_cmp a b (fun x hx => ha x (by simp [hx])) (fun x hx => hb x (by simp [hx])) with ⟨h1, h2, h3⟩ | ⟨r, h0, h1, h2, h3, h4⟩ | ⟨r, h0, h1, h2, h3, h4⟩
      · refine .inl ⟨h1, ?_, h3⟩
        show Dif (kPart p ++ kRaw a) (kPart q ++ kRaw b) _
        rw [← hs]
        exact h2.pre _
      · refine .inr (.inl ⟨r, h0, ?_, by simp; omega, by rw [h3]; exact hlen _ _, h4⟩)
        show kPart q ++ kRaw b = kPart p ++ kRaw a ++ kRaw r
        rw [hs, h1, List.append_assoc]
      · refine .inr (.inr ⟨r, h0, ?_, by simp; omega, h3, by rw [h4]; exact hlen _ _⟩)
        show kPart p ++ kRaw a = kPart q ++ kRaw b ++ kRaw r
        rw [hs, h1, List.append_assoc]
    · rw [if_neg h, if_neg h]
      exact .inl ⟨h, (part_dif p q hp.1 hq.1 hp.2 hq.2 h).app _ _, h⟩
/-- What the law of order asks, of bytes alone. -/
theorem raw_order (a b : List KP) (ha : ∀ p ∈ a, p.Ok ∧ kMay p = true) (hb : ∀ p ∈ b, p.Ok ∧ kMay p = true) :
    Op.bytesLess (kRaw a) (kRaw b) = decide (kCmp a b < 0) ∧ Op.bytesLess (kRaw b) (kRaw a) = decide (0 < kCmp a b) ∧ Op.bytesLess (kRaw a) (kRaw a ++ [255]) = true ∧
    (a.length ≤ b.length ∧ kCmp a (b.take a.length) = 0 → Op.bytesLess (kRaw b) (kRaw a ++ [255]) = true) ∧
    (¬ (a.length ≤ b.length ∧ kCmp a (b.take a.length) = 0) → Op.bytesLess (kRaw a ++ [255]) (kRaw b) = decide (kCmp a b < 0)) := by
  have hz : Op.bytesLess (kRaw a) (kRaw a ++ [255]) = true := by
    have := bLt_pre (kRaw a) [] [255]
    rw [List.append_nil] at this
    rw [this]; rfl
  have hpart : ∀ r : List KP, (∀ p ∈ r, p.Ok ∧ kMay p = true) → 0 < r.length → ∃ c u, kRaw r = c :: u ∧ c < 255 := by
    intro r hr h0
    cases r with
    | nil => cases h0
    | cons p r =>
      refine ⟨_, kTail p ++ kRaw r, rfl, ?_⟩
      rcases kMay_kind (hr p (by simp)).2 with h | h | h <;> rw [h] <;> decide
  have hnil : ∀ (x u : List UInt8) (c : UInt8), Op.bytesLess x (x ++ c :: u) = true ∧ Op.bytesLess (x ++ c :: u) x = false := by
    intro x u c
    have h1 := bLt_pre x [] (c :: u)
    have h2 := bLt_pre x (c :: u) []
    rw [List.append_nil] at h1 h2
    rw [h1, h2]
    exact ⟨rfl, rfl⟩
  rcases raw_cmp a b ha hb with ⟨h1, h2, h3⟩ | ⟨r, h0, h1, h2, h3, h4⟩ | ⟨r, h0, h1, h2, h3, h4⟩
  · refine ⟨h2.less, ?_, hz, fun h => absurd h.2 h3, fun _ => ?_⟩
    · rw [h2.symm.less, ← decide_not]
      congr 1
      rw [eq_iff_iff]
      omega
    · have := (h2.app [255] []).less
      rw [List.append_nil] at this
      exact this
  · have hle : a.length ≤ b.length := by omega
    rcases Nat.eq_zero_or_pos r.length with hr | hr
    · obtain rfl := List.eq_nil_of_length_eq_zero hr
      have hab : kRaw b = kRaw a := by rw [h1]; simp [kRaw]
      have hc : kCmp a b = 0 := by rw [h3, h2]; simp [cmpI]
      rw [hab, hc, bLt_irrefl]
      exact ⟨by decide, by decide, hz, fun _ => hz, fun h => absurd ⟨hle, h4⟩ h⟩
    · obtain ⟨c, u, hcu, hlt⟩ := hpart r h0 hr
      have hc : kCmp a b = -1 := by rw [h3]; unfold cmpI; rw [if_pos (by omega)]
      rw [h1, hcu, hc, (hnil _ _ _).1, (hnil _ _ _).2]
      refine ⟨by decide, by decide, hz, fun _ => ?_, fun h => absurd ⟨hle, h4⟩ h⟩
      rw [bLt_pre]
      simp [Op.bytesLess, hlt]
  · obtain ⟨c, u, hcu, hlt⟩ := hpart r h0 h3
    have hc : kCmp a b = 1 := by rw [h4]; unfold cmpI; rw [if_neg (by omega), if_pos (by omega)]
    have hn : ¬ (a.length ≤ b.length ∧ kCmp a (b.take a.length) = 0) := fun h => by omega
    rw [hc]
    refine ⟨?_, ?_, hz, fun h => absurd h hn, fun _ => ?_⟩
    · rw [h1, hcu, (hnil _ _ _).2]; decide
    · rw [h1, hcu, (hnil _ _ _).1]; decide
    · rw [h1, hcu]
      have := (hnil (kRaw b) (u ++ [255]) c).2
      rw [show kRaw b ++ c :: u ++ [255] = kRaw b ++ c :: (u ++ [255]) by simp, this]
      decide
/-- What the law of beginnings asks, of bytes alone. -/
theorem part_prefix (p q : KP) (hp : p.Ok) (hq : q.Ok) (mp : kMay p = true) (mq : kMay q = true) (n : Nat) (hn : n = min (kRaw [p]).length (kRaw [q]).length) :
    ((kRaw [p]).take n == (kRaw [q]).take n) = decide (kCmp [p] [q] = 0) := by
  have hc : kCmp [p] [q] = kCmp1 p q := by
    show (if kCmp1 p q = 0 then kCmp [] [] else kCmp1 p q) = _
    split
    · rename_i h; rw [h]; rfl
    · rfl
  rw [hc]
  rw [kRaw_one, kRaw_one] at *
  by_cases h : kCmp1 p q = 0
  · rw [part_same p q mp hp hq h]
    simp [h]
  · have := (part_dif p q hp hq mp mq h).take n hn
    simp [h, this]
end Go.Proofs.YtckmlmedhchpaaaDoor
