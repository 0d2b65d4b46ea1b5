/- Texts as values. Package topic, plain: levels put together; within is told by what is met. Reference 13: signs. Reference 12: May. Reference 12: six. Reference 12: Raw. Reference 12: First. Reference 12: Runes. Reference 13: said, Name. Reference 13: Levels. Reference 13: Filter. Reference 19: client, number, Placed; few of law 19. Reference 19: Right. -/
import Derived.Test.YtfglgeoookbppaaGreatDoorPa38
import Derived.Test.YtfglgeoookbppaaGreatDoorPa23
import Derived.Deep.DeepCutAuto
import Derived.Test.YtfglgeoookbppaaGreatDoorPa37
import Derived.Test.YtfglgeoookbppaaGreatDoorPa48

namespace Go.Proofs.YtfglgeoookbppaaGreatDoor
open Go.RowKit Go.Shelf

/-- Texts as values. -/
abbrev txL (l : List (List UInt8)) : List Value := l.map fun x => .string ⟨x.toArray⟩
def lenOf (v : Value) : Nat := match v with
  | .slice _ n _ => n
  | _ => 0
theorem txC_list (l : List (List UInt8)) : (txC l).toList = txL l := by
  show (l.flatMap _) = _
  induction l with
  | nil => rfl
  | cons a l ih => rw [List.flatMap_cons, ih]; rfl
theorem txL_lies {w : World} {b : Nat} {l : List (List UInt8)} (h : Row w b 9 (txC l)) : Lies w w.heap.size (some ⟨b, 0, none⟩) (txL l) :=
  lies_of_row h (txC_list l)
theorem txt_app (a b : List UInt8) : (⟨a.toArray⟩ : ByteArray) ++ ⟨b.toArray⟩ = ⟨(a ++ b).toArray⟩ := by
  apply ByteArray.ext
  simp
end Go.Proofs.YtfglgeoookbppaaGreatDoor

namespace Go.Proofs.YtfglgeoookbppaaGreatDoor
open Go

/-- Levels put together. -/
def tJoin : List (List UInt8) → List UInt8
  | [] => []
  | [x] => x
  | x :: y :: l => x ++ 47 :: tJoin (y :: l)
theorem tLev_app (s t : List UInt8) : tLev (s ++ 47 :: t) = tLev s ++ tLev t := by
  induction s with
  | nil =>
    show tLev (47 :: t) = [] :: tLev t
    rw [tLev, if_pos rfl]
  | cons a s ih =>
    by_cases h : a = 47
    · subst h
      rw [List.cons_append, tLev, if_pos rfl, ih, tLev, if_pos rfl]
      rfl
    · obtain ⟨l, ls, e1, e2⟩ := tLev_other (s := s) h
      obtain ⟨l', ls', e3, e4⟩ := tLev_other (s := s ++ 47 :: t) h
      rw [ih, e1, List.cons_append] at e3
      injection e3 with e5 e6
      rw [List.cons_append, e4, e2, ← e5, ← e6]
      rfl
theorem tLev_plain {s : List UInt8} (h : (47 : UInt8) ∉ s) : tLev s = [s] := by
  induction s with
  | nil => rfl
  | cons a s ih =>
    obtain ⟨h1, h2⟩ : (47 : UInt8) ≠ a ∧ (47 : UInt8) ∉ s := by simpa using h
    obtain ⟨l, ls, e1, e2⟩ := tLev_other (s := s) (Ne.symm h1)
    rw [ih h2] at e1
    injection e1 with e3 e4
    rw [e2, ← e3, ← e4]
theorem tLev_join {l : List (List UInt8)} (h : l ≠ []) (h2 : ∀ x ∈ l, (47 : UInt8) ∉ x) : tLev (tJoin l) = l := by
  induction l with
  | nil => exact absurd rfl h
  | cons x l ih =>
    cases l with
    | nil => exact tLev_plain (h2 x (by simp))
    | cons y l =>
      rw [tJoin, tLev_app, ih (by simp) (fun z hz => h2 z (List.mem_cons_of_mem _ hz)), tLev_plain (h2 x (by simp))]
      rfl
theorem tJoin_lev (s : List UInt8) : tJoin (tLev s) = s := by
  induction s with
  | nil => rfl
  | cons a s ih =>
    by_cases h : a = 47
    · subst h
      rw [tLev, if_pos rfl]
      cases hs : tLev s with
      | nil => exact absurd hs (tLev_ne s)
      | cons x l =>
        rw [hs] at ih
        rw [tJoin, ih]
        rfl
    · obtain ⟨l, ls, e1, e2⟩ := tLev_other (s := s) h
      rw [e1] at ih
      rw [e2]
      cases ls with
      | nil =>
        rw [tJoin] at ih ⊢
        rw [ih]
      | cons y ls =>
        rw [tJoin] at ih ⊢
        rw [List.cons_append, ih]
theorem tLev_47 {s x : List UInt8} (h : x ∈ tLev s) : (47 : UInt8) ∉ x := by
  induction s generalizing x with
  | nil => simp [tLev] at h; subst h; simp
  | cons a s ih =>
    by_cases e : a = 47
    · rw [tLev, if_pos e] at h
      rcases List.mem_cons.1 h with rfl | h
      · simp
      · exact ih h
    · obtain ⟨l, ls, e1, e2⟩ := tLev_other (s := s) e
      rw [e2] at h
      rcases List.mem_cons.1 h with rfl | h
      · have := ih (x := l) (by rw [e1]; simp)
        simpa using And.intro (fun h : (47 : UInt8) = a => e h.symm) this
      · exact ih (by rw [e1]; exact List.mem_cons_of_mem _ h)
theorem tJoin_good {l : List (List UInt8)} (h : uGood (tJoin l) = true) : ∀ x ∈ l, uGood x = true := by
  induction l with
  | nil => intro x hx; cases hx
  | cons x l ih =>
    cases l with
    | nil => intro y hy; simp at hy; subst hy; exact h
    | cons y l =>
      rw [tJoin] at h
      obtain ⟨h1, h2⟩ := uGood_cut (by decide) (by decide) h
      intro z hz
      rcases List.mem_cons.1 hz with rfl | hz
      · exact h1
      · exact ih h2 z hz
theorem good_tJoin {l : List (List UInt8)} (h : ∀ x ∈ l, uGood x = true) : uGood (tJoin l) = true := by
  induction l with
  | nil => rfl
  | cons x l ih =>
    cases l with
    | nil => exact h x (by simp)
    | cons y l =>
      rw [tJoin, uGood_append (h x (by simp)), uGood_ascii (by decide) (by decide)]
      exact ih fun z hz => h z (List.mem_cons_of_mem _ hz)
theorem tSign_join {l : List (List UInt8)} : tSign (tJoin l) = l.any tSign := by
  induction l with
  | nil => rfl
  | cons x l ih =>
    cases l with
    | nil => simp [tJoin]
    | cons y l =>
      rw [tJoin, List.any_cons, ← ih]
      unfold tSign
      rw [List.any_append, List.any_cons]
      rfl
theorem tJoin_snoc {l : List (List UInt8)} (h : l ≠ []) (x : List UInt8) : tJoin (l ++ [x]) = tJoin l ++ 47 :: x := by
  induction l with
  | nil => exact absurd rfl h
  | cons y l ih =>
    cases l with
    | nil => rfl
    | cons z l =>
      rw [List.cons_append, List.cons_append, tJoin, tJoin, ← List.cons_append, ih (by simp), List.append_assoc]
      rfl
theorem tJoin_nil {l : List (List UInt8)} (h : tJoin l = []) : l = [] ∨ l = [[]] := by
  cases l with
  | nil => exact .inl rfl
  | cons x l =>
    cases l with
    | nil => rw [tJoin] at h; subst h; exact .inr rfl
    | cons y l => rw [tJoin] at h; simp at h
theorem tJoin_lens {l m : List (List UInt8)} (h : l.map List.length = m.map List.length) : (tJoin l).length = (tJoin m).length := by
  induction l generalizing m with
  | nil =>
    cases m with
    | nil => rfl
    | cons y m => simp at h
  | cons x l ih =>
    cases m with
    | nil => simp at h
    | cons y m =>
      simp only [List.map_cons, List.cons.injEq] at h
      cases l with
      | nil =>
        cases m with
        | nil => exact h.1
        | cons z m => simp at h
      | cons z l =>
        cases m with
        | nil => simp at h
        | cons v m =>
          rw [tJoin, tJoin, List.length_append, List.length_append, List.length_cons, List.length_cons, ih h.2, h.1]
/-- A name out of levels. -/
theorem name_join {m : List (List UInt8)} (h0 : m ≠ []) (h : ∀ x ∈ m, (47 : UInt8) ∉ x ∧ uGood x = true ∧ tSign x = false) (h1 : 1 ≤ (tJoin m).length) (h2 : (tJoin m).length ≤ 200) : tName (tJoin m) = true ∧ tLev (tJoin m) = m := by
  refine ⟨?_, tLev_join h0 fun x hx => (h x hx).1⟩
  unfold tName tSaid
  rw [decide_eq_true h1, decide_eq_true h2, good_tJoin fun x hx => (h x hx).2.1, tSign_join, List.any_eq_false.2 fun x hx => by rw [(h x hx).2.2]; simp]
  rfl
theorem tName_levels {s : List UInt8} (h : tName s = true) : s ≠ [] ∧ s.length ≤ 200 ∧ ∀ x ∈ tLev s, (47 : UInt8) ∉ x ∧ uGood x = true ∧ tSign x = false := by
  unfold tName tSaid at h
  simp only [Bool.and_eq_true, decide_eq_true_eq, Bool.not_eq_true'] at h
  obtain ⟨⟨⟨h1, h2⟩, h3⟩, h4⟩ := h
  refine ⟨fun e => by (rw [e] at h1; simp at h1), h2, fun x hx => ⟨tLev_47 hx, tJoin_good (by rw [tJoin_lev]; exact h3) x hx, ?_⟩⟩
  rw [← tJoin_lev s, tSign_join, List.any_eq_false] at h4
  simpa using h4 x hx
theorem tFilter_levels {s : List UInt8} (h : tFilter s = true) : s ≠ [] ∧ s.length ≤ 200 ∧ ∀ x ∈ tLev s, (47 : UInt8) ∉ x ∧ uGood x = true := by
  unfold tFilter tSaid at h
  simp only [Bool.and_eq_true, decide_eq_true_eq] at h
  obtain ⟨⟨⟨h1, h2⟩, h3⟩, _⟩ := h
  exact ⟨fun e => by (rw [e] at h1; simp at h1), h2, fun x hx => ⟨tLev_47 hx, tJoin_good (by rw [tJoin_lev]; exact h3) x hx⟩⟩
theorem tSign_35 : tSign [35] = true := by decide
theorem tSign_43 : tSign [43] = true := by decide
theorem tOks_cons {x y : List UInt8} {l : List (List UInt8)} : tOks (x :: y :: l) = (tOk x false && tOks (y :: l)) := rfl
theorem tOks_split {L : List (List UInt8)} (h : tOks L = true) : ∃ ay : List (List UInt8), (∀ x ∈ ay, x = [43] ∨ tSign x = false) ∧ (L = ay ∨ L = ay ++ [[35]]) := by
  induction L with
  | nil => exact ⟨[], by simp, .inl rfl⟩
  | cons x L ih =>
    cases L with
    | nil =>
      have hx : tOk x true = true := h
      unfold tOk at hx
      simp only [Bool.or_eq_true, Bool.and_true, beq_iff_eq, Bool.not_eq_true'] at hx
      rcases hx with (hx | hx) | hx
      · exact ⟨[x], by simp [hx], .inl rfl⟩
      · exact ⟨[], by simp, .inr (by rw [hx]; rfl)⟩
      · exact ⟨[x], by simp [hx], .inl rfl⟩
    | cons y L =>
      rw [tOks_cons, Bool.and_eq_true] at h
      obtain ⟨ay, h1, h2⟩ := ih h.2
      have hx := h.1
      unfold tOk at hx
      simp only [Bool.or_eq_true, Bool.and_false, beq_iff_eq, Bool.not_eq_true', Bool.false_eq_true, or_false] at hx
      refine ⟨x :: ay, fun z hz => ?_, ?_⟩
      · rcases List.mem_cons.1 hz with rfl | hz
        · exact hx
        · exact h1 z hz
      · rcases h2 with h2 | h2
        · exact .inl (by rw [h2])
        · exact .inr (by rw [h2]; rfl)
theorem no35 {ay : List (List UInt8)} (h : ∀ x ∈ ay, x = [43] ∨ tSign x = false) : [35] ∉ ay := fun hm => by
  rcases h _ hm with e | e
  · simp at e
  · rw [tSign_35] at e; cases e
theorem tFilter_split {a : List UInt8} (h : tFilter a = true) : ∃ ay : List (List UInt8), (∀ x ∈ ay, x = [43] ∨ tSign x = false) ∧ (tLev a = ay ∨ tLev a = ay ++ [[35]]) := by
  unfold tFilter at h
  rw [Bool.and_eq_true] at h
  exact tOks_split h.2
/-- The first level. -/
def hd0 (l : List (List UInt8)) : List UInt8 := l.headD []
def pre1 (c : UInt8) (s : List UInt8) : Bool := ([c] : List UInt8).isPrefixOf s
theorem pre1_cons (c a : UInt8) (s : List UInt8) : pre1 c (a :: s) = (c == a) := by
  unfold pre1
  simp [List.isPrefixOf]
theorem pre1_lev {c : UInt8} (hc : c ≠ 47) (s : List UInt8) : pre1 c s = pre1 c (hd0 (tLev s)) := by
  cases s with
  | nil => rfl
  | cons a s =>
    by_cases h : a = 47
    · subst h
      rw [tLev, if_pos rfl, pre1_cons]
      simpa [hd0, pre1] using hc
    · obtain ⟨l, ls, e1, e2⟩ := tLev_other (s := s) h
      rw [e2]
      show _ = pre1 c (a :: l)
      rw [pre1_cons, pre1_cons]
theorem pre1_sign {c : UInt8} {s : List UInt8} (h : pre1 c s = true) (hc : c = 43 ∨ c = 35) : tSign s = true := by
  cases s with
  | nil => cases h
  | cons a s =>
    rw [pre1_cons, beq_iff_eq] at h
    subst h
    unfold tSign
    rw [List.any_cons]
    rcases hc with rfl | rfl <;> rfl
theorem starts_iff {f n : List UInt8} (h : tFilter f = true) : tStarts f n = true ↔ (pre1 36 (hd0 (tLev n)) = true → hd0 (tLev f) ≠ [43] ∧ hd0 (tLev f) ≠ [35]) := by
  obtain ⟨ay, h1, h2⟩ := tFilter_split h
  have hf : tStarts f n = (!(pre1 36 (hd0 (tLev n))) || (!(pre1 43 (hd0 (tLev f))) && !(pre1 35 (hd0 (tLev f))))) := by
    rw [← pre1_lev (by decide), ← pre1_lev (by decide), ← pre1_lev (by decide)]
    rfl
  have hq : ∀ x : List UInt8, (x = [43] ∨ x = [35] ∨ tSign x = false) → ((!(pre1 43 x) && !(pre1 35 x)) = true ↔ x ≠ [43] ∧ x ≠ [35]) := fun x hx => by
    rcases hx with rfl | rfl | hx
    · exact ⟨fun h => absurd h (by decide), fun h => absurd rfl h.1⟩
    · exact ⟨fun h => absurd h (by decide), fun h => absurd rfl h.2⟩
    · have h43 : pre1 43 x = false := by
        rw [← Bool.not_eq_true]
        exact fun h => by rw [pre1_sign h (.inl rfl)] at hx; cases hx
      have h35 : pre1 35 x = false := by
        rw [← Bool.not_eq_true]
        exact fun h => by rw [pre1_sign h (.inr rfl)] at hx; cases hx
      rw [h43, h35]
      exact ⟨fun _ => ⟨fun e => by (rw [e, tSign_43] at hx; cases hx), fun e => by (rw [e, tSign_35] at hx; cases hx)⟩, fun _ => rfl⟩
  have hx : hd0 (tLev f) = [43] ∨ hd0 (tLev f) = [35] ∨ tSign (hd0 (tLev f)) = false := by
    have key : ∀ l : List (List UInt8), (∀ x ∈ l, x = [43] ∨ tSign x = false) → hd0 l = [43] ∨ hd0 l = [35] ∨ tSign (hd0 l) = false := fun l hl => by
      cases l with
      | nil => exact .inr (.inr rfl)
      | cons y l => exact (hl y (by simp)).elim .inl (fun h => .inr (.inr h))
    rcases h2 with h2 | h2
    · rw [h2]; exact key ay h1
    · rw [h2]
      cases ay with
      | nil => exact .inr (.inl rfl)
      | cons y l => exact (h1 y (by simp)).elim .inl (fun h => .inr (.inr h))
  rw [hf, Bool.or_eq_true, hq _ hx]
  cases pre1 36 (hd0 (tLev n)) <;> simp
theorem withL_sound {a b n : List (List UInt8)} (h : tWithL a b = true) (hm : tMeetL a n = true) : tMeetL b n = true := by
  induction b generalizing a n with
  | nil =>
    rw [tWithL_nil, List.isEmpty_iff] at h
    subst h
    exact hm
  | cons b0 bs ih =>
    rw [tWithL_cons] at h
    rw [tMeetL_cons]
    by_cases hb : b0 = [35]
    · rw [if_pos hb]
    · rw [if_neg hb] at h ⊢
      cases a with
      | nil => cases h
      | cons x ay =>
        simp only at h
        by_cases hx : x = [35]
        · rw [if_pos hx] at h; cases h
        · rw [if_neg hx, Bool.and_eq_true, Bool.or_eq_true, beq_iff_eq, beq_iff_eq] at h
          rw [tMeetL_cons, if_neg hx] at hm
          cases n with
          | nil => cases hm
          | cons n0 ns =>
            simp only [Bool.and_eq_true, Bool.or_eq_true, beq_iff_eq] at hm ⊢
            refine ⟨?_, ih h.2 hm.2⟩
            rcases h.1 with e | e
            · exact .inl e
            · rw [← e]; exact hm.1
theorem withL_trans {a b c : List (List UInt8)} (h : tWithL a b = true) (h2 : tWithL b c = true) : tWithL a c = true := by
  induction c generalizing a b with
  | nil =>
    rw [tWithL_nil, List.isEmpty_iff] at h2
    subst h2
    exact h
  | cons c0 cs ih =>
    rw [tWithL_cons] at h2 ⊢
    by_cases hc : c0 = [35]
    · rw [if_pos hc]
    · rw [if_neg hc] at h2 ⊢
      cases b with
      | nil => cases h2
      | cons b0 bs =>
        simp only at h2
        by_cases hb : b0 = [35]
        · rw [if_pos hb] at h2; cases h2
        · rw [if_neg hb, Bool.and_eq_true, Bool.or_eq_true, beq_iff_eq, beq_iff_eq] at h2
          rw [tWithL_cons, if_neg hb] at h
          cases a with
          | nil => cases h
          | cons x ay =>
            simp only at h ⊢
            by_cases hx : x = [35]
            · rw [if_pos hx] at h; cases h
            · rw [if_neg hx, Bool.and_eq_true, Bool.or_eq_true, beq_iff_eq, beq_iff_eq] at h
              rw [if_neg hx, Bool.and_eq_true, Bool.or_eq_true, beq_iff_eq, beq_iff_eq]
              refine ⟨?_, ih h.2 h2.2⟩
              rcases h2.1 with e | e
              · exact .inl e
              · rw [← e]; exact h.1
theorem tWide_35 : tWide [35] = [[43], [35]] := by decide
theorem tWide_4735 : tWide [47, 35] = [[], [43], [35]] := by decide
theorem tLev_35 : tLev [35] = [[35]] := by decide
theorem tLev_4735 : tLev [47, 35] = [[], [35]] := by decide
theorem tWide_other {a : List UInt8} (h1 : a ≠ [35]) (h2 : a ≠ [47, 35]) : tWide a = tLev a := by
  unfold tWide
  rw [if_neg (by simp [h1, h2])]
theorem meet_wide {a s : List UInt8} (hs : s ≠ []) (h : tMeetL (tLev a) (tLev s) = true) : tMeetL (tWide a) (tLev s) = true := by
  by_cases h1 : a = [35]
  · subst h1
    rw [tWide_35]
    cases hl : tLev s with
    | nil => exact absurd hl (tLev_ne s)
    | cons x l => rfl
  · by_cases h2 : a = [47, 35]
    · subst h2
      rw [tWide_4735]
      rw [tLev_4735] at h
      cases hl : tLev s with
      | nil => exact absurd hl (tLev_ne s)
      | cons x l =>
        rw [hl] at h
        cases l with
        | nil =>
          rw [tMeetL_cons, if_neg (by decide)] at h
          simp at h
          exfalso
          rw [← tJoin_lev s, hl, ← h.1] at hs
          exact hs rfl
        | cons y l =>
          rw [tMeetL_cons, if_neg (by decide)] at h ⊢
          simp only [Bool.and_eq_true] at h ⊢
          exact ⟨h.1, rfl⟩
    · rw [tWide_other h1 h2]; exact h
theorem wide_meet {a : List UInt8} {n : List (List UInt8)} (h : tMeetL (tWide a) n = true) : tMeetL (tLev a) n = true := by
  by_cases h1 : a = [35]
  · subst h1; rfl
  · by_cases h2 : a = [47, 35]
    · subst h2
      rw [tWide_4735, tMeetL_cons, if_neg (by decide)] at h
      rw [tLev_4735, tMeetL_cons, if_neg (by decide)]
      cases n with
      | nil => cases h
      | cons x ns =>
        simp only [Bool.and_eq_true] at h ⊢
        exact ⟨h.1, by rw [tMeetL_cons, if_pos rfl]⟩
    · rw [tWide_other h1 h2] at h; exact h
theorem wide_head {a : List UInt8} (h : tFilter a = true) : ∃ x ay, tWide a = x :: ay ∧ x ≠ [35] := by
  by_cases h1 : a = [35]
  · subst h1; exact ⟨_, _, tWide_35, by decide⟩
  · by_cases h2 : a = [47, 35]
    · subst h2; exact ⟨_, _, tWide_4735, by decide⟩
    · rw [tWide_other h1 h2]
      obtain ⟨ay, ha, e⟩ := tFilter_split h
      rcases e with e | e
      · cases hl : ay with
        | nil => rw [hl] at e; exact absurd e (tLev_ne a)
        | cons x l => exact ⟨x, l, by rw [e, hl], fun hx => no35 ha (by rw [hl, hx]; simp)⟩
      · cases hl : ay with
        | nil =>
          rw [hl] at e
          exact absurd (by rw [← tJoin_lev a, e]; rfl) h1
        | cons x l => exact ⟨x, l ++ [[35]], by rw [e, hl]; rfl, fun hx => no35 ha (by rw [hl, hx]; simp)⟩
theorem wide_head2 {a : List UInt8} {ay : List (List UInt8)} (h : tFilter a = true) (hw : tWide a = [] :: ay) : ∃ y bs, ay = y :: bs ∧ y ≠ [35] := by
  by_cases h1 : a = [35]
  · subst h1; rw [tWide_35] at hw; simp at hw
  · by_cases h2 : a = [47, 35]
    · subst h2
      rw [tWide_4735] at hw
      injection hw with _ e
      exact ⟨_, _, e.symm, by decide⟩
    · rw [tWide_other h1 h2] at hw
      have hne := (tFilter_levels h).1
      cases ay with
      | nil => exact absurd (by rw [← tJoin_lev a, hw]; rfl) hne
      | cons y bs =>
        refine ⟨y, bs, rfl, fun hy => ?_⟩
        obtain ⟨cs, ha, e⟩ := tFilter_split h
        have hn := no35 ha
        rcases e with e | e
        · rw [e] at hw
          exact hn (by rw [hw, hy]; simp)
        · rw [e] at hw
          cases cs with
          | nil => simp at hw
          | cons c cs =>
            injection hw with e1 e2
            cases cs with
            | nil =>
              injection e2 with _ e3
              exact h2 (by rw [← tJoin_lev a, e, e1]; rfl)
            | cons d cs =>
              injection e2 with e3 e4
              exact hn (by rw [e3, hy]; simp)
theorem within_wide {a b : List UInt8} (ha : tFilter a = true) (h : tWithL (tWide a) (tLev b) = true) : tWithL (tWide a) (tWide b) = true := by
  by_cases h1 : b = [35]
  · subst h1
    obtain ⟨x, ay, e, hx⟩ := wide_head ha
    rw [tWide_35, e, tWithL_cons, if_neg (by decide)]
    simp only [if_neg hx]
    rw [tWithL_cons, if_pos rfl]
    rfl
  · by_cases h2 : b = [47, 35]
    · subst h2
      obtain ⟨x, ay, e, hx⟩ := wide_head ha
      rw [e, tLev_4735, tWithL_cons, if_neg (by decide)] at h
      simp only [if_neg hx, Bool.and_eq_true] at h
      have hx0 : x = [] := by simpa using h.1
      subst hx0
      obtain ⟨y, bs, e2, hy⟩ := wide_head2 ha e
      rw [tWide_4735, e, e2, tWithL_cons, if_neg (by decide)]
      simp only [if_neg hx]
      rw [tWithL_cons, if_neg (by decide)]
      simp only [if_neg hy]
      rw [tWithL_cons, if_pos rfl]
      rfl
    · rw [tWide_other h1 h2]; exact h
theorem hd0_wide {a : List UInt8} (h : a ≠ [35]) : hd0 (tWide a) = hd0 (tLev a) := by
  by_cases h2 : a = [47, 35]
  · subst h2; rfl
  · rw [tWide_other h h2]
/-- Where one is within another, that meets what it meets. -/
theorem within_sound {a b n : List UInt8} (ha : tFilter a = true) (hb : tFilter b = true) (hn : tName n = true) (h : tWithin a b = true) (hm : tMeets a n = true) : tMeets b n = true := by
  unfold tWithin at h
  unfold tMeets at hm ⊢
  rw [Bool.and_eq_true] at h hm ⊢
  rw [starts_iff hb] at h
  rw [starts_iff ha] at hm
  rw [starts_iff hb]
  refine ⟨fun hp => h.1 ?_, withL_sound h.2 (meet_wide (tName_levels hn).1 hm.2)⟩
  obtain ⟨g1, g2⟩ := hm.1 hp
  have hm2 := hm.2
  cases hl : tLev a with
  | nil => exact absurd hl (tLev_ne a)
  | cons x l =>
    rw [hl] at g1 g2 hm2
    change x ≠ [43] at g1
    change x ≠ [35] at g2
    cases hl2 : tLev n with
    | nil => exact absurd hl2 (tLev_ne n)
    | cons y m =>
      rw [hl2, tMeetL_cons, if_neg g2] at hm2
      simp only [Bool.and_eq_true, Bool.or_eq_true, beq_iff_eq] at hm2
      rw [hl2] at hp
      rcases hm2.1 with e | e
      · exact absurd e g1
      · show pre1 36 x = true
        rw [e]
        exact hp
theorem within_trans {a b c : List UInt8} (ha : tFilter a = true) (hb : tFilter b = true) (hc : tFilter c = true) (h : tWithin a b = true) (h2 : tWithin b c = true) : tWithin a c = true := by
  unfold tWithin at h h2 ⊢
  rw [Bool.and_eq_true] at h h2 ⊢
  rw [starts_iff hb] at h
  rw [starts_iff hc] at h2
  rw [starts_iff hc]
  refine ⟨fun hp => h2.1 ?_, withL_trans (within_wide ha h.2) h2.2⟩
  obtain ⟨g1, g2⟩ := h.1 hp
  have hh := h.2
  have ha35 : a ≠ [35] := fun e => by rw [e] at hp; exact absurd hp (by decide)
  have hw := hd0_wide ha35
  cases hl2 : tLev b with
  | nil => exact absurd hl2 (tLev_ne b)
  | cons y m =>
    rw [hl2] at g1 g2 hh
    change y ≠ [43] at g1
    change y ≠ [35] at g2
    rw [tWithL_cons, if_neg g2] at hh
    cases hl : tWide a with
    | nil => rw [hl] at hh; cases hh
    | cons x l =>
      rw [hl] at hh hw
      simp only at hh
      by_cases hx : x = [35]
      · rw [if_pos hx] at hh; cases hh
      · rw [if_neg hx, Bool.and_eq_true, Bool.or_eq_true, beq_iff_eq, beq_iff_eq] at hh
        rcases hh.1 with e | e
        · exact absurd e g1
        · show pre1 36 y = true
          rw [← e]
          rw [← hw] at hp
          exact hp
theorem within_self {a : List UInt8} (h : tFilter a = true) : tWithin a a = true := by
  have key : ∀ l : List (List UInt8), (∀ x ∈ l, x = [43] ∨ tSign x = false) → ∀ t, tWithL t t = true → tWithL (l ++ t) (l ++ t) = true := fun l => by
    induction l with
    | nil => intro _ t ht; exact ht
    | cons x l ih =>
      intro hl t ht
      rw [List.cons_append, tWithL_cons]
      by_cases hx : x = [35]
      · rw [if_pos hx]
      · rw [if_neg hx]
        simp only [if_neg hx]
        rw [ih (fun z hz => hl z (List.mem_cons_of_mem _ hz)) t ht]
        simp
  unfold tWithin
  rw [Bool.and_eq_true, starts_iff h]
  refine ⟨fun hp => ⟨fun e => ?_, fun e => ?_⟩, ?_⟩
  · rw [e] at hp; exact absurd hp (by decide)
  · rw [e] at hp; exact absurd hp (by decide)
  · by_cases h1 : a = [35]
    · subst h1; decide
    · by_cases h2 : a = [47, 35]
      · subst h2; decide
      · rw [tWide_other h1 h2]
        obtain ⟨ay, ha, e⟩ := tFilter_split h
        rcases e with e | e
        · rw [e]
          have := key ay ha [] rfl
          rwa [List.append_nil] at this
        · rw [e]
          exact key ay ha [[35]] rfl
end Go.Proofs.YtfglgeoookbppaaGreatDoor

namespace Go.Proofs.YtfglgeoookbppaaGreatDoor
open Go.RowKit Go.Shelf

def tSignN (s : List UInt8) : Nat := s.countP fun b => b == 43 || b == 35
set_option maxRecDepth 100000 in
set_option maxHeartbeats 1000000 in
theorem rSigns_any (w : World) (s : List UInt8) (hs : s.length ≤ 60000) :
    Calls Tryz.prog 55 #[.string ⟨s.toArray⟩] w fun e w' => e = .returned (.int .i64 (tSignN s : Nat)) ∧ w = w' := by
  obtain ⟨S, hS⟩ : ∃ S : ByteArray, (⟨s.toArray⟩ : ByteArray) = S := ⟨_, rfl⟩
  have hz : S.size = s.length := by rw [← hS]; simp [ByteArray.size]
  have HG := Lib.hid (show ∀ k (h : k < s.length) (h2 : k < S.size), S[k] = s[k] from fun k h h2 => by subst hS; rfl)
  rw [hS]
  clear hS
  go_enter Tryz.func55, Tryz.ntmps55
  go_wp2
  go_loop [3, 4] (fun n i => ∃ k : Nat, k ≤ s.length ∧ i = .int .i64 k ∧ n = .int .i64 (tSignN (s.take k) : Nat)) (fun _ i => s.length - (intOf i).toNat)
  case atStart => exact ⟨0, by omega, rfl, rfl⟩
  case round =>
    obtain ⟨k, hk, rfl, rfl⟩ := hrel
    by_cases hlt : k < s.length
    · have HS := Lib.hid (List.take_succ_eq_append_getElem hlt)
      have ix : ∀ h, S[k]'h = s[k] := fun h => HG.out k hlt h
      obtain ⟨m, hm⟩ : ∃ m, tSignN (s.take k) = m := ⟨_, rfl⟩
      have hmk : m ≤ k := by rw [← hm]; exact Nat.le_trans List.countP_le_length (by rw [List.length_take]; omega)
      have HM := Lib.hid hm
      rw [hm]
      clear hm
      generalize s[k] = y at *
      have HN := Lib.hid (show tSignN (s.take (k + 1)) = m + (if (y == 43 || y == 35) = true then 1 else 0) by rw [HS.out, tSignN, List.countP_append, ← HM.out]; simp [tSignN])
      by_cases h43 : y = 43
      · subst h43
        have b1 : (((43 : UInt8).toNat : Int) == 43) = true := rfl
        go_wp2_with fail
        refine ⟨⟨k + 1, by omega, by go_num, ?_⟩, by simp [intOf]; omega⟩
        rw [HN.out]
        go_num
      · have b1 : ((y.toNat : Int) == 43) = false := by
          rw [beq_eq_false_iff_ne]
          intro h
          exact h43 (UInt8.toNat_inj.1 (by simpa using (show y.toNat = 43 by omega)))
        by_cases h35 : y = 35
        · subst h35
          have b2 : (((35 : UInt8).toNat : Int) == 35) = true := rfl
          go_wp2_with fail
          refine ⟨⟨k + 1, by omega, by go_num, ?_⟩, by simp [intOf]; omega⟩
          rw [HN.out]
          go_num
        · have b2 : ((y.toNat : Int) == 35) = false := by
            rw [beq_eq_false_iff_ne]
            intro h
            exact h35 (UInt8.toNat_inj.1 (by simpa using (show y.toNat = 35 by omega)))
          have HN2 := Lib.hid (show (y == 43 || y == 35) = false by simp [h43, h35])
          go_wp2_with fail
          refine ⟨⟨k + 1, by omega, by go_num, ?_⟩, by simp [intOf]; omega⟩
          rw [HN.out, HN2.out]
          rfl
    · obtain rfl : k = s.length := by omega
      rw [List.take_length]
      go_wp2_with fail
      go_ret
      exact ⟨rfl, rfl⟩
end Go.Proofs.YtfglgeoookbppaaGreatDoor

namespace Go.Proofs.YtfglgeoookbppaaGreatDoor
open Go.RowKit Go.Shelf

def rMayB (r : Nat) : Bool := decide (r < 55296) || (decide (57343 < r) && decide (r ≤ 1114111))
set_option maxRecDepth 100000 in
theorem rMay_any (w : World) (r : Nat) : Calls Tryz.prog 127 #[.int .i32 r] w fun e w' => e = .returned (.bool (rMayB r)) ∧ w = w' := by
  have h0 : decide ((r : Int) ≥ 0) = true := by simp
  have h00 : decide ((0 : Int) ≤ r) = true := by simp
  obtain ⟨b1, e1⟩ : ∃ b, decide (r < 55296) = b := ⟨_, rfl⟩
  obtain ⟨b2, e2⟩ : ∃ b, decide (57343 < r) = b := ⟨_, rfl⟩
  obtain ⟨b3, e3⟩ : ∃ b, decide (r ≤ 1114111) = b := ⟨_, rfl⟩
  have HR := Lib.hid (show rMayB r = (b1 || (b2 && b3)) by unfold rMayB; rw [e1, e2, e3])
  have f1 : decide ((r : Int) < 55296) = b1 := by rw [← e1]; apply decide_eq_decide.2; omega
  have f2 : decide ((57343 : Int) < r) = b2 := by rw [← e2]; apply decide_eq_decide.2; omega
  have f3 : decide ((r : Int) ≤ 1114111) = b3 := by rw [← e3]; apply decide_eq_decide.2; omega
  clear e1 e2 e3
  go_enter Tryz.func127, Tryz.ntmps127
  cases b1 <;> cases b2 <;> cases b3
  all_goals go_wp2_with fail
  all_goals go_ret
  all_goals exact ⟨by rw [HR.out]; rfl, rfl⟩
end Go.Proofs.YtfglgeoookbppaaGreatDoor

namespace Go.Proofs.YtfglgeoookbppaaGreatDoor
open Go.RowKit Go.Shelf

set_option maxRecDepth 100000 in
theorem rSix_any (w : World) (r : Nat) (hr : r ≤ 4294967295) : Calls Tryz.prog 145 #[.int .i64 r] w fun e w' => e = .returned (.int .u8 (128 + r % 64 : Nat)) ∧ w = w' := by
  have h1 : (r : Int).tmod 64 = ((r % 64 : Nat) : Int) := by rw [Int.tmod_eq_emod_of_nonneg (by omega)]; omega
  have hlt : r % 64 < 64 := Nat.mod_lt _ (by omega)
  obtain ⟨m, hm⟩ : ∃ m, r % 64 = m := ⟨_, rfl⟩
  rw [hm] at h1 hlt ⊢
  clear hm
  go_enter Tryz.func145, Tryz.ntmps145
  go_wp2
  go_ret
  exact ⟨by go_num, rfl⟩
end Go.Proofs.YtfglgeoookbppaaGreatDoor

namespace Go.Proofs.YtfglgeoookbppaaGreatDoor
open Go.RowKit Go.Shelf

theorem rConv (w : World) (l : List UInt8) : (convert 39 9 (.slice (some ⟨w.heap.size, 0, none⟩) l.length l.length)).run Tryz.prog (w.alloc (.cells (byC l) 5)) = .ok (.string ⟨l.toArray⟩) (w.alloc (.cells (byC l) 5)) :=
  conv_str _ _ _ _ l (lies_by (Row.new w 5 (byC l)))
set_option maxRecDepth 100000 in
set_option maxHeartbeats 2000000 in
theorem rRaw_any (w : World) (r : Nat) (hr : r ≤ 1114111) : Calls Tryz.prog 128 #[.int .i32 r] w fun e w' => e = .returned (.string ⟨(uRaw r).toArray⟩) ∧ Keeps w w' [] := by
  by_cases h1 : r < 128
  · have d1 : decide ((r : Int) < 128) = true := by simp; omega
    have HU := Lib.hid (show uRaw r = [u8 r] by unfold uRaw; rw [if_pos h1])
    have cv := rConv w [u8 r]
    rw [show byC [u8 r] = #[.int .u8 (r : Int)] by simp [byC, byteV, toNat_u8 (show r < 256 by omega)]] at cv
    generalize hS : (⟨[u8 r].toArray⟩ : ByteArray) = S at cv
    have HS := Lib.hid hS
    clear hS
    simp only [List.length_cons, List.length_nil, Nat.zero_add] at cv
    go_enter Tryz.func128, Tryz.ntmps128
    go_wp2_with fail
    go_ret
    exact ⟨by rw [HU.out, HS.out]; rfl, Keeps.alloc _ _⟩
  · have d1 : decide ((r : Int) < 128) = false := by simp; omega
    by_cases h2 : r < 2048
    · have d2 : decide ((r : Int) < 2048) = true := by simp; omega
      have q1 : (r : Int).tdiv 64 = ((r / 64 : Nat) : Int) := by rw [Int.tdiv_eq_ediv_of_nonneg (by omega)]; omega
      have HU := Lib.hid (show uRaw r = [u8 (192 + r / 64), u8 (128 + r % 64)] by unfold uRaw; rw [if_neg h1, if_pos h2])
      have cv := rConv w [u8 (192 + r / 64), u8 (128 + r % 64)]
      rw [show byC [u8 (192 + r / 64), u8 (128 + r % 64)] = #[.int .u8 (192 + (r : Int) / 64), .int .u8 (128 + (r : Int) % 64)] by simp [byC, byteV, toNat_u8 (show 192 + r / 64 < 256 by omega), toNat_u8 (show 128 + r % 64 < 256 by omega)]] at cv
      generalize hS : (⟨[u8 (192 + r / 64), u8 (128 + r % 64)].toArray⟩ : ByteArray) = S at cv
      have HS := Lib.hid hS
      clear hS
      simp only [List.length_cons, List.length_nil, Nat.zero_add] at cv
      have HX := Lib.hid (rSix_any w r (by omega))
      go_enter Tryz.func128, Tryz.ntmps128
      go_wp2_with (go_at_call 145; refine HX.out.mono ?_; rintro e w1 ⟨rfl, rfl⟩)
      go_ret
      exact ⟨by rw [HU.out, HS.out]; rfl, Keeps.alloc _ _⟩
    · have d2 : decide ((r : Int) < 2048) = false := by simp; omega
      have hx0 := rSix_any w r (by omega)
      have hx1 := rSix_any w (r / 64) (by omega)
      have hx2 := rSix_any w (r / 4096) (by omega)
      simp only [Int.natCast_add, Int.natCast_emod, Int.natCast_ediv, Int.cast_ofNat_Int] at hx0 hx1 hx2
      have HX := Lib.hid (And.intro hx0 (And.intro hx1 hx2))
      clear hx0 hx1 hx2
      by_cases h3 : r < 65536
      · have d3 : decide ((r : Int) < 65536) = true := by simp; omega
        have HU := Lib.hid (show uRaw r = [u8 (224 + r / 4096), u8 (128 + r / 64 % 64), u8 (128 + r % 64)] by unfold uRaw; rw [if_neg h1, if_neg h2, if_pos h3])
        have cv := rConv w [u8 (224 + r / 4096), u8 (128 + r / 64 % 64), u8 (128 + r % 64)]
        rw [show byC [u8 (224 + r / 4096), u8 (128 + r / 64 % 64), u8 (128 + r % 64)] = #[.int .u8 (224 + (r : Int) / 4096), .int .u8 (128 + (r : Int) / 64 % 64), .int .u8 (128 + (r : Int) % 64)] by simp [byC, byteV, toNat_u8 (show 224 + r / 4096 < 256 by omega), toNat_u8 (show 128 + r / 64 % 64 < 256 by omega), toNat_u8 (show 128 + r % 64 < 256 by omega)]] at cv
        generalize hS : (⟨[u8 (224 + r / 4096), u8 (128 + r / 64 % 64), u8 (128 + r % 64)].toArray⟩ : ByteArray) = S at cv
        have HS := Lib.hid hS
        clear hS
        simp only [List.length_cons, List.length_nil, Nat.zero_add] at cv
        go_enter Tryz.func128, Tryz.ntmps128
        go_wp2_with (go_at_call 145; first | (refine HX.out.1.mono ?_; rintro e w1 ⟨rfl, rfl⟩) | (refine HX.out.2.1.mono ?_; rintro e w1 ⟨rfl, rfl⟩))
        go_ret
        exact ⟨by rw [HU.out, HS.out]; rfl, Keeps.alloc _ _⟩
      · have d3 : decide ((r : Int) < 65536) = false := by simp; omega
        have HU := Lib.hid (show uRaw r = [u8 (240 + r / 262144), u8 (128 + r / 4096 % 64), u8 (128 + r / 64 % 64), u8 (128 + r % 64)] by unfold uRaw; rw [if_neg h1, if_neg h2, if_neg h3])
        have cv := rConv w [u8 (240 + r / 262144), u8 (128 + r / 4096 % 64), u8 (128 + r / 64 % 64), u8 (128 + r % 64)]
        rw [show byC [u8 (240 + r / 262144), u8 (128 + r / 4096 % 64), u8 (128 + r / 64 % 64), u8 (128 + r % 64)] = #[.int .u8 (240 + (r : Int) / 262144), .int .u8 (128 + (r : Int) / 4096 % 64), .int .u8 (128 + (r : Int) / 64 % 64), .int .u8 (128 + (r : Int) % 64)] by simp [byC, byteV, toNat_u8 (show 240 + r / 262144 < 256 by omega), toNat_u8 (show 128 + r / 4096 % 64 < 256 by omega), toNat_u8 (show 128 + r / 64 % 64 < 256 by omega), toNat_u8 (show 128 + r % 64 < 256 by omega)]] at cv
        generalize hS : (⟨[u8 (240 + r / 262144), u8 (128 + r / 4096 % 64), u8 (128 + r / 64 % 64), u8 (128 + r % 64)].toArray⟩ : ByteArray) = S at cv
        have HS := Lib.hid hS
        clear hS
        simp only [List.length_cons, List.length_nil, Nat.zero_add] at cv
        go_enter Tryz.func128, Tryz.ntmps128
        go_wp2_with (go_at_call 145; first | (refine HX.out.1.mono ?_; rintro e w1 ⟨rfl, rfl⟩) | (refine HX.out.2.1.mono ?_; rintro e w1 ⟨rfl, rfl⟩) | (refine HX.out.2.2.mono ?_; rintro e w1 ⟨rfl, rfl⟩))
        go_ret
        exact ⟨by rw [HU.out, HS.out]; rfl, Keeps.alloc _ _⟩
end Go.Proofs.YtfglgeoookbppaaGreatDoor

namespace Go.Proofs.YtfglgeoookbppaaGreatDoor
open Go.RowKit Go.Shelf

/-- No rune of fewer bytes. -/
structure FiAt (w wr : World) (s : List UInt8) (k : Nat) : Prop where
  n : ∀ j, 1 ≤ j → j < k → ¬ (j ≤ s.length ∧ uHit (s.take j))
  k : Keeps w wr []
theorem FiAt.next {w wr w' : World} {s : List UInt8} {k : Nat} (h : FiAt w wr s k) (hn : ¬ uHit (s.take k)) (hk : Keeps wr w' []) : FiAt w w' s (k + 1) :=
  ⟨fun j h1 h2 h3 => by
    rcases Nat.lt_or_ge j k with g | g
    · exact h.n j h1 g h3
    · obtain rfl : j = k := by omega
      exact hn h3.2, h.k.then_ hk⟩
theorem rLead_no {s : List UInt8} {a : UInt8} {t : List UInt8} {k : Nat} (hs : s = a :: t) (hk : k ≤ s.length) (h0 : 1 ≤ k) (h : ¬ (uLead k ≤ a.toNat ∧ a.toNat < uMost k)) : ¬ uHit (s.take k) := by
  intro hh
  obtain ⟨a', t', e, g1, g2⟩ := uHit_lead hh
  have hl : (s.take k).length = k := by rw [List.length_take]; omega
  rw [hl] at g1 g2
  have : a' = a := by
    rw [hs] at e
    obtain ⟨k, rfl⟩ : ∃ k', k = k' + 1 := ⟨k - 1, by omega⟩
    rw [List.take_succ_cons] at e
    injection e with e1 _
    exact e1.symm
  rw [this] at g1 g2
  exact h ⟨g1, g2⟩
theorem rMore_step {s : List UInt8} {x y m : Nat} {c : UInt8} (h1 : 1 ≤ m) (hm : m < s.length) (hc : s[m] = c) (hy : y = uMore x ((s.take m).drop 1)) : 64 * y + c.toNat % 64 = uMore x ((s.take (m + 1)).drop 1) := by
  rw [List.take_succ_eq_append_getElem hm, hc, List.drop_append_of_le_length (by rw [List.length_take]; omega)]
  unfold uMore
  rw [List.foldl_append, ← show y = ((s.take m).drop 1).foldl (fun r x => 64 * r + x.toNat % 64) x from hy]
  rfl
theorem rDec_more {s : List UInt8} {a : UInt8} {t : List UInt8} {k x : Nat} (hs : s = a :: t) (hk : k ≤ s.length) (h1 : 1 ≤ k) (hx : a.toNat - uLead k = x) : uMore x ((s.take k).drop 1) = uDec (s.take k) := by
  have hl : (s.take k).length = k := by rw [List.length_take]; omega
  obtain ⟨k, rfl⟩ : ∃ k', k = k' + 1 := ⟨k - 1, by omega⟩
  subst hs
  rw [List.take_succ_cons] at hl ⊢
  show uMore x (t.take k) = uMore (a.toNat - uLead (a :: t.take k).length) (t.take k)
  rw [hl, hx]
def FiPost (w : World) (s : List UInt8) (e : Ending) (w' : World) : Prop := ∃ r : Nat, e = .returned (.tuple #[.int .i32 (r : Int), .int .i64 ((uFirst s : Nat) : Int)]) ∧ (uFirst s ≠ 0 → r = uDec (s.take (uFirst s))) ∧ Keeps w w' []
set_option maxRecDepth 100000 in
set_option maxHeartbeats 4000000 in
theorem rFirst_any (w : World) (s : List UInt8) (hs : s.length ≤ 1000000) : Calls Tryz.prog 95 #[.string ⟨s.toArray⟩] w (FiPost w s) := by
  obtain ⟨S, hS⟩ : ∃ S : ByteArray, (⟨s.toArray⟩ : ByteArray) = S := ⟨_, rfl⟩
  have hsz : S.size = s.length := by rw [← hS]; rfl
  have HS := Lib.hid (And.intro hS hsz)
  rw [hS]
  clear hS
  go_enter Tryz.func95, Tryz.ntmps95
  go_wp2_with fail
  go_loopw [4] (fun i wr => ∃ k : Nat, 1 ≤ k ∧ k ≤ 5 ∧ i = .int .i64 k ∧ Hid (FiAt w wr s k)) (fun i _ => 5 - (intOf i).toNat)
  case atStart => exact ⟨1, by omega, by omega, rfl, Lib.hid ⟨fun j _ _ => by omega, Keeps.refl _ _⟩⟩
  case round =>
    obtain ⟨k, hk1, hk5, rfl, HR⟩ := hrel
    have hsl := HS.out.2
    rcases (show k = 1 ∨ k = 2 ∨ k = 3 ∨ k = 4 ∨ k = 5 by omega) with rfl | rfl | rfl | rfl | rfl
    · skip
      by_cases hl : s.length < 1
      · have hlb : decide ((1 : Int) ≤ s.length) = false := decide_eq_false (by omega)
        have HL := Lib.hid hl
        clear hl
        go_wp2_with fail
        go_ret2
        have hu : uFirst s = 0 := uFirst_none (fun j h1 h2 h3 => by
          have := HL.out
          rcases Nat.lt_or_ge j 1 with h | h
          · exact HR.out.n j h1 h h3
          · omega)
        exact ⟨0, by rw [hu]; rfl, fun h => absurd hu h, HR.out.k⟩
      · have hlb : decide ((1 : Int) ≤ s.length) = true := decide_eq_true (by omega)
        have hpos : 0 < s.length := by omega
        obtain ⟨a, t, hat⟩ : ∃ a t, s = a :: t := by
          cases s with
          | nil => simp at hpos
          | cons a t => exact ⟨a, t, rfl⟩
        have HT := Lib.hid (And.intro hat (show 1 ≤ s.length by omega))
        have ha : ∀ h : 0 < S.size, S[0]'h = a := fun h => by
          rw [str_get HS.out.1 hpos h]
          simp [hat]
        by_cases hr : 0 ≤ a.toNat ∧ a.toNat < 128
        · obtain ⟨hr1, hr2⟩ := hr
          have f1 : decide ((a.toNat : Int) < 0) = false := decide_eq_false (by omega)
          have f2 : decide ((a.toNat : Int) ≥ 128) = false := decide_eq_false (by omega)
          have f3 : decide ((128 : Int) ≤ a.toNat) = false := decide_eq_false (by omega)
          obtain ⟨x, hx⟩ : ∃ x, a.toNat - 0 = x := ⟨_, rfl⟩
          have hxi : ((a.toNat : Int) - 0) = x := by omega
          have HX := Lib.hid hx
          have hx255 : x ≤ 255 := by have := a.toNat_lt; omega
          have HA := Lib.hid (And.intro hr1 hr2)
          clear hat hl hx hr1 hr2
          go_wp2_with fail
          go_loopw [8, 9] (fun r i W => ∃ m y : Nat, 1 ≤ m ∧ m ≤ 1 ∧ i = .int .i64 m ∧ r = .int .i32 (y : Int) ∧ Hid (y = uMore x ((s.take m).drop 1) ∧ wr = W)) (fun _ i _ => 1 - (intOf i).toNat)
          case atStart => exact ⟨1, x, by omega, by omega, rfl, by congr 1 <;> omega, Lib.hid ⟨by rw [HT.out.1]; rfl, rfl⟩⟩
          case round =>
            obtain ⟨m, y, hm1, hm, rfl, rfl, HM⟩ := hrel
            obtain ⟨hy, rfl⟩ := HM.out
            have hlt2 := uMore_lt x ((s.take m).drop 1)
            rw [← hy, List.length_drop, List.length_take] at hlt2
            by_cases hmk : m < 1
            · skip
              exfalso
              omega
            · obtain rfl : m = 1 := by omega
              have HY := Lib.hid (show y = uDec (s.take 1) by
                rw [hy]
                exact rDec_more HT.out.1 HT.out.2 (by omega) HX.out)
              have hyl : y ≤ 2147483647 := by
                refine Nat.le_trans (Nat.le_of_lt hlt2) ?_
                refine Nat.le_trans (Nat.mul_le_mul (show x + 1 ≤ 256 by omega) (Nat.pow_le_pow_right (by omega) (show min 1 s.length - 1 ≤ 3 by omega))) ?_
                omega
              clear hlt2 hy HM
              have HIT := Lib.hid (show (uMay y ∧ uRaw y = s.take 1) ↔ uHit (s.take 1) by rw [HY.out]; exact uHit_iff.symm)
              have hks : (1 : Int) ≤ s.length := by have := HT.out.2; omega
              go_wp2_with fail
              by_cases hy0 : y = 0
              · have HN := Lib.hid (show ¬ uHit (s.take 1) from fun h => by have := (HIT.out.2 h).1.1; omega)
                subst hy0
                refine wp_region_keeps _ (by kernel_rfl) rfl (by kernel_rfl) ?_
                apply loose_is
                · intro W vals hW hkn
                  clear hkn
                  refine ⟨?_⟩
                  simp only [fill]
                  go_simp
                  first | exact ⟨Keeps.refl _ _, rfl⟩ | exact ⟨Keeps.alloc _ _, rfl⟩
                simp only [addEnt]
                apply loose_is
                · intro W vals hW hkn
                  clear hkn
                  refine ⟨?_⟩
                  simp only [fill]
                  go_simp
                  first | exact ⟨Keeps.refl _ _, rfl⟩ | exact ⟨Keeps.alloc _ _, rfl⟩
                simp only [addEnt]
                apply loose_is
                · intro W vals hW hkn
                  clear hkn
                  refine ⟨?_⟩
                  simp only [fill]
                  go_simp
                  first | exact ⟨Keeps.refl _ _, rfl⟩ | exact ⟨Keeps.alloc _ _, rfl⟩
                simp only [addEnt]
                refine loose_off (fun vals => by kernel_rfl) ?_
                simp only [addEnt]
                refine loose_off (fun vals => by kernel_rfl) ?_
                simp only [addEnt]
                apply loose_is
                · intro W vals hW hkn
                  clear hkn
                  refine ⟨?_⟩
                  simp only [fill]
                  go_simp
                  first | exact ⟨Keeps.refl _ _, rfl⟩ | exact ⟨Keeps.alloc _ _, rfl⟩
                simp only [addEnt]
                apply loose_is
                · intro W vals hW hkn
                  clear hkn
                  refine ⟨?_⟩
                  simp only [fill]
                  go_simp
                  first | exact ⟨Keeps.refl _ _, rfl⟩ | exact ⟨Keeps.alloc _ _, rfl⟩
                simp only [addEnt]
                refine loose_off (fun vals => by kernel_rfl) ?_
                simp only [addEnt]
                refine loose_off (fun vals => by kernel_rfl) ?_
                simp only [addEnt]
                refine loose_off (fun vals => by kernel_rfl) ?_
                simp only [addEnt]
                refine loose_off (fun vals => by kernel_rfl) ?_
                simp only [addEnt]
                refine loose_off (fun vals => by kernel_rfl) ?_
                simp only [addEnt]
                refine loose_off (fun vals => by kernel_rfl) ?_
                simp only [addEnt]
                apply loose_is
                · intro W vals hW hkn
                  clear hkn
                  refine ⟨?_⟩
                  simp only [fill]
                  go_simp
                  first | exact ⟨Keeps.refl _ _, rfl⟩ | exact ⟨Keeps.alloc _ _, rfl⟩
                simp only [addEnt]
                refine loose_nil (fun W vals hW hkn => ?_)
                simp only [knowsAll] at hkn
                try simp only [and_true] at hkn
                simp only [fill, Act.put, List.setIfInBounds_toArray, List.set_cons_succ, List.set_cons_zero]
                clear hkn
                have HZ := Lib.hid hW
                clear hW
                go_wp2_with fail
                exact ⟨⟨1 + 1, by omega, by omega, by go_num, Lib.hid (HR.out.next HN.out HZ.out)⟩, by simp [intOf]⟩
              · have hyp : 0 < y := by omega
                by_cases hm : uMay y
                · have HM0 := Lib.hid hm
                  have hmb : rMayB y = true := by
                    unfold rMayB
                    have := hm.2
                    simp only [Bool.or_eq_true, Bool.and_eq_true, decide_eq_true_eq]
                    exact this
                  obtain ⟨S2, hS2⟩ : ∃ S2 : ByteArray, (⟨(uRaw y).toArray⟩ : ByteArray) = S2 := ⟨_, rfl⟩
                  obtain ⟨S3, hS3⟩ : ∃ S3, S.extract 0 1 = S3 := ⟨_, rfl⟩
                  have e2 : S2.toList = uRaw y := by rw [← hS2, Lib.toList_data]
                  have e3 : S3.toList = s.take 1 := by rw [← hS3, ← HS.out.1, str_cut, Lib.toList_data]; simp
                  obtain ⟨fb, hfb⟩ : ∃ fb : Bool, fb = decide (uRaw y = s.take 1) := ⟨_, rfl⟩
                  have hcmp : (S2.toList == S3.toList) = fb := by
                    rw [e2, e3, hfb, Bool.eq_iff_iff]
                    simp
                  have HF := Lib.hid hfb
                  have HS2 := Lib.hid hS2
                  have HMB := Lib.hid hmb
                  clear hm e2 e3 hfb hS2 hmb
                  refine wp_region_keeps _ (by kernel_rfl) rfl (by kernel_rfl) ?_
                  apply loose_is
                  · intro W vals hW hkn
                    clear hkn
                    refine ⟨?_⟩
                    simp only [fill]
                    go_simp
                    first | exact ⟨Keeps.refl _ _, rfl⟩ | exact ⟨Keeps.alloc _ _, rfl⟩
                  simp only [addEnt]
                  apply loose_is
                  · intro W vals hW hkn
                    clear hkn
                    refine ⟨?_⟩
                    simp only [fill]
                    go_simp
                    first | exact ⟨Keeps.refl _ _, rfl⟩ | exact ⟨Keeps.alloc _ _, rfl⟩
                  simp only [addEnt]
                  apply loose_is
                  · intro W vals hW hkn
                    clear hkn
                    refine ⟨?_⟩
                    simp only [fill]
                    go_simp
                    first | exact ⟨Keeps.refl _ _, rfl⟩ | exact ⟨Keeps.alloc _ _, rfl⟩
                  simp only [addEnt]
                  apply loose_is
                  · intro W vals hW hkn
                    clear hkn
                    refine ⟨?_⟩
                    simp only [fill]
                    go_simp
                    first | exact ⟨Keeps.refl _ _, rfl⟩ | exact ⟨Keeps.alloc _ _, rfl⟩
                  simp only [addEnt]
                  apply loose_is
                  · intro W vals hW hkn
                    clear hkn
                    refine ⟨?_⟩
                    simp only [fill]
                    go_simp
                    refine looseUpon_calls ?_
                    exact (rMay_any W y).mono (by rintro e w3 ⟨rfl, rfl⟩; exact ⟨_, rfl, Keeps.refl _ _, (by rw [HMB.out])⟩)
                  simp only [addEnt]
                  apply loose_is
                  · intro W vals hW hkn
                    clear hkn
                    refine ⟨?_⟩
                    simp only [fill]
                    go_simp
                    first | exact ⟨Keeps.refl _ _, rfl⟩ | exact ⟨Keeps.alloc _ _, rfl⟩
                  simp only [addEnt]
                  apply loose_is
                  · intro W vals hW hkn
                    clear hkn
                    refine ⟨?_⟩
                    simp only [fill]
                    go_simp
                    first | exact ⟨Keeps.refl _ _, rfl⟩ | exact ⟨Keeps.alloc _ _, rfl⟩
                  simp only [addEnt]
                  apply loose_is
                  · intro W vals hW hkn
                    clear hkn
                    refine ⟨?_⟩
                    simp only [fill]
                    go_simp
                    first | exact ⟨Keeps.refl _ _, rfl⟩ | exact ⟨Keeps.alloc _ _, rfl⟩
                  simp only [addEnt]
                  apply loose_is
                  · intro W vals hW hkn
                    clear hkn
                    refine ⟨?_⟩
                    simp only [fill]
                    go_simp
                    refine looseUpon_calls ?_
                    exact (rRaw_any W y (by have := HM0.out.2; omega)).mono (by rintro e w3 ⟨rfl, hk⟩; exact ⟨_, rfl, hk, (by rw [HS2.out])⟩)
                  simp only [addEnt]
                  apply loose_is
                  · intro W vals hW hkn
                    clear hkn
                    refine ⟨?_⟩
                    simp only [fill]
                    go_simp
                    first | exact ⟨Keeps.refl _ _, rfl⟩ | exact ⟨Keeps.alloc _ _, rfl⟩
                  simp only [addEnt]
                  apply loose_is
                  · intro W vals hW hkn
                    clear hkn
                    refine ⟨?_⟩
                    simp only [fill]
                    go_simp
                    first | exact ⟨Keeps.refl _ _, rfl⟩ | exact ⟨Keeps.alloc _ _, rfl⟩
                  simp only [addEnt]
                  apply loose_is
                  · intro W vals hW hkn
                    clear hkn
                    refine ⟨?_⟩
                    simp only [fill]
                    go_simp
                    first | exact ⟨Keeps.refl _ _, rfl⟩ | exact ⟨Keeps.alloc _ _, rfl⟩
                  simp only [addEnt]
                  apply loose_is
                  · intro W vals hW hkn
                    clear hkn
                    refine ⟨?_⟩
                    simp only [fill]
                    go_simp
                    first | exact ⟨Keeps.refl _ _, rfl⟩ | exact ⟨Keeps.alloc _ _, rfl⟩
                  simp only [addEnt]
                  apply loose_is
                  · intro W vals hW hkn
                    clear hkn
                    refine ⟨?_⟩
                    simp only [fill]
                    go_simp
                    first | exact ⟨Keeps.refl _ _, rfl⟩ | exact ⟨Keeps.alloc _ _, rfl⟩
                  simp only [addEnt]
                  refine loose_nil (fun W vals hW hkn => ?_)
                  simp only [knowsAll] at hkn
                  try simp only [and_true] at hkn
                  simp only [fill, Act.put, List.setIfInBounds_toArray, List.set_cons_succ, List.set_cons_zero]
                  clear hkn
                  have HZ := Lib.hid hW
                  clear hW
                  cases fb with
                  | true =>
                    go_wp2_with fail
                    go_ret2
                    have hu : uFirst s = 1 := uFirst_hit (by omega) (by omega) (fun j h1 h2 => HR.out.n j h1 h2) ⟨HT.out.2, HIT.out.1 ⟨HM0.out, of_decide_eq_true HF.out.symm⟩⟩
                    exact ⟨y, by rw [hu]; rfl, fun _ => by rw [hu]; exact HY.out, HR.out.k.then_ HZ.out⟩
                  | false =>
                    have HN := Lib.hid (show ¬ uHit (s.take 1) from fun h => by
                      have e := (HIT.out.2 h).2
                      have f := HF.out
                      rw [decide_eq_true e] at f
                      cases f)
                    go_wp2_with fail
                    exact ⟨⟨1 + 1, by omega, by omega, by go_num, Lib.hid (HR.out.next HN.out HZ.out)⟩, by simp [intOf]⟩
                · have HN := Lib.hid (show ¬ uHit (s.take 1) from fun h => hm (HIT.out.2 h).1)
                  have hmb : rMayB y = false := by
                    rw [← Bool.not_eq_true]
                    unfold rMayB
                    simp only [Bool.or_eq_true, Bool.and_eq_true, decide_eq_true_eq]
                    exact fun h => hm ⟨by omega, h⟩
                  have HMB := Lib.hid hmb
                  clear hm hmb
                  refine wp_region_keeps _ (by kernel_rfl) rfl (by kernel_rfl) ?_
                  apply loose_is
                  · intro W vals hW hkn
                    clear hkn
                    refine ⟨?_⟩
                    simp only [fill]
                    go_simp
                    first | exact ⟨Keeps.refl _ _, rfl⟩ | exact ⟨Keeps.alloc _ _, rfl⟩
                  simp only [addEnt]
                  apply loose_is
                  · intro W vals hW hkn
                    clear hkn
                    refine ⟨?_⟩
                    simp only [fill]
                    go_simp
                    first | exact ⟨Keeps.refl _ _, rfl⟩ | exact ⟨Keeps.alloc _ _, rfl⟩
                  simp only [addEnt]
                  apply loose_is
                  · intro W vals hW hkn
                    clear hkn
                    refine ⟨?_⟩
                    simp only [fill]
                    go_simp
                    first | exact ⟨Keeps.refl _ _, rfl⟩ | exact ⟨Keeps.alloc _ _, rfl⟩
                  simp only [addEnt]
                  apply loose_is
                  · intro W vals hW hkn
                    clear hkn
                    refine ⟨?_⟩
                    simp only [fill]
                    go_simp
                    first | exact ⟨Keeps.refl _ _, rfl⟩ | exact ⟨Keeps.alloc _ _, rfl⟩
                  simp only [addEnt]
                  apply loose_is
                  · intro W vals hW hkn
                    clear hkn
                    refine ⟨?_⟩
                    simp only [fill]
                    go_simp
                    refine looseUpon_calls ?_
                    exact (rMay_any W y).mono (by rintro e w3 ⟨rfl, rfl⟩; exact ⟨_, rfl, Keeps.refl _ _, (by rw [HMB.out])⟩)
                  simp only [addEnt]
                  apply loose_is
                  · intro W vals hW hkn
                    clear hkn
                    refine ⟨?_⟩
                    simp only [fill]
                    go_simp
                    first | exact ⟨Keeps.refl _ _, rfl⟩ | exact ⟨Keeps.alloc _ _, rfl⟩
                  simp only [addEnt]
                  apply loose_is
                  · intro W vals hW hkn
                    clear hkn
                    refine ⟨?_⟩
                    simp only [fill]
                    go_simp
                    first | exact ⟨Keeps.refl _ _, rfl⟩ | exact ⟨Keeps.alloc _ _, rfl⟩
                  simp only [addEnt]
                  refine loose_off (fun vals => by kernel_rfl) ?_
                  simp only [addEnt]
                  refine loose_off (fun vals => by kernel_rfl) ?_
                  simp only [addEnt]
                  refine loose_off (fun vals => by kernel_rfl) ?_
                  simp only [addEnt]
                  refine loose_off (fun vals => by kernel_rfl) ?_
                  simp only [addEnt]
                  refine loose_off (fun vals => by kernel_rfl) ?_
                  simp only [addEnt]
                  refine loose_off (fun vals => by kernel_rfl) ?_
                  simp only [addEnt]
                  apply loose_is
                  · intro W vals hW hkn
                    clear hkn
                    refine ⟨?_⟩
                    simp only [fill]
                    go_simp
                    first | exact ⟨Keeps.refl _ _, rfl⟩ | exact ⟨Keeps.alloc _ _, rfl⟩
                  simp only [addEnt]
                  refine loose_nil (fun W vals hW hkn => ?_)
                  simp only [knowsAll] at hkn
                  try simp only [and_true] at hkn
                  simp only [fill, Act.put, List.setIfInBounds_toArray, List.set_cons_succ, List.set_cons_zero]
                  clear hkn
                  have HZ := Lib.hid hW
                  clear hW
                  go_wp2_with fail
                  exact ⟨⟨1 + 1, by omega, by omega, by go_num, Lib.hid (HR.out.next HN.out HZ.out)⟩, by simp [intOf]⟩
        · have HN := Lib.hid (rLead_no HT.out.1 HT.out.2 (by omega) (show ¬ (uLead 1 ≤ a.toNat ∧ a.toNat < uMost 1) from hr))
          have hat2 := a.toNat_lt
          have hbb : (decide ((a.toNat : Int) < 0) || decide ((a.toNat : Int) ≥ 128)) = true := by simp; omega
          clear hat hl hr
          go_wp2_with fail
          all_goals exact ⟨⟨1 + 1, by omega, by omega, by go_num, Lib.hid (HR.out.next HN.out (Keeps.refl _ _))⟩, by simp [intOf]⟩
    · skip
      by_cases hl : s.length < 2
      · have hlb : decide ((2 : Int) ≤ s.length) = false := decide_eq_false (by omega)
        have HL := Lib.hid hl
        clear hl
        go_wp2_with fail
        go_ret2
        have hu : uFirst s = 0 := uFirst_none (fun j h1 h2 h3 => by
          have := HL.out
          rcases Nat.lt_or_ge j 2 with h | h
          · exact HR.out.n j h1 h h3
          · omega)
        exact ⟨0, by rw [hu]; rfl, fun h => absurd hu h, HR.out.k⟩
      · have hlb : decide ((2 : Int) ≤ s.length) = true := decide_eq_true (by omega)
        have hpos : 0 < s.length := by omega
        obtain ⟨a, t, hat⟩ : ∃ a t, s = a :: t := by
          cases s with
          | nil => simp at hpos
          | cons a t => exact ⟨a, t, rfl⟩
        have HT := Lib.hid (And.intro hat (show 2 ≤ s.length by omega))
        have ha : ∀ h : 0 < S.size, S[0]'h = a := fun h => by
          rw [str_get HS.out.1 hpos h]
          simp [hat]
        by_cases hr : 192 ≤ a.toNat ∧ a.toNat < 224
        · obtain ⟨hr1, hr2⟩ := hr
          have f1 : decide ((a.toNat : Int) < 192) = false := decide_eq_false (by omega)
          have f2 : decide ((a.toNat : Int) ≥ 224) = false := decide_eq_false (by omega)
          have f3 : decide ((224 : Int) ≤ a.toNat) = false := decide_eq_false (by omega)
          obtain ⟨x, hx⟩ : ∃ x, a.toNat - 192 = x := ⟨_, rfl⟩
          have hxi : ((a.toNat : Int) - 192) = x := by omega
          have HX := Lib.hid hx
          have hx255 : x ≤ 255 := by have := a.toNat_lt; omega
          have HA := Lib.hid (And.intro hr1 hr2)
          clear hat hl hx hr1 hr2
          go_wp2_with fail
          go_loopw [8, 9] (fun r i W => ∃ m y : Nat, 1 ≤ m ∧ m ≤ 2 ∧ i = .int .i64 m ∧ r = .int .i32 (y : Int) ∧ Hid (y = uMore x ((s.take m).drop 1) ∧ wr = W)) (fun _ i _ => 2 - (intOf i).toNat)
          case atStart => exact ⟨1, x, by omega, by omega, rfl, by congr 1 <;> omega, Lib.hid ⟨by rw [HT.out.1]; rfl, rfl⟩⟩
          case round =>
            obtain ⟨m, y, hm1, hm, rfl, rfl, HM⟩ := hrel
            obtain ⟨hy, rfl⟩ := HM.out
            have hlt2 := uMore_lt x ((s.take m).drop 1)
            rw [← hy, List.length_drop, List.length_take] at hlt2
            by_cases hmk : m < 2
            · skip
              have hmk' : decide ((m : Int) < 2) = true := decide_eq_true (by omega)
              have hms : m < s.length := by have := HT.out.2; omega
              have hyl : y < 33554432 := by
                refine Nat.lt_of_lt_of_le hlt2 ?_
                refine Nat.le_trans (Nat.mul_le_mul (show x + 1 ≤ 256 by omega) (Nat.pow_le_pow_right (by omega) (show min m s.length - 1 ≤ 2 by omega))) ?_
                omega
              obtain ⟨c, hc⟩ : ∃ c, s[m] = c := ⟨_, rfl⟩
              have ix : ∀ h : m < S.size, S[m]'h = c := fun h => by rw [str_get HS.out.1 hms h, hc]
              have HNX := Lib.hid (rMore_step (x := x) hm1 hms hc hy)
              obtain ⟨d, hd⟩ : ∃ d, c.toNat % 64 = d := ⟨_, rfl⟩
              have hd64 : d < 64 := by omega
              have ht : (c.toNat : Int).tmod 64 = (d : Int) := by rw [Int.tmod_eq_emod_of_nonneg (by omega)]; omega
              rw [hd] at HNX
              have hsz2 : (m : Int) < s.length := by omega
              have hyd := Lib.hid (show Value.int .i32 (RowKit.wrap32 (64 * (y : Int) + RowKit.wrap32 ((RowKit.wrap64 (c.toNat : Int)).tmod 64))) = Value.int .i32 ((64 * y + d : Nat) : Int) by
                rw [show RowKit.wrap64 (c.toNat : Int) = c.toNat by unfold RowKit.wrap64; have := c.toNat_lt; omega, ht, show RowKit.wrap32 (d : Int) = d by unfold RowKit.wrap32; omega, show RowKit.wrap32 (64 * (y : Int) + d) = 64 * y + d by unfold RowKit.wrap32; omega]
                congr 1)
              clear hlt2 hc hd hy HM ht
              go_wp2_with fail
              all_goals exact ⟨⟨m + 1, 64 * y + d, by omega, by omega, by go_num, hyd.out, Lib.hid ⟨HNX.out, trivial⟩⟩, by simp [intOf]; omega⟩
            · obtain rfl : m = 2 := by omega
              have HY := Lib.hid (show y = uDec (s.take 2) by
                rw [hy]
                exact rDec_more HT.out.1 HT.out.2 (by omega) HX.out)
              have hyl : y ≤ 2147483647 := by
                refine Nat.le_trans (Nat.le_of_lt hlt2) ?_
                refine Nat.le_trans (Nat.mul_le_mul (show x + 1 ≤ 256 by omega) (Nat.pow_le_pow_right (by omega) (show min 2 s.length - 1 ≤ 3 by omega))) ?_
                omega
              clear hlt2 hy HM
              have HIT := Lib.hid (show (uMay y ∧ uRaw y = s.take 2) ↔ uHit (s.take 2) by rw [HY.out]; exact uHit_iff.symm)
              have hks : (2 : Int) ≤ s.length := by have := HT.out.2; omega
              go_wp2_with fail
              by_cases hy0 : y = 0
              · have HN := Lib.hid (show ¬ uHit (s.take 2) from fun h => by have := (HIT.out.2 h).1.1; omega)
                subst hy0
                refine wp_region_keeps _ (by kernel_rfl) rfl (by kernel_rfl) ?_
                apply loose_is
                · intro W vals hW hkn
                  clear hkn
                  refine ⟨?_⟩
                  simp only [fill]
                  go_simp
                  first | exact ⟨Keeps.refl _ _, rfl⟩ | exact ⟨Keeps.alloc _ _, rfl⟩
                simp only [addEnt]
                apply loose_is
                · intro W vals hW hkn
                  clear hkn
                  refine ⟨?_⟩
                  simp only [fill]
                  go_simp
                  first | exact ⟨Keeps.refl _ _, rfl⟩ | exact ⟨Keeps.alloc _ _, rfl⟩
                simp only [addEnt]
                apply loose_is
                · intro W vals hW hkn
                  clear hkn
                  refine ⟨?_⟩
                  simp only [fill]
                  go_simp
                  first | exact ⟨Keeps.refl _ _, rfl⟩ | exact ⟨Keeps.alloc _ _, rfl⟩
                simp only [addEnt]
                refine loose_off (fun vals => by kernel_rfl) ?_
                simp only [addEnt]
                refine loose_off (fun vals => by kernel_rfl) ?_
                simp only [addEnt]
                apply loose_is
                · intro W vals hW hkn
                  clear hkn
                  refine ⟨?_⟩
                  simp only [fill]
                  go_simp
                  first | exact ⟨Keeps.refl _ _, rfl⟩ | exact ⟨Keeps.alloc _ _, rfl⟩
                simp only [addEnt]
                apply loose_is
                · intro W vals hW hkn
                  clear hkn
                  refine ⟨?_⟩
                  simp only [fill]
                  go_simp
                  first | exact ⟨Keeps.refl _ _, rfl⟩ | exact ⟨Keeps.alloc _ _, rfl⟩
                simp only [addEnt]
                refine loose_off (fun vals => by kernel_rfl) ?_
                simp only [addEnt]
                refine loose_off (fun vals => by kernel_rfl) ?_
                simp only [addEnt]
                refine loose_off (fun vals => by kernel_rfl) ?_
                simp only [addEnt]
                refine loose_off (fun vals => by kernel_rfl) ?_
                simp only [addEnt]
                refine loose_off (fun vals => by kernel_rfl) ?_
                simp only [addEnt]
                refine loose_off (fun vals => by kernel_rfl) ?_
                simp only [addEnt]
                apply loose_is
                · intro W vals hW hkn
                  clear hkn
                  refine ⟨?_⟩
                  simp only [fill]
                  go_simp
                  first | exact ⟨Keeps.refl _ _, rfl⟩ | exact ⟨Keeps.alloc _ _, rfl⟩
                simp only [addEnt]
                refine loose_nil (fun W vals hW hkn => ?_)
                simp only [knowsAll] at hkn
                try simp only [and_true] at hkn
                simp only [fill, Act.put, List.setIfInBounds_toArray, List.set_cons_succ, List.set_cons_zero]
                clear hkn
                have HZ := Lib.hid hW
                clear hW
                go_wp2_with fail
                exact ⟨⟨2 + 1, by omega, by omega, by go_num, Lib.hid (HR.out.next HN.out HZ.out)⟩, by simp [intOf]⟩
              · have hyp : 0 < y := by omega
                by_cases hm : uMay y
                · have HM0 := Lib.hid hm
                  have hmb : rMayB y = true := by
                    unfold rMayB
                    have := hm.2
                    simp only [Bool.or_eq_true, Bool.and_eq_true, decide_eq_true_eq]
                    exact this
                  obtain ⟨S2, hS2⟩ : ∃ S2 : ByteArray, (⟨(uRaw y).toArray⟩ : ByteArray) = S2 := ⟨_, rfl⟩
                  obtain ⟨S3, hS3⟩ : ∃ S3, S.extract 0 2 = S3 := ⟨_, rfl⟩
                  have e2 : S2.toList = uRaw y := by rw [← hS2, Lib.toList_data]
                  have e3 : S3.toList = s.take 2 := by rw [← hS3, ← HS.out.1, str_cut, Lib.toList_data]; simp
                  obtain ⟨fb, hfb⟩ : ∃ fb : Bool, fb = decide (uRaw y = s.take 2) := ⟨_, rfl⟩
                  have hcmp : (S2.toList == S3.toList) = fb := by
                    rw [e2, e3, hfb, Bool.eq_iff_iff]
                    simp
                  have HF := Lib.hid hfb
                  have HS2 := Lib.hid hS2
                  have HMB := Lib.hid hmb
                  clear hm e2 e3 hfb hS2 hmb
                  refine wp_region_keeps _ (by kernel_rfl) rfl (by kernel_rfl) ?_
                  apply loose_is
                  · intro W vals hW hkn
                    clear hkn
                    refine ⟨?_⟩
                    simp only [fill]
                    go_simp
                    first | exact ⟨Keeps.refl _ _, rfl⟩ | exact ⟨Keeps.alloc _ _, rfl⟩
                  simp only [addEnt]
                  apply loose_is
                  · intro W vals hW hkn
                    clear hkn
                    refine ⟨?_⟩
                    simp only [fill]
                    go_simp
                    first | exact ⟨Keeps.refl _ _, rfl⟩ | exact ⟨Keeps.alloc _ _, rfl⟩
                  simp only [addEnt]
                  apply loose_is
                  · intro W vals hW hkn
                    clear hkn
                    refine ⟨?_⟩
                    simp only [fill]
                    go_simp
                    first | exact ⟨Keeps.refl _ _, rfl⟩ | exact ⟨Keeps.alloc _ _, rfl⟩
                  simp only [addEnt]
                  apply loose_is
                  · intro W vals hW hkn
                    clear hkn
                    refine ⟨?_⟩
                    simp only [fill]
                    go_simp
                    first | exact ⟨Keeps.refl _ _, rfl⟩ | exact ⟨Keeps.alloc _ _, rfl⟩
                  simp only [addEnt]
                  apply loose_is
                  · intro W vals hW hkn
                    clear hkn
                    refine ⟨?_⟩
                    simp only [fill]
                    go_simp
                    refine looseUpon_calls ?_
                    exact (rMay_any W y).mono (by rintro e w3 ⟨rfl, rfl⟩; exact ⟨_, rfl, Keeps.refl _ _, (by rw [HMB.out])⟩)
                  simp only [addEnt]
                  apply loose_is
                  · intro W vals hW hkn
                    clear hkn
                    refine ⟨?_⟩
                    simp only [fill]
                    go_simp
                    first | exact ⟨Keeps.refl _ _, rfl⟩ | exact ⟨Keeps.alloc _ _, rfl⟩
                  simp only [addEnt]
                  apply loose_is
                  · intro W vals hW hkn
                    clear hkn
                    refine ⟨?_⟩
                    simp only [fill]
                    go_simp
                    first | exact ⟨Keeps.refl _ _, rfl⟩ | exact ⟨Keeps.alloc _ _, rfl⟩
                  simp only [addEnt]
                  apply loose_is
                  · intro W vals hW hkn
                    clear hkn
                    refine ⟨?_⟩
                    simp only [fill]
                    go_simp
                    first | exact ⟨Keeps.refl _ _, rfl⟩ | exact ⟨Keeps.alloc _ _, rfl⟩
                  simp only [addEnt]
                  apply loose_is
                  · intro W vals hW hkn
                    clear hkn
                    refine ⟨?_⟩
                    simp only [fill]
                    go_simp
                    refine looseUpon_calls ?_
                    exact (rRaw_any W y (by have := HM0.out.2; omega)).mono (by rintro e w3 ⟨rfl, hk⟩; exact ⟨_, rfl, hk, (by rw [HS2.out])⟩)
                  simp only [addEnt]
                  apply loose_is
                  · intro W vals hW hkn
                    clear hkn
                    refine ⟨?_⟩
                    simp only [fill]
                    go_simp
                    first | exact ⟨Keeps.refl _ _, rfl⟩ | exact ⟨Keeps.alloc _ _, rfl⟩
                  simp only [addEnt]
                  apply loose_is
                  · intro W vals hW hkn
                    clear hkn
                    refine ⟨?_⟩
                    simp only [fill]
                    go_simp
                    first | exact ⟨Keeps.refl _ _, rfl⟩ | exact ⟨Keeps.alloc _ _, rfl⟩
                  simp only [addEnt]
                  apply loose_is
                  · intro W vals hW hkn
                    clear hkn
                    refine ⟨?_⟩
                    simp only [fill]
                    go_simp
                    first | exact ⟨Keeps.refl _ _, rfl⟩ | exact ⟨Keeps.alloc _ _, rfl⟩
                  simp only [addEnt]
                  apply loose_is
                  · intro W vals hW hkn
                    clear hkn
                    refine ⟨?_⟩
                    simp only [fill]
                    go_simp
                    first | exact ⟨Keeps.refl _ _, rfl⟩ | exact ⟨Keeps.alloc _ _, rfl⟩
                  simp only [addEnt]
                  apply loose_is
                  · intro W vals hW hkn
                    clear hkn
                    refine ⟨?_⟩
                    simp only [fill]
                    go_simp
                    first | exact ⟨Keeps.refl _ _, rfl⟩ | exact ⟨Keeps.alloc _ _, rfl⟩
                  simp only [addEnt]
                  refine loose_nil (fun W vals hW hkn => ?_)
                  simp only [knowsAll] at hkn
                  try simp only [and_true] at hkn
                  simp only [fill, Act.put, List.setIfInBounds_toArray, List.set_cons_succ, List.set_cons_zero]
                  clear hkn
                  have HZ := Lib.hid hW
                  clear hW
                  cases fb with
                  | true =>
                    go_wp2_with fail
                    go_ret2
                    have hu : uFirst s = 2 := uFirst_hit (by omega) (by omega) (fun j h1 h2 => HR.out.n j h1 h2) ⟨HT.out.2, HIT.out.1 ⟨HM0.out, of_decide_eq_true HF.out.symm⟩⟩
                    exact ⟨y, by rw [hu]; rfl, fun _ => by rw [hu]; exact HY.out, HR.out.k.then_ HZ.out⟩
                  | false =>
                    have HN := Lib.hid (show ¬ uHit (s.take 2) from fun h => by
                      have e := (HIT.out.2 h).2
                      have f := HF.out
                      rw [decide_eq_true e] at f
                      cases f)
                    go_wp2_with fail
                    exact ⟨⟨2 + 1, by omega, by omega, by go_num, Lib.hid (HR.out.next HN.out HZ.out)⟩, by simp [intOf]⟩
                · have HN := Lib.hid (show ¬ uHit (s.take 2) from fun h => hm (HIT.out.2 h).1)
                  have hmb : rMayB y = false := by
                    rw [← Bool.not_eq_true]
                    unfold rMayB
                    simp only [Bool.or_eq_true, Bool.and_eq_true, decide_eq_true_eq]
                    exact fun h => hm ⟨by omega, h⟩
                  have HMB := Lib.hid hmb
                  clear hm hmb
                  refine wp_region_keeps _ (by kernel_rfl) rfl (by kernel_rfl) ?_
                  apply loose_is
                  · intro W vals hW hkn
                    clear hkn
                    refine ⟨?_⟩
                    simp only [fill]
                    go_simp
                    first | exact ⟨Keeps.refl _ _, rfl⟩ | exact ⟨Keeps.alloc _ _, rfl⟩
                  simp only [addEnt]
                  apply loose_is
                  · intro W vals hW hkn
                    clear hkn
                    refine ⟨?_⟩
                    simp only [fill]
                    go_simp
                    first | exact ⟨Keeps.refl _ _, rfl⟩ | exact ⟨Keeps.alloc _ _, rfl⟩
                  simp only [addEnt]
                  apply loose_is
                  · intro W vals hW hkn
                    clear hkn
                    refine ⟨?_⟩
                    simp only [fill]
                    go_simp
                    first | exact ⟨Keeps.refl _ _, rfl⟩ | exact ⟨Keeps.alloc _ _, rfl⟩
                  simp only [addEnt]
                  apply loose_is
                  · intro W vals hW hkn
                    clear hkn
                    refine ⟨?_⟩
                    simp only [fill]
                    go_simp
                    first | exact ⟨Keeps.refl _ _, rfl⟩ | exact ⟨Keeps.alloc _ _, rfl⟩
                  simp only [addEnt]
                  apply loose_is
                  · intro W vals hW hkn
                    clear hkn
                    refine ⟨?_⟩
                    simp only [fill]
                    go_simp
                    refine looseUpon_calls ?_
                    exact (rMay_any W y).mono (by rintro e w3 ⟨rfl, rfl⟩; exact ⟨_, rfl, Keeps.refl _ _, (by rw [HMB.out])⟩)
                  simp only [addEnt]
                  apply loose_is
                  · intro W vals hW hkn
                    clear hkn
                    refine ⟨?_⟩
                    simp only [fill]
                    go_simp
                    first | exact ⟨Keeps.refl _ _, rfl⟩ | exact ⟨Keeps.alloc _ _, rfl⟩
                  simp only [addEnt]
                  apply loose_is
                  · intro W vals hW hkn
                    clear hkn
                    refine ⟨?_⟩
                    simp only [fill]
                    go_simp
                    first | exact ⟨Keeps.refl _ _, rfl⟩ | exact ⟨Keeps.alloc _ _, rfl⟩
                  simp only [addEnt]
                  refine loose_off (fun vals => by kernel_rfl) ?_
                  simp only [addEnt]
                  refine loose_off (fun vals => by kernel_rfl) ?_
                  simp only [addEnt]
                  refine loose_off (fun vals => by kernel_rfl) ?_
                  simp only [addEnt]
                  refine loose_off (fun vals => by kernel_rfl) ?_
                  simp only [addEnt]
                  refine loose_off (fun vals => by kernel_rfl) ?_
                  simp only [addEnt]
                  refine loose_off (fun vals => by kernel_rfl) ?_
                  simp only [addEnt]
                  apply loose_is
                  · intro W vals hW hkn
                    clear hkn
                    refine ⟨?_⟩
                    simp only [fill]
                    go_simp
                    first | exact ⟨Keeps.refl _ _, rfl⟩ | exact ⟨Keeps.alloc _ _, rfl⟩
                  simp only [addEnt]
                  refine loose_nil (fun W vals hW hkn => ?_)
                  simp only [knowsAll] at hkn
                  try simp only [and_true] at hkn
                  simp only [fill, Act.put, List.setIfInBounds_toArray, List.set_cons_succ, List.set_cons_zero]
                  clear hkn
                  have HZ := Lib.hid hW
                  clear hW
                  go_wp2_with fail
                  exact ⟨⟨2 + 1, by omega, by omega, by go_num, Lib.hid (HR.out.next HN.out HZ.out)⟩, by simp [intOf]⟩
        · have HN := Lib.hid (rLead_no HT.out.1 HT.out.2 (by omega) (show ¬ (uLead 2 ≤ a.toNat ∧ a.toNat < uMost 2) from hr))
          have hat2 := a.toNat_lt
          have hbb : (decide ((a.toNat : Int) < 192) || decide ((a.toNat : Int) ≥ 224)) = true := by simp; omega
          clear hat hl hr
          go_wp2_with fail
          all_goals exact ⟨⟨2 + 1, by omega, by omega, by go_num, Lib.hid (HR.out.next HN.out (Keeps.refl _ _))⟩, by simp [intOf]⟩
    · skip
      by_cases hl : s.length < 3
      · have hlb : decide ((3 : Int) ≤ s.length) = false := decide_eq_false (by omega)
        have HL := Lib.hid hl
        clear hl
        go_wp2_with fail
        go_ret2
        have hu : uFirst s = 0 := uFirst_none (fun j h1 h2 h3 => by
          have := HL.out
          rcases Nat.lt_or_ge j 3 with h | h
          · exact HR.out.n j h1 h h3
          · omega)
        exact ⟨0, by rw [hu]; rfl, fun h => absurd hu h, HR.out.k⟩
      · have hlb : decide ((3 : Int) ≤ s.length) = true := decide_eq_true (by omega)
        have hpos : 0 < s.length := by omega
        obtain ⟨a, t, hat⟩ : ∃ a t, s = a :: t := by
          cases s with
          | nil => simp at hpos
          | cons a t => exact ⟨a, t, rfl⟩
        have HT := Lib.hid (And.intro hat (show 3 ≤ s.length by omega))
        have ha : ∀ h : 0 < S.size, S[0]'h = a := fun h => by
          rw [str_get HS.out.1 hpos h]
          simp [hat]
        by_cases hr : 224 ≤ a.toNat ∧ a.toNat < 240
        · obtain ⟨hr1, hr2⟩ := hr
          have f1 : decide ((a.toNat : Int) < 224) = false := decide_eq_false (by omega)
          have f2 : decide ((a.toNat : Int) ≥ 240) = false := decide_eq_false (by omega)
          have f3 : decide ((240 : Int) ≤ a.toNat) = false := decide_eq_false (by omega)
          obtain ⟨x, hx⟩ : ∃ x, a.toNat - 224 = x := ⟨_, rfl⟩
          have hxi : ((a.toNat : Int) - 224) = x := by omega
          have HX := Lib.hid hx
          have hx255 : x ≤ 255 := by have := a.toNat_lt; omega
          have HA := Lib.hid (And.intro hr1 hr2)
          clear hat hl hx hr1 hr2
          go_wp2_with fail
          go_loopw [8, 9] (fun r i W => ∃ m y : Nat, 1 ≤ m ∧ m ≤ 3 ∧ i = .int .i64 m ∧ r = .int .i32 (y : Int) ∧ Hid (y = uMore x ((s.take m).drop 1) ∧ wr = W)) (fun _ i _ => 3 - (intOf i).toNat)
          case atStart => exact ⟨1, x, by omega, by omega, rfl, by congr 1 <;> omega, Lib.hid ⟨by rw [HT.out.1]; rfl, rfl⟩⟩
          case round =>
            obtain ⟨m, y, hm1, hm, rfl, rfl, HM⟩ := hrel
            obtain ⟨hy, rfl⟩ := HM.out
            have hlt2 := uMore_lt x ((s.take m).drop 1)
            rw [← hy, List.length_drop, List.length_take] at hlt2
            by_cases hmk : m < 3
            · skip
              have hmk' : decide ((m : Int) < 3) = true := decide_eq_true (by omega)
              have hms : m < s.length := by have := HT.out.2; omega
              have hyl : y < 33554432 := by
                refine Nat.lt_of_lt_of_le hlt2 ?_
                refine Nat.le_trans (Nat.mul_le_mul (show x + 1 ≤ 256 by omega) (Nat.pow_le_pow_right (by omega) (show min m s.length - 1 ≤ 2 by omega))) ?_
                omega
              obtain ⟨c, hc⟩ : ∃ c, s[m] = c := ⟨_, rfl⟩
              have ix : ∀ h : m < S.size, S[m]'h = c := fun h => by rw [str_get HS.out.1 hms h, hc]
              have HNX := Lib.hid (rMore_step (x := x) hm1 hms hc hy)
              obtain ⟨d, hd⟩ : ∃ d, c.toNat % 64 = d := ⟨_, rfl⟩
              have hd64 : d < 64 := by omega
              have ht : (c.toNat : Int).tmod 64 = (d : Int) := by rw [Int.tmod_eq_emod_of_nonneg (by omega)]; omega
              rw [hd] at HNX
              have hsz2 : (m : Int) < s.length := by omega
              have hyd := Lib.hid (show Value.int .i32 (RowKit.wrap32 (64 * (y : Int) + RowKit.wrap32 ((RowKit.wrap64 (c.toNat : Int)).tmod 64))) = Value.int .i32 ((64 * y + d : Nat) : Int) by
                rw [show RowKit.wrap64 (c.toNat : Int) = c.toNat by unfold RowKit.wrap64; have := c.toNat_lt; omega, ht, show RowKit.wrap32 (d : Int) = d by unfold RowKit.wrap32; omega, show RowKit.wrap32 (64 * (y : Int) + d) = 64 * y + d by unfold RowKit.wrap32; omega]
                congr 1)
              clear hlt2 hc hd hy HM ht
              go_wp2_with fail
              all_goals exact ⟨⟨m + 1, 64 * y + d, by omega, by omega, by go_num, hyd.out, Lib.hid ⟨HNX.out, trivial⟩⟩, by simp [intOf]; omega⟩
            · obtain rfl : m = 3 := by omega
              have HY := Lib.hid (show y = uDec (s.take 3) by
                rw [hy]
                exact rDec_more HT.out.1 HT.out.2 (by omega) HX.out)
              have hyl : y ≤ 2147483647 := by
                refine Nat.le_trans (Nat.le_of_lt hlt2) ?_
                refine Nat.le_trans (Nat.mul_le_mul (show x + 1 ≤ 256 by omega) (Nat.pow_le_pow_right (by omega) (show min 3 s.length - 1 ≤ 3 by omega))) ?_
                omega
              clear hlt2 hy HM
              have HIT := Lib.hid (show (uMay y ∧ uRaw y = s.take 3) ↔ uHit (s.take 3) by rw [HY.out]; exact uHit_iff.symm)
              have hks : (3 : Int) ≤ s.length := by have := HT.out.2; omega
              go_wp2_with fail
              by_cases hy0 : y = 0
              · have HN := Lib.hid (show ¬ uHit (s.take 3) from fun h => by have := (HIT.out.2 h).1.1; omega)
                subst hy0
                refine wp_region_keeps _ (by kernel_rfl) rfl (by kernel_rfl) ?_
                apply loose_is
                · intro W vals hW hkn
                  clear hkn
                  refine ⟨?_⟩
                  simp only [fill]
                  go_simp
                  first | exact ⟨Keeps.refl _ _, rfl⟩ | exact ⟨Keeps.alloc _ _, rfl⟩
                simp only [addEnt]
                apply loose_is
                · intro W vals hW hkn
                  clear hkn
                  refine ⟨?_⟩
                  simp only [fill]
                  go_simp
                  first | exact ⟨Keeps.refl _ _, rfl⟩ | exact ⟨Keeps.alloc _ _, rfl⟩
                simp only [addEnt]
                apply loose_is
                · intro W vals hW hkn
                  clear hkn
                  refine ⟨?_⟩
                  simp only [fill]
                  go_simp
                  first | exact ⟨Keeps.refl _ _, rfl⟩ | exact ⟨Keeps.alloc _ _, rfl⟩
                simp only [addEnt]
                refine loose_off (fun vals => by kernel_rfl) ?_
                simp only [addEnt]
                refine loose_off (fun vals => by kernel_rfl) ?_
                simp only [addEnt]
                apply loose_is
                · intro W vals hW hkn
                  clear hkn
                  refine ⟨?_⟩
                  simp only [fill]
                  go_simp
                  first | exact ⟨Keeps.refl _ _, rfl⟩ | exact ⟨Keeps.alloc _ _, rfl⟩
                simp only [addEnt]
                apply loose_is
                · intro W vals hW hkn
                  clear hkn
                  refine ⟨?_⟩
                  simp only [fill]
                  go_simp
                  first | exact ⟨Keeps.refl _ _, rfl⟩ | exact ⟨Keeps.alloc _ _, rfl⟩
                simp only [addEnt]
                refine loose_off (fun vals => by kernel_rfl) ?_
                simp only [addEnt]
                refine loose_off (fun vals => by kernel_rfl) ?_
                simp only [addEnt]
                refine loose_off (fun vals => by kernel_rfl) ?_
                simp only [addEnt]
                refine loose_off (fun vals => by kernel_rfl) ?_
                simp only [addEnt]
                refine loose_off (fun vals => by kernel_rfl) ?_
                simp only [addEnt]
                refine loose_off (fun vals => by kernel_rfl) ?_
                simp only [addEnt]
                apply loose_is
                · intro W vals hW hkn
                  clear hkn
                  refine ⟨?_⟩
                  simp only [fill]
                  go_simp
                  first | exact ⟨Keeps.refl _ _, rfl⟩ | exact ⟨Keeps.alloc _ _, rfl⟩
                simp only [addEnt]
                refine loose_nil (fun W vals hW hkn => ?_)
                simp only [knowsAll] at hkn
                try simp only [and_true] at hkn
                simp only [fill, Act.put, List.setIfInBounds_toArray, List.set_cons_succ, List.set_cons_zero]
                clear hkn
                have HZ := Lib.hid hW
                clear hW
                go_wp2_with fail
                exact ⟨⟨3 + 1, by omega, by omega, by go_num, Lib.hid (HR.out.next HN.out HZ.out)⟩, by simp [intOf]⟩
              · have hyp : 0 < y := by omega
                by_cases hm : uMay y
                · have HM0 := Lib.hid hm
                  have hmb : rMayB y = true := by
                    unfold rMayB
                    have := hm.2
                    simp only [Bool.or_eq_true, Bool.and_eq_true, decide_eq_true_eq]
                    exact this
                  obtain ⟨S2, hS2⟩ : ∃ S2 : ByteArray, (⟨(uRaw y).toArray⟩ : ByteArray) = S2 := ⟨_, rfl⟩
                  obtain ⟨S3, hS3⟩ : ∃ S3, S.extract 0 3 = S3 := ⟨_, rfl⟩
                  have e2 : S2.toList = uRaw y := by rw [← hS2, Lib.toList_data]
                  have e3 : S3.toList = s.take 3 := by rw [← hS3, ← HS.out.1, str_cut, Lib.toList_data]; simp
                  obtain ⟨fb, hfb⟩ : ∃ fb : Bool, fb = decide (uRaw y = s.take 3) := ⟨_, rfl⟩
                  have hcmp : (S2.toList == S3.toList) = fb := by
                    rw [e2, e3, hfb, Bool.eq_iff_iff]
                    simp
                  have HF := Lib.hid hfb
                  have HS2 := Lib.hid hS2
                  have HMB := Lib.hid hmb
                  clear hm e2 e3 hfb hS2 hmb
                  refine wp_region_keeps _ (by kernel_rfl) rfl (by kernel_rfl) ?_
                  apply loose_is
                  · intro W vals hW hkn
                    clear hkn
                    refine ⟨?_⟩
                    simp only [fill]
                    go_simp
                    first | exact ⟨Keeps.refl _ _, rfl⟩ | exact ⟨Keeps.alloc _ _, rfl⟩
                  simp only [addEnt]
                  apply loose_is
                  · intro W vals hW hkn
                    clear hkn
                    refine ⟨?_⟩
                    simp only [fill]
                    go_simp
                    first | exact ⟨Keeps.refl _ _, rfl⟩ | exact ⟨Keeps.alloc _ _, rfl⟩
                  simp only [addEnt]
                  apply loose_is
                  · intro W vals hW hkn
                    clear hkn
                    refine ⟨?_⟩
                    simp only [fill]
                    go_simp
                    first | exact ⟨Keeps.refl _ _, rfl⟩ | exact ⟨Keeps.alloc _ _, rfl⟩
                  simp only [addEnt]
                  apply loose_is
                  · intro W vals hW hkn
                    clear hkn
                    refine ⟨?_⟩
                    simp only [fill]
                    go_simp
                    first | exact ⟨Keeps.refl _ _, rfl⟩ | exact ⟨Keeps.alloc _ _, rfl⟩
                  simp only [addEnt]
                  apply loose_is
                  · intro W vals hW hkn
                    clear hkn
                    refine ⟨?_⟩
                    simp only [fill]
                    go_simp
                    refine looseUpon_calls ?_
                    exact (rMay_any W y).mono (by rintro e w3 ⟨rfl, rfl⟩; exact ⟨_, rfl, Keeps.refl _ _, (by rw [HMB.out])⟩)
                  simp only [addEnt]
                  apply loose_is
                  · intro W vals hW hkn
                    clear hkn
                    refine ⟨?_⟩
                    simp only [fill]
                    go_simp
                    first | exact ⟨Keeps.refl _ _, rfl⟩ | exact ⟨Keeps.alloc _ _, rfl⟩
                  simp only [addEnt]
                  apply loose_is
                  · intro W vals hW hkn
                    clear hkn
                    refine ⟨?_⟩
                    simp only [fill]
                    go_simp
                    first | exact ⟨Keeps.refl _ _, rfl⟩ | exact ⟨Keeps.alloc _ _, rfl⟩
                  simp only [addEnt]
                  apply loose_is
                  · intro W vals hW hkn
                    clear hkn
                    refine ⟨?_⟩
                    simp only [fill]
                    go_simp
                    first | exact ⟨Keeps.refl _ _, rfl⟩ | exact ⟨Keeps.alloc _ _, rfl⟩
                  simp only [addEnt]
                  apply loose_is
                  · intro W vals hW hkn
                    clear hkn
                    refine ⟨?_⟩
                    simp only [fill]
                    go_simp
                    refine looseUpon_calls ?_
                    exact (rRaw_any W y (by have := HM0.out.2; omega)).mono (by rintro e w3 ⟨rfl, hk⟩; exact ⟨_, rfl, hk, (by rw [HS2.out])⟩)
                  simp only [addEnt]
                  apply loose_is
                  · intro W vals hW hkn
                    clear hkn
                    refine ⟨?_⟩
                    simp only [fill]
                    go_simp
                    first | exact ⟨Keeps.refl _ _, rfl⟩ | exact ⟨Keeps.alloc _ _, rfl⟩
                  simp only [addEnt]
                  apply loose_is
                  · intro W vals hW hkn
                    clear hkn
                    refine ⟨?_⟩
                    simp only [fill]
                    go_simp
                    first | exact ⟨Keeps.refl _ _, rfl⟩ | exact ⟨Keeps.alloc _ _, rfl⟩
                  simp only [addEnt]
                  apply loose_is
                  · intro W vals hW hkn
                    clear hkn
                    refine ⟨?_⟩
                    simp only [fill]
                    go_simp
                    first | exact ⟨Keeps.refl _ _, rfl⟩ | exact ⟨Keeps.alloc _ _, rfl⟩
                  simp only [addEnt]
                  apply loose_is
                  · intro W vals hW hkn
                    clear hkn
                    refine ⟨?_⟩
                    simp only [fill]
                    go_simp
                    first | exact ⟨Keeps.refl _ _, rfl⟩ | exact ⟨Keeps.alloc _ _, rfl⟩
                  simp only [addEnt]
                  apply loose_is
                  · intro W vals hW hkn
                    clear hkn
                    refine ⟨?_⟩
                    simp only [fill]
                    go_simp
                    first | exact ⟨Keeps.refl _ _, rfl⟩ | exact ⟨Keeps.alloc _ _, rfl⟩
                  simp only [addEnt]
                  refine loose_nil (fun W vals hW hkn => ?_)
                  simp only [knowsAll] at hkn
                  try simp only [and_true] at hkn
                  simp only [fill, Act.put, List.setIfInBounds_toArray, List.set_cons_succ, List.set_cons_zero]
                  clear hkn
                  have HZ := Lib.hid hW
                  clear hW
                  cases fb with
                  | true =>
                    go_wp2_with fail
                    go_ret2
                    have hu : uFirst s = 3 := uFirst_hit (by omega) (by omega) (fun j h1 h2 => HR.out.n j h1 h2) ⟨HT.out.2, HIT.out.1 ⟨HM0.out, of_decide_eq_true HF.out.symm⟩⟩
                    exact ⟨y, by rw [hu]; rfl, fun _ => by rw [hu]; exact HY.out, HR.out.k.then_ HZ.out⟩
                  | false =>
                    have HN := Lib.hid (show ¬ uHit (s.take 3) from fun h => by
                      have e := (HIT.out.2 h).2
                      have f := HF.out
                      rw [decide_eq_true e] at f
                      cases f)
                    go_wp2_with fail
                    exact ⟨⟨3 + 1, by omega, by omega, by go_num, Lib.hid (HR.out.next HN.out HZ.out)⟩, by simp [intOf]⟩
                · have HN := Lib.hid (show ¬ uHit (s.take 3) from fun h => hm (HIT.out.2 h).1)
                  have hmb : rMayB y = false := by
                    rw [← Bool.not_eq_true]
                    unfold rMayB
                    simp only [Bool.or_eq_true, Bool.and_eq_true, decide_eq_true_eq]
                    exact fun h => hm ⟨by omega, h⟩
                  have HMB := Lib.hid hmb
                  clear hm hmb
                  refine wp_region_keeps _ (by kernel_rfl) rfl (by kernel_rfl) ?_
                  apply loose_is
                  · intro W vals hW hkn
                    clear hkn
                    refine ⟨?_⟩
                    simp only [fill]
                    go_simp
                    first | exact ⟨Keeps.refl _ _, rfl⟩ | exact ⟨Keeps.alloc _ _, rfl⟩
                  simp only [addEnt]
                  apply loose_is
                  · intro W vals hW hkn
                    clear hkn
                    refine ⟨?_⟩
                    simp only [fill]
                    go_simp
                    first | exact ⟨Keeps.refl _ _, rfl⟩ | exact ⟨Keeps.alloc _ _, rfl⟩
                  simp only [addEnt]
                  apply loose_is
                  · intro W vals hW hkn
                    clear hkn
                    refine ⟨?_⟩
                    simp only [fill]
                    go_simp
                    first | exact ⟨Keeps.refl _ _, rfl⟩ | exact ⟨Keeps.alloc _ _, rfl⟩
                  simp only [addEnt]
                  apply loose_is
                  · intro W vals hW hkn
                    clear hkn
                    refine ⟨?_⟩
                    simp only [fill]
                    go_simp
                    first | exact ⟨Keeps.refl _ _, rfl⟩ | exact ⟨Keeps.alloc _ _, rfl⟩
                  simp only [addEnt]
                  apply loose_is
                  · intro W vals hW hkn
                    clear hkn
                    refine ⟨?_⟩
                    simp only [fill]
                    go_simp
                    refine looseUpon_calls ?_
                    exact (rMay_any W y).mono (by rintro e w3 ⟨rfl, rfl⟩; exact ⟨_, rfl, Keeps.refl _ _, (by rw [HMB.out])⟩)
                  simp only [addEnt]
                  apply loose_is
                  · intro W vals hW hkn
                    clear hkn
                    refine ⟨?_⟩
                    simp only [fill]
                    go_simp
                    first | exact ⟨Keeps.refl _ _, rfl⟩ | exact ⟨Keeps.alloc _ _, rfl⟩
                  simp only [addEnt]
                  apply loose_is
                  · intro W vals hW hkn
                    clear hkn
                    refine ⟨?_⟩
                    simp only [fill]
                    go_simp
                    first | exact ⟨Keeps.refl _ _, rfl⟩ | exact ⟨Keeps.alloc _ _, rfl⟩
                  simp only [addEnt]
                  refine loose_off (fun vals => by kernel_rfl) ?_
                  simp only [addEnt]
                  refine loose_off (fun vals => by kernel_rfl) ?_
                  simp only [addEnt]
                  refine loose_off (fun vals => by kernel_rfl) ?_
                  simp only [addEnt]
                  refine loose_off (fun vals => by kernel_rfl) ?_
                  simp only [addEnt]
                  refine loose_off (fun vals => by kernel_rfl) ?_
                  simp only [addEnt]
                  refine loose_off (fun vals => by kernel_rfl) ?_
                  simp only [addEnt]
                  apply loose_is
                  · intro W vals hW hkn
                    clear hkn
                    refine ⟨?_⟩
                    simp only [fill]
                    go_simp
                    first | exact ⟨Keeps.refl _ _, rfl⟩ | exact ⟨Keeps.alloc _ _, rfl⟩
                  simp only [addEnt]
                  refine loose_nil (fun W vals hW hkn => ?_)
                  simp only [knowsAll] at hkn
                  try simp only [and_true] at hkn
                  simp only [fill, Act.put, List.setIfInBounds_toArray, List.set_cons_succ, List.set_cons_zero]
                  clear hkn
                  have HZ := Lib.hid hW
                  clear hW
                  go_wp2_with fail
                  exact ⟨⟨3 + 1, by omega, by omega, by go_num, Lib.hid (HR.out.next HN.out HZ.out)⟩, by simp [intOf]⟩
        · have HN := Lib.hid (rLead_no HT.out.1 HT.out.2 (by omega) (show ¬ (uLead 3 ≤ a.toNat ∧ a.toNat < uMost 3) from hr))
          have hat2 := a.toNat_lt
          have hbb : (decide ((a.toNat : Int) < 224) || decide ((a.toNat : Int) ≥ 240)) = true := by simp; omega
          clear hat hl hr
          go_wp2_with fail
          all_goals exact ⟨⟨3 + 1, by omega, by omega, by go_num, Lib.hid (HR.out.next HN.out (Keeps.refl _ _))⟩, by simp [intOf]⟩
    · skip
      by_cases hl : s.length < 4
      · have hlb : decide ((4 : Int) ≤ s.length) = false := decide_eq_false (by omega)
        have HL := Lib.hid hl
        clear hl
        go_wp2_with fail
        go_ret2
        have hu : uFirst s = 0 := uFirst_none (fun j h1 h2 h3 => by
          have := HL.out
          rcases Nat.lt_or_ge j 4 with h | h
          · exact HR.out.n j h1 h h3
          · omega)
        exact ⟨0, by rw [hu]; rfl, fun h => absurd hu h, HR.out.k⟩
      · have hlb : decide ((4 : Int) ≤ s.length) = true := decide_eq_true (by omega)
        have hpos : 0 < s.length := by omega
        obtain ⟨a, t, hat⟩ : ∃ a t, s = a :: t := by
          cases s with
          | nil => simp at hpos
          | cons a t => exact ⟨a, t, rfl⟩
        have HT := Lib.hid (And.intro hat (show 4 ≤ s.length by omega))
        have ha : ∀ h : 0 < S.size, S[0]'h = a := fun h => by
          rw [str_get HS.out.1 hpos h]
          simp [hat]
        by_cases hr : 240 ≤ a.toNat ∧ a.toNat < 248
        · obtain ⟨hr1, hr2⟩ := hr
          have f1 : decide ((a.toNat : Int) < 240) = false := decide_eq_false (by omega)
          have f2 : decide ((a.toNat : Int) ≥ 248) = false := decide_eq_false (by omega)
          have f3 : decide ((248 : Int) ≤ a.toNat) = false := decide_eq_false (by omega)
          obtain ⟨x, hx⟩ : ∃ x, a.toNat - 240 = x := ⟨_, rfl⟩
          have hxi : ((a.toNat : Int) - 240) = x := by omega
          have HX := Lib.hid hx
          have hx255 : x ≤ 255 := by have := a.toNat_lt; omega
          have HA := Lib.hid (And.intro hr1 hr2)
          clear hat hl hx hr1 hr2
          go_wp2_with fail
          go_loopw [8, 9] (fun r i W => ∃ m y : Nat, 1 ≤ m ∧ m ≤ 4 ∧ i = .int .i64 m ∧ r = .int .i32 (y : Int) ∧ Hid (y = uMore x ((s.take m).drop 1) ∧ wr = W)) (fun _ i _ => 4 - (intOf i).toNat)
          case atStart => exact ⟨1, x, by omega, by omega, rfl, by congr 1 <;> omega, Lib.hid ⟨by rw [HT.out.1]; rfl, rfl⟩⟩
          case round =>
            obtain ⟨m, y, hm1, hm, rfl, rfl, HM⟩ := hrel
            obtain ⟨hy, rfl⟩ := HM.out
            have hlt2 := uMore_lt x ((s.take m).drop 1)
            rw [← hy, List.length_drop, List.length_take] at hlt2
            by_cases hmk : m < 4
            · skip
              have hmk' : decide ((m : Int) < 4) = true := decide_eq_true (by omega)
              have hms : m < s.length := by have := HT.out.2; omega
              have hyl : y < 33554432 := by
                refine Nat.lt_of_lt_of_le hlt2 ?_
                refine Nat.le_trans (Nat.mul_le_mul (show x + 1 ≤ 256 by omega) (Nat.pow_le_pow_right (by omega) (show min m s.length - 1 ≤ 2 by omega))) ?_
                omega
              obtain ⟨c, hc⟩ : ∃ c, s[m] = c := ⟨_, rfl⟩
              have ix : ∀ h : m < S.size, S[m]'h = c := fun h => by rw [str_get HS.out.1 hms h, hc]
              have HNX := Lib.hid (rMore_step (x := x) hm1 hms hc hy)
              obtain ⟨d, hd⟩ : ∃ d, c.toNat % 64 = d := ⟨_, rfl⟩
              have hd64 : d < 64 := by omega
              have ht : (c.toNat : Int).tmod 64 = (d : Int) := by rw [Int.tmod_eq_emod_of_nonneg (by omega)]; omega
              rw [hd] at HNX
              have hsz2 : (m : Int) < s.length := by omega
              have hyd := Lib.hid (show Value.int .i32 (RowKit.wrap32 (64 * (y : Int) + RowKit.wrap32 ((RowKit.wrap64 (c.toNat : Int)).tmod 64))) = Value.int .i32 ((64 * y + d : Nat) : Int) by
                rw [show RowKit.wrap64 (c.toNat : Int) = c.toNat by unfold RowKit.wrap64; have := c.toNat_lt; omega, ht, show RowKit.wrap32 (d : Int) = d by unfold RowKit.wrap32; omega, show RowKit.wrap32 (64 * (y : Int) + d) = 64 * y + d by unfold RowKit.wrap32; omega]
                congr 1)
              clear hlt2 hc hd hy HM ht
              go_wp2_with fail
              all_goals exact ⟨⟨m + 1, 64 * y + d, by omega, by omega, by go_num, hyd.out, Lib.hid ⟨HNX.out, trivial⟩⟩, by simp [intOf]; omega⟩
            · obtain rfl : m = 4 := by omega
              have HY := Lib.hid (show y = uDec (s.take 4) by
                rw [hy]
                exact rDec_more HT.out.1 HT.out.2 (by omega) HX.out)
              have hyl : y ≤ 2147483647 := by
                refine Nat.le_trans (Nat.le_of_lt hlt2) ?_
                refine Nat.le_trans (Nat.mul_le_mul (show x + 1 ≤ 256 by omega) (Nat.pow_le_pow_right (by omega) (show min 4 s.length - 1 ≤ 3 by omega))) ?_
                omega
              clear hlt2 hy HM
              have HIT := Lib.hid (show (uMay y ∧ uRaw y = s.take 4) ↔ uHit (s.take 4) by rw [HY.out]; exact uHit_iff.symm)
              have hks : (4 : Int) ≤ s.length := by have := HT.out.2; omega
              go_wp2_with fail
              by_cases hy0 : y = 0
              · have HN := Lib.hid (show ¬ uHit (s.take 4) from fun h => by have := (HIT.out.2 h).1.1; omega)
                subst hy0
                refine wp_region_keeps _ (by kernel_rfl) rfl (by kernel_rfl) ?_
                apply loose_is
                · intro W vals hW hkn
                  clear hkn
                  refine ⟨?_⟩
                  simp only [fill]
                  go_simp
                  first | exact ⟨Keeps.refl _ _, rfl⟩ | exact ⟨Keeps.alloc _ _, rfl⟩
                simp only [addEnt]
                apply loose_is
                · intro W vals hW hkn
                  clear hkn
                  refine ⟨?_⟩
                  simp only [fill]
                  go_simp
                  first | exact ⟨Keeps.refl _ _, rfl⟩ | exact ⟨Keeps.alloc _ _, rfl⟩
                simp only [addEnt]
                apply loose_is
                · intro W vals hW hkn
                  clear hkn
                  refine ⟨?_⟩
                  simp only [fill]
                  go_simp
                  first | exact ⟨Keeps.refl _ _, rfl⟩ | exact ⟨Keeps.alloc _ _, rfl⟩
                simp only [addEnt]
                refine loose_off (fun vals => by kernel_rfl) ?_
                simp only [addEnt]
                refine loose_off (fun vals => by kernel_rfl) ?_
                simp only [addEnt]
                apply loose_is
                · intro W vals hW hkn
                  clear hkn
                  refine ⟨?_⟩
                  simp only [fill]
                  go_simp
                  first | exact ⟨Keeps.refl _ _, rfl⟩ | exact ⟨Keeps.alloc _ _, rfl⟩
                simp only [addEnt]
                apply loose_is
                · intro W vals hW hkn
                  clear hkn
                  refine ⟨?_⟩
                  simp only [fill]
                  go_simp
                  first | exact ⟨Keeps.refl _ _, rfl⟩ | exact ⟨Keeps.alloc _ _, rfl⟩
                simp only [addEnt]
                refine loose_off (fun vals => by kernel_rfl) ?_
                simp only [addEnt]
                refine loose_off (fun vals => by kernel_rfl) ?_
                simp only [addEnt]
                refine loose_off (fun vals => by kernel_rfl) ?_
                simp only [addEnt]
                refine loose_off (fun vals => by kernel_rfl) ?_
                simp only [addEnt]
                refine loose_off (fun vals => by kernel_rfl) ?_
                simp only [addEnt]
                refine loose_off (fun vals => by kernel_rfl) ?_
                simp only [addEnt]
                apply loose_is
                · intro W vals hW hkn
                  clear hkn
                  refine ⟨?_⟩
                  simp only [fill]
                  go_simp
                  first | exact ⟨Keeps.refl _ _, rfl⟩ | exact ⟨Keeps.alloc _ _, rfl⟩
                simp only [addEnt]
                refine loose_nil (fun W vals hW hkn => ?_)
                simp only [knowsAll] at hkn
                try simp only [and_true] at hkn
                simp only [fill, Act.put, List.setIfInBounds_toArray, List.set_cons_succ, List.set_cons_zero]
                clear hkn
                have HZ := Lib.hid hW
                clear hW
                go_wp2_with fail
                exact ⟨⟨4 + 1, by omega, by omega, by go_num, Lib.hid (HR.out.next HN.out HZ.out)⟩, by simp [intOf]⟩
              · have hyp : 0 < y := by omega
                by_cases hm : uMay y
                · have HM0 := Lib.hid hm
                  have hmb : rMayB y = true := by
                    unfold rMayB
                    have := hm.2
                    simp only [Bool.or_eq_true, Bool.and_eq_true, decide_eq_true_eq]
                    exact this
                  obtain ⟨S2, hS2⟩ : ∃ S2 : ByteArray, (⟨(uRaw y).toArray⟩ : ByteArray) = S2 := ⟨_, rfl⟩
                  obtain ⟨S3, hS3⟩ : ∃ S3, S.extract 0 4 = S3 := ⟨_, rfl⟩
                  have e2 : S2.toList = uRaw y := by rw [← hS2, Lib.toList_data]
                  have e3 : S3.toList = s.take 4 := by rw [← hS3, ← HS.out.1, str_cut, Lib.toList_data]; simp
                  obtain ⟨fb, hfb⟩ : ∃ fb : Bool, fb = decide (uRaw y = s.take 4) := ⟨_, rfl⟩
                  have hcmp : (S2.toList == S3.toList) = fb := by
                    rw [e2, e3, hfb, Bool.eq_iff_iff]
                    simp
                  have HF := Lib.hid hfb
                  have HS2 := Lib.hid hS2
                  have HMB := Lib.hid hmb
                  clear hm e2 e3 hfb hS2 hmb
                  refine wp_region_keeps _ (by kernel_rfl) rfl (by kernel_rfl) ?_
                  apply loose_is
                  · intro W vals hW hkn
                    clear hkn
                    refine ⟨?_⟩
                    simp only [fill]
                    go_simp
                    first | exact ⟨Keeps.refl _ _, rfl⟩ | exact ⟨Keeps.alloc _ _, rfl⟩
                  simp only [addEnt]
                  apply loose_is
                  · intro W vals hW hkn
                    clear hkn
                    refine ⟨?_⟩
                    simp only [fill]
                    go_simp
                    first | exact ⟨Keeps.refl _ _, rfl⟩ | exact ⟨Keeps.alloc _ _, rfl⟩
                  simp only [addEnt]
                  apply loose_is
                  · intro W vals hW hkn
                    clear hkn
                    refine ⟨?_⟩
                    simp only [fill]
                    go_simp
                    first | exact ⟨Keeps.refl _ _, rfl⟩ | exact ⟨Keeps.alloc _ _, rfl⟩
                  simp only [addEnt]
                  apply loose_is
                  · intro W vals hW hkn
                    clear hkn
                    refine ⟨?_⟩
                    simp only [fill]
                    go_simp
                    first | exact ⟨Keeps.refl _ _, rfl⟩ | exact ⟨Keeps.alloc _ _, rfl⟩
                  simp only [addEnt]
                  apply loose_is
                  · intro W vals hW hkn
                    clear hkn
                    refine ⟨?_⟩
                    simp only [fill]
                    go_simp
                    refine looseUpon_calls ?_
                    exact (rMay_any W y).mono (by rintro e w3 ⟨rfl, rfl⟩; exact ⟨_, rfl, Keeps.refl _ _, (by rw [HMB.out])⟩)
                  simp only [addEnt]
                  apply loose_is
                  · intro W vals hW hkn
                    clear hkn
                    refine ⟨?_⟩
                    simp only [fill]
                    go_simp
                    first | exact ⟨Keeps.refl _ _, rfl⟩ | exact ⟨Keeps.alloc _ _, rfl⟩
                  simp only [addEnt]
                  apply loose_is
                  · intro W vals hW hkn
                    clear hkn
                    refine ⟨?_⟩
                    simp only [fill]
                    go_simp
                    first | exact ⟨Keeps.refl _ _, rfl⟩ | exact ⟨Keeps.alloc _ _, rfl⟩
                  simp only [addEnt]
                  apply loose_is
                  · intro W vals hW hkn
                    clear hkn
                    refine ⟨?_⟩
                    simp only [fill]
                    go_simp
                    first | exact ⟨Keeps.refl _ _, rfl⟩ | exact ⟨Keeps.alloc _ _, rfl⟩
                  simp only [addEnt]
                  apply loose_is
                  · intro W vals hW hkn
                    clear hkn
                    refine ⟨?_⟩
                    simp only [fill]
                    go_simp
                    refine looseUpon_calls ?_
                    exact (rRaw_any W y (by have := HM0.out.2; omega)).mono (by rintro e w3 ⟨rfl, hk⟩; exact ⟨_, rfl, hk, (by rw [HS2.out])⟩)
                  simp only [addEnt]
                  apply loose_is
                  · intro W vals hW hkn
                    clear hkn
                    refine ⟨?_⟩
                    simp only [fill]
                    go_simp
                    first | exact ⟨Keeps.refl _ _, rfl⟩ | exact ⟨Keeps.alloc _ _, rfl⟩
                  simp only [addEnt]
                  apply loose_is
                  · intro W vals hW hkn
                    clear hkn
                    refine ⟨?_⟩
                    simp only [fill]
                    go_simp
                    first | exact ⟨Keeps.refl _ _, rfl⟩ | exact ⟨Keeps.alloc _ _, rfl⟩
                  simp only [addEnt]
                  apply loose_is
                  · intro W vals hW hkn
                    clear hkn
                    refine ⟨?_⟩
                    simp only [fill]
                    go_simp
                    first | exact ⟨Keeps.refl _ _, rfl⟩ | exact ⟨Keeps.alloc _ _, rfl⟩
                  simp only [addEnt]
                  apply loose_is
                  · intro W vals hW hkn
                    clear hkn
                    refine ⟨?_⟩
                    simp only [fill]
                    go_simp
                    first | exact ⟨Keeps.refl _ _, rfl⟩ | exact ⟨Keeps.alloc _ _, rfl⟩
                  simp only [addEnt]
                  apply loose_is
                  · intro W vals hW hkn
                    clear hkn
                    refine ⟨?_⟩
                    simp only [fill]
                    go_simp
                    first | exact ⟨Keeps.refl _ _, rfl⟩ | exact ⟨Keeps.alloc _ _, rfl⟩
                  simp only [addEnt]
                  refine loose_nil (fun W vals hW hkn => ?_)
                  simp only [knowsAll] at hkn
                  try simp only [and_true] at hkn
                  simp only [fill, Act.put, List.setIfInBounds_toArray, List.set_cons_succ, List.set_cons_zero]
                  clear hkn
                  have HZ := Lib.hid hW
                  clear hW
                  cases fb with
                  | true =>
                    go_wp2_with fail
                    go_ret2
                    have hu : uFirst s = 4 := uFirst_hit (by omega) (by omega) (fun j h1 h2 => HR.out.n j h1 h2) ⟨HT.out.2, HIT.out.1 ⟨HM0.out, of_decide_eq_true HF.out.symm⟩⟩
                    exact ⟨y, by rw [hu]; rfl, fun _ => by rw [hu]; exact HY.out, HR.out.k.then_ HZ.out⟩
                  | false =>
                    have HN := Lib.hid (show ¬ uHit (s.take 4) from fun h => by
                      have e := (HIT.out.2 h).2
                      have f := HF.out
                      rw [decide_eq_true e] at f
                      cases f)
                    go_wp2_with fail
                    exact ⟨⟨4 + 1, by omega, by omega, by go_num, Lib.hid (HR.out.next HN.out HZ.out)⟩, by simp [intOf]⟩
                · have HN := Lib.hid (show ¬ uHit (s.take 4) from fun h => hm (HIT.out.2 h).1)
                  have hmb : rMayB y = false := by
                    rw [← Bool.not_eq_true]
                    unfold rMayB
                    simp only [Bool.or_eq_true, Bool.and_eq_true, decide_eq_true_eq]
                    exact fun h => hm ⟨by omega, h⟩
                  have HMB := Lib.hid hmb
                  clear hm hmb
                  refine wp_region_keeps _ (by kernel_rfl) rfl (by kernel_rfl) ?_
                  apply loose_is
                  · intro W vals hW hkn
                    clear hkn
                    refine ⟨?_⟩
                    simp only [fill]
                    go_simp
                    first | exact ⟨Keeps.refl _ _, rfl⟩ | exact ⟨Keeps.alloc _ _, rfl⟩
                  simp only [addEnt]
                  apply loose_is
                  · intro W vals hW hkn
                    clear hkn
                    refine ⟨?_⟩
                    simp only [fill]
                    go_simp
                    first | exact ⟨Keeps.refl _ _, rfl⟩ | exact ⟨Keeps.alloc _ _, rfl⟩
                  simp only [addEnt]
                  apply loose_is
                  · intro W vals hW hkn
                    clear hkn
                    refine ⟨?_⟩
                    simp only [fill]
                    go_simp
                    first | exact ⟨Keeps.refl _ _, rfl⟩ | exact ⟨Keeps.alloc _ _, rfl⟩
                  simp only [addEnt]
                  apply loose_is
                  · intro W vals hW hkn
                    clear hkn
                    refine ⟨?_⟩
                    simp only [fill]
                    go_simp
                    first | exact ⟨Keeps.refl _ _, rfl⟩ | exact ⟨Keeps.alloc _ _, rfl⟩
                  simp only [addEnt]
                  apply loose_is
                  · intro W vals hW hkn
                    clear hkn
                    refine ⟨?_⟩
                    simp only [fill]
                    go_simp
                    refine looseUpon_calls ?_
                    exact (rMay_any W y).mono (by rintro e w3 ⟨rfl, rfl⟩; exact ⟨_, rfl, Keeps.refl _ _, (by rw [HMB.out])⟩)
                  simp only [addEnt]
                  apply loose_is
                  · intro W vals hW hkn
                    clear hkn
                    refine ⟨?_⟩
                    simp only [fill]
                    go_simp
                    first | exact ⟨Keeps.refl _ _, rfl⟩ | exact ⟨Keeps.alloc _ _, rfl⟩
                  simp only [addEnt]
                  apply loose_is
                  · intro W vals hW hkn
                    clear hkn
                    refine ⟨?_⟩
                    simp only [fill]
                    go_simp
                    first | exact ⟨Keeps.refl _ _, rfl⟩ | exact ⟨Keeps.alloc _ _, rfl⟩
                  simp only [addEnt]
                  refine loose_off (fun vals => by kernel_rfl) ?_
                  simp only [addEnt]
                  refine loose_off (fun vals => by kernel_rfl) ?_
                  simp only [addEnt]
                  refine loose_off (fun vals => by kernel_rfl) ?_
                  simp only [addEnt]
                  refine loose_off (fun vals => by kernel_rfl) ?_
                  simp only [addEnt]
                  refine loose_off (fun vals => by kernel_rfl) ?_
                  simp only [addEnt]
                  refine loose_off (fun vals => by kernel_rfl) ?_
                  simp only [addEnt]
                  apply loose_is
                  · intro W vals hW hkn
                    clear hkn
                    refine ⟨?_⟩
                    simp only [fill]
                    go_simp
                    first | exact ⟨Keeps.refl _ _, rfl⟩ | exact ⟨Keeps.alloc _ _, rfl⟩
                  simp only [addEnt]
                  refine loose_nil (fun W vals hW hkn => ?_)
                  simp only [knowsAll] at hkn
                  try simp only [and_true] at hkn
                  simp only [fill, Act.put, List.setIfInBounds_toArray, List.set_cons_succ, List.set_cons_zero]
                  clear hkn
                  have HZ := Lib.hid hW
                  clear hW
                  go_wp2_with fail
                  exact ⟨⟨4 + 1, by omega, by omega, by go_num, Lib.hid (HR.out.next HN.out HZ.out)⟩, by simp [intOf]⟩
        · have HN := Lib.hid (rLead_no HT.out.1 HT.out.2 (by omega) (show ¬ (uLead 4 ≤ a.toNat ∧ a.toNat < uMost 4) from hr))
          have hat2 := a.toNat_lt
          have hbb : (decide ((a.toNat : Int) < 240) || decide ((a.toNat : Int) ≥ 248)) = true := by simp; omega
          clear hat hl hr
          go_wp2_with fail
          all_goals exact ⟨⟨4 + 1, by omega, by omega, by go_num, Lib.hid (HR.out.next HN.out (Keeps.refl _ _))⟩, by simp [intOf]⟩
    · go_wp2_with fail
      go_ret2
      have hu : uFirst s = 0 := uFirst_none HR.out.n
      exact ⟨0, by rw [hu]; rfl, fun h => absurd hu h, HR.out.k⟩
end Go.Proofs.YtfglgeoookbppaaGreatDoor

namespace Go.Proofs.YtfglgeoookbppaaGreatDoor
open Go.RowKit Go.Maps Go.Shelf

def runeE (x : Int) : List Value := [.int .i32 x]
theorem encRune : Enc 1 runeE := ⟨by omega, fun _ => rfl, fun a u hu => by obtain rfl := List.mem_singleton.1 hu; rfl⟩
theorem elemRune : ElemN Tryz.prog 97 21 1 := elemN_of (bytes := 4) (z := .int .i32 0) (by kernel_rfl) (by kernel_rfl) (by omega) rfl
structure RnAt (w wr : World) (s : List UInt8) (k : Nat) (v : Value) (l : List Int) : Prop where
  g : uGood s = uGood (s.drop k)
  ln : l.length ≤ k
  o : OwnN wr w.heap.size 21 1 runeE v l
  k : Keeps w wr []
def RnPost (w : World) (s : List UInt8) (e : Ending) (w' : World) : Prop := ∃ (v : Value) (a : Int), e = .returned (.tuple #[v, .int .i64 a]) ∧ (if uGood s = true then a = -1 else 0 ≤ a) ∧ Keeps w w' []
theorem RnAt.next {w wr w1 w2 w3 : World} {s : List UInt8} {k m : Nat} {v v' : Value} {l : List Int} {r : Int} (h : RnAt w wr s k v l) (hm : uFirst (s.drop k) = m) (hm0 : m ≠ 0) (hk : k < s.length) (k1 : Keeps wr w1 []) (k2 : Keeps w1 w2 []) (ho : OwnN w3 w.heap.size 21 1 runeE v' (l ++ [r])) (k3 : Keeps w2 w3 v.ownBlock.toList) : RnAt w w3 s (k + m) v' (l ++ [r]) := by
  refine ⟨?_, ?_, ho, ?_⟩
  · rw [h.g, uGood_step (s := s.drop k) (fun e => by have := congrArg List.length e; rw [List.length_drop, List.length_nil] at this; omega), hm, if_neg hm0, List.drop_drop]
  · have := h.ln
    rw [List.length_append, List.length_singleton]
    omega
  · refine ((h.k.then_ k1).then_ k2).trans k3 fun x hx hlt => ?_
    have := (h.o.rows x hx).1
    omega
set_option maxRecDepth 100000 in
set_option maxHeartbeats 2000000 in
theorem rRunes_any (w : World) (s : List UInt8) (hs : s.length ≤ 60000) : Calls Tryz.prog 52 #[.string ⟨s.toArray⟩] w (RnPost w s) := by
  obtain ⟨S, hS⟩ : ∃ S : ByteArray, (⟨s.toArray⟩ : ByteArray) = S := ⟨_, rfl⟩
  have hsz : S.size = s.length := by rw [← hS]; rfl
  have HS := Lib.hid (And.intro hS hsz)
  rw [hS]
  clear hS
  go_enter Tryz.func52, Tryz.ntmps52
  go_wp2_with fail
  go_loopw [4, 5] (fun out i wr => ∃ (k n c : Nat) (A : Option Addr) (l : List Int), k ≤ s.length ∧ i = .int .i64 k ∧ out = .slice A n c ∧ Hid (RnAt w wr s k (.slice A n c) l)) (fun _ i _ => s.length - (intOf i).toNat)
  case atStart => exact ⟨0, 0, 0, none, [], by omega, rfl, rfl, Lib.hid ⟨rfl, by simp, OwnN.nil _ _ _ _ _, Keeps.refl _ _⟩⟩
  case round =>
    obtain ⟨k, n, c, A, l, hk, rfl, rfl, HR⟩ := hrel
    have hsl := HS.out.2
    by_cases hlt : k < s.length
    · obtain ⟨T, hT⟩ : ∃ T, S.extract k S.size = T := ⟨_, rfl⟩
      have hT' : (⟨(s.drop k).toArray⟩ : ByteArray) = T := by
        rw [← hT, ← HS.out.1, str_cut, List.take_of_length_le]
        rw [List.length_drop]
        show s.length - k ≤ s.length - k
        omega
      have HF := Lib.hid (show ∀ w, Calls Tryz.prog 95 #[.string T] w (FiPost w (s.drop k)) from fun w => by
        rw [← hT']
        exact rFirst_any w _ (by rw [List.length_drop]; omega))
      rw [hsz] at hT
      have hkl : (k : Int) ≤ s.length := by omega
      obtain ⟨m, hm⟩ : ∃ m, uFirst (s.drop k) = m := ⟨_, rfl⟩
      have hml := (uFirst_len (s.drop k)).1
      rw [hm, List.length_drop] at hml
      have HM := Lib.hid (And.intro hm hlt)
      clear hT'
      go_wp2_with fail
      refine (HF.out _).mono ?_
      rintro e w1 ⟨r, rfl, _, hk1⟩
      rw [hm]
      have HK1 := Lib.hid hk1
      clear hk1 hm hT
      by_cases hm0 : m = 0
      · have hme : ((m : Int) == 0) = true := by simp [hm0]
        go_wp2_with fail
        go_ret2
        have hu : uGood s = false := by
          rw [HR.out.g, uGood_step (s := s.drop k) (fun e => by have := congrArg List.length e; rw [List.length_drop, List.length_nil] at this; have := HM.out.2; omega), HM.out.1, if_pos hm0]
        exact ⟨_, _, rfl, by rw [hu]; simp, HR.out.k.then_ HK1.out⟩
      · have hme : ((m : Int) == 0) = false := by simpa using hm0
        have h65 : decide ((k : Int) + m > 65535) = false := decide_eq_false (by omega)
        obtain ⟨Wa, hWa⟩ : ∃ Wa, w1.alloc (.cells #[.int .i32 (r : Int)] 21) = Wa := ⟨_, rfl⟩
        have ra : Row Wa w1.heap.size 21 #[.int .i32 (r : Int)] := by rw [← hWa]; exact Row.new _ _ _
        have ka : Keeps w1 Wa [] := by rw [← hWa]; exact Keeps.alloc _ _
        have HLa := Lib.hid (show Lies Wa Wa.heap.size (some ⟨w1.heap.size, 0, none⟩) ([(r : Int)].flatMap runeE) from lies_of_row ra rfl)
        have HA := Lib.hid (And.intro ka (And.intro ((HR.out.o.keeps HK1.out).keeps ka) ((HR.out.k.then_ HK1.out).then_ ka)))
        clear ra ka
        go_wp2_with (at_builtin; refine wpList_append_N elemRune encRune rfl (.tmp 28) (.tmp 30) rfl w.heap.size (.slice A n c) (some ⟨w1.heap.size, 0, none⟩) 1 1 l [(r : Int)] rfl rfl rfl HA.out.2.1 HLa.out (by have := HR.out.ln; simp; omega) HA.out.2.2.size ?_; intro A5 c5 w5 l5 hl5 hlen5 ho5 hk5 _; have H5 := Lib.hid (And.intro hl5.out (And.intro ho5 hk5)); clear hl5 ho5 hk5 hlen5)
        exact ⟨⟨k + m, _, c5, A5, l ++ [(r : Int)], by omega, by go_num, rfl, Lib.hid (by rw [← H5.out.1]; have := H5.out.2.1; rw [H5.out.1] at this ⊢; exact HR.out.next HM.out.1 hm0 HM.out.2 HK1.out HA.out.1 this H5.out.2.2)⟩, by simp [intOf]; omega⟩
    · obtain rfl : k = s.length := by omega
      go_wp2_with fail
      go_ret2
      have hu : uGood s = true := by rw [HR.out.g, List.drop_length]; rfl
      exact ⟨_, _, rfl, by rw [if_pos hu], HR.out.k⟩
end Go.Proofs.YtfglgeoookbppaaGreatDoor

namespace Go.Proofs.YtfglgeoookbppaaGreatDoor
open Go.RowKit Go.Shelf

set_option maxRecDepth 100000 in
set_option maxHeartbeats 1000000 in
theorem rSaid_any (w : World) (s : List UInt8) (hs : s.length ≤ 60000) : Calls Tryz.prog 53 #[.string ⟨s.toArray⟩] w fun e w' => e = .returned (.bool (tSaid s)) ∧ Keeps w w' [] := by
  obtain ⟨S, hS⟩ : ∃ S : ByteArray, (⟨s.toArray⟩ : ByteArray) = S := ⟨_, rfl⟩
  have hz : S.size = s.length := by rw [← hS]; rfl
  have HR := Lib.hid (show ∀ w : World, Calls Tryz.prog 52 #[.string S] w (RnPost w s) from fun w => by
    rw [← hS]
    exact rRunes_any w s hs)
  rw [hS]
  clear hS
  by_cases h0 : s.length < 1
  · have HT := Lib.hid (show tSaid s = false by unfold tSaid; simp; omega)
    go_enter Tryz.func53, Tryz.ntmps53
    go_wp2_with fail
    go_ret
    exact ⟨by rw [HT.out]; rfl, Keeps.refl _ _⟩
  · by_cases h2 : 200 < s.length
    · have HT := Lib.hid (show tSaid s = false by unfold tSaid; simp; omega)
      have hp : 0 < s.length := by omega
      clear h0
      go_enter Tryz.func53, Tryz.ntmps53
      go_wp2_with fail
      go_ret
      exact ⟨by rw [HT.out]; rfl, Keeps.refl _ _⟩
    · have HT := Lib.hid (show tSaid s = uGood s by
        unfold tSaid
        rw [decide_eq_true (by omega), decide_eq_true (by omega)]
        rfl)
      have hp : 0 < s.length := by omega
      have hq : s.length ≤ 200 := by omega
      clear h0 h2
      go_enter Tryz.func53, Tryz.ntmps53
      go_wp2_with fail
      refine (HR.out _).mono ?_
      rintro e w1 ⟨v, a, rfl, ha, hk⟩
      have HK := Lib.hid hk
      clear hk
      cases hg : uGood s with
      | true =>
        rw [hg, if_pos rfl] at ha
        subst ha
        rw [hg] at HT
        clear hg
        go_wp2_with fail
        go_ret
        exact ⟨by rw [HT.out]; rfl, HK.out⟩
      | false =>
        rw [hg, if_neg (by simp)] at ha
        rw [hg] at HT
        have hb : decide (a < 0) = false := decide_eq_false (by omega)
        clear hg ha
        go_wp2_with fail
        go_ret
        exact ⟨by rw [HT.out]; rfl, HK.out⟩
theorem tSignN_zero (s : List UInt8) : (tSignN s = 0) ↔ tSign s = false := by
  unfold tSignN tSign
  rw [List.countP_eq_zero, List.any_eq_false]
theorem tSignN_le (s : List UInt8) : tSignN s ≤ s.length := List.countP_le_length
set_option maxRecDepth 100000 in
set_option maxHeartbeats 1000000 in
theorem rName_any (w : World) (s : List UInt8) (hs : s.length ≤ 60000) : Calls Tryz.prog 23 #[.string ⟨s.toArray⟩] w fun e w' => e = .returned (.bool (tName s)) ∧ Keeps w w' [] := by
  obtain ⟨S, hS⟩ : ∃ S : ByteArray, (⟨s.toArray⟩ : ByteArray) = S := ⟨_, rfl⟩
  have HS := Lib.hid hS
  rw [hS]
  clear hS
  go_enter Tryz.func23, Tryz.ntmps23
  go_wp2_with fail
  rw [← HS.out]
  refine (rSaid_any w s hs).mono ?_
  rintro e w1 ⟨rfl, hk⟩
  rw [HS.out]
  have HK := Lib.hid hk
  clear hk
  cases hg : tSaid s with
  | false =>
    have HT := Lib.hid (show tName s = false by unfold tName; rw [hg]; rfl)
    clear hg
    go_wp2_with fail
    go_ret
    exact ⟨by rw [HT.out]; rfl, HK.out⟩
  | true =>
    have HT := Lib.hid (show tName s = !tSign s by unfold tName; rw [hg]; rfl)
    clear hg
    go_wp2_with fail
    rw [← HS.out]
    refine (rSigns_any w1 s hs).mono ?_
    rintro e w2 ⟨rfl, rfl⟩
    rw [HS.out]
    cases hb : tSign s with
    | true =>
      have hne : (((tSignN s : Nat) : Int) == 0) = false := by
        rw [beq_eq_false_iff_ne]
        intro e
        have := (tSignN_zero s).1 (by omega)
        rw [hb] at this
        cases this
      rw [hb] at HT
      clear hb
      generalize tSignN s = k at *
      go_wp2_with fail
      go_ret
      exact ⟨by rw [HT.out]; rfl, HK.out⟩
    | false =>
      have h0 := (tSignN_zero s).2 hb
      rw [hb] at HT
      rw [h0]
      clear hb h0
      go_wp2_with fail
      go_ret
      exact ⟨by rw [HT.out]; rfl, HK.out⟩
end Go.Proofs.YtfglgeoookbppaaGreatDoor

namespace Go.Proofs.YtfglgeoookbppaaGreatDoor
open Go.RowKit Go.Shelf

theorem tLev_slash (s : List UInt8) : tLev (s ++ [47]) = tLev s ++ [[]] := tLev_app s []
theorem tLev_snoc {a : UInt8} (ha : a ≠ 47) (s : List UInt8) : ∃ ls x, tLev s = ls ++ [x] ∧ tLev (s ++ [a]) = ls ++ [x ++ [a]] := by
  induction s with
  | nil => exact ⟨[], [], rfl, by rw [List.nil_append, tLev_plain (by simpa using Ne.symm ha)]; rfl⟩
  | cons b s ih =>
    obtain ⟨ls, x, h1, h2⟩ := ih
    by_cases hb : b = 47
    · subst hb
      refine ⟨[] :: ls, x, ?_, ?_⟩
      · rw [tLev, if_pos rfl, h1]; rfl
      · rw [List.cons_append, tLev, if_pos rfl, h2]; rfl
    · obtain ⟨l, m, e1, e2⟩ := tLev_other (s := s) hb
      obtain ⟨l', m', e3, e4⟩ := tLev_other (s := s ++ [a]) hb
      rw [h1] at e1
      rw [h2] at e3
      cases ls with
      | nil =>
        injection e1 with e5 e6
        injection e3 with e7 e8
        exact ⟨[], b :: x, by rw [e2, ← e5, ← e6]; rfl, by rw [List.cons_append, e4, ← e7, ← e8]; rfl⟩
      | cons y ls =>
        injection e1 with e5 e6
        injection e3 with e7 e8
        exact ⟨(b :: y) :: ls, x, by rw [e2, ← e5, ← e6]; rfl, by rw [List.cons_append, e4, ← e7, ← e8]; rfl⟩
theorem tLev_set {a : UInt8} (ha : a ≠ 47) {s : List UInt8} {l : List (List UInt8)} {m : Nat} (hl : tLev s = l) (hm : l.length = m + 1) (h : m < l.length) : tLev (s ++ [a]) = l.set m (l[m] ++ [a]) := by
  obtain ⟨ls, x, h1, h2⟩ := tLev_snoc ha s
  subst hl
  have hls : ls.length = m := by
    rw [h1, List.length_append, List.length_singleton] at hm
    omega
  subst hls
  rw [h2]
  simp [h1]
theorem elemTxt : ElemN Tryz.prog 89 9 1 := elemN_of (bytes := 16) (z := .string ⟨#[]⟩) (by kernel_rfl) (by kernel_rfl) (by omega) rfl
theorem flat_txt (l : List (List UInt8)) : l.flatMap txtV = txL l := by
  induction l with
  | nil => rfl
  | cons a l ih => rw [List.flatMap_cons, ih]; rfl
abbrev OwnT (w : World) (B : Nat) (v : Value) (l : List (List UInt8)) : Prop := OwnN w B 9 1 txtV v l
theorem OwnN.lies1 {w : World} {B n c : Nat} {A : Option Addr} {l : List (List UInt8)} (h : OwnT w B (.slice A n c) l) : n = l.length ∧ Lies w w.heap.size A (txL l) := by
  obtain ⟨A', c', e⟩ := OwnN.slice h
  injection e with e1 e2 e3
  subst e1 e2 e3
  refine ⟨rfl, ?_⟩
  have := (OwnN.at_ h encTxt).lies encTxt
  rwa [flat_txt] at this
theorem OwnN.cap {w : World} {B n c : Nat} {A : Option Addr} {l : List (List UInt8)} (h : OwnT w B (.slice A n c) l) : l.length ≤ c := by
  rcases h.2 with ⟨hv, h0⟩ | ⟨gb, cap, cur, hv, _, _, h1, h2, _⟩
  · injection hv with _ h3 h4
    subst h3 h4
    omega
  · injection hv with _ h3 h4
    subst h3 h4
    exact h1
theorem ownT_one (w : World) (x : List UInt8) : OwnT (w.alloc (.cells #[.string ⟨x.toArray⟩] 9)) w.heap.size (.slice (some ⟨w.heap.size, 0, none⟩) 1 1) [x] :=
  ⟨by simp [txtV], .inr ⟨w.heap.size, 1, #[.string ⟨x.toArray⟩], rfl, Nat.le_refl _, Row.new _ _ _, by simp, by simp [maxLen], by simp, by simp [txtV]⟩⟩
/-- The levels of the first bytes of a text. -/
structure LvAt (w wr : World) (s : List UInt8) (v : Value) (l : List (List UInt8)) : Prop where
  e : tLev s = l
  o : OwnT wr w.heap.size v l
  k : Keeps w wr []
def LvPost (w : World) (s : List UInt8) (e : Ending) (w' : World) : Prop := ∃ A c, e = .returned (.slice A (tLev s).length c) ∧ (tLev s).length ≤ c ∧ Lies w' w'.heap.size A (txL (tLev s)) ∧ Keeps w w' []
set_option maxRecDepth 100000 in
set_option maxHeartbeats 2000000 in
theorem rLevels_any (w : World) (s : List UInt8) (hs : s.length ≤ 60000) : Calls Tryz.prog 54 #[.string ⟨s.toArray⟩] w (LvPost w s) := by
  obtain ⟨S, hS⟩ : ∃ S : ByteArray, (⟨s.toArray⟩ : ByteArray) = S := ⟨_, rfl⟩
  have hz : S.size = s.length := by rw [← hS]; rfl
  have HS := Lib.hid hS
  rw [hS]
  clear hS
  go_enter Tryz.func54, Tryz.ntmps54
  go_wp2_with fail
  go_loopw [3, 4] (fun out i wr => ∃ (k m c : Nat) (A : Option Addr) (l : List (List UInt8)), k ≤ s.length ∧ i = .int .i64 k ∧ out = .slice A (m + 1) c ∧ m ≤ k ∧ Hid (LvAt w wr (s.take k) (.slice A (m + 1) c) l)) (fun _ i _ => s.length - (intOf i).toNat)
  case atStart => exact ⟨0, 0, 1, _, [[]], by omega, rfl, rfl, by omega, Lib.hid ⟨rfl, ownT_one w [], Keeps.alloc _ _⟩⟩
  case round =>
    obtain ⟨k, m, c, A, l, hk, rfl, rfl, hmk, HR⟩ := hrel
    by_cases hlt : k < s.length
    · have HT := Lib.hid (List.take_succ_eq_append_getElem hlt)
      have ix : ∀ h, S[k]'h = s[k] := fun h => str_get HS.out hlt h
      obtain ⟨a, ha⟩ : ∃ a, s[k] = a := ⟨_, rfl⟩
      rw [ha] at HT ix
      have hcut : S.extract k (k + 1) = ⟨[a].toArray⟩ := by
        rw [← HS.out, str_cut, Nat.add_sub_cancel_left, List.drop_eq_getElem_cons hlt, ha]
        rfl
      by_cases h47 : a = 47
      · subst h47
        have HL := Lib.hid (show tLev (s.take (k + 1)) = l ++ [[]] by rw [HT.out, tLev_slash, HR.out.e])
        obtain ⟨Wa, hWa⟩ : ∃ Wa, wr.alloc (.cells #[.string ⟨#[]⟩] 9) = Wa := ⟨_, rfl⟩
        have ra : Row Wa wr.heap.size 9 #[.string ⟨#[]⟩] := by rw [← hWa]; exact Row.new _ _ _
        have ka : Keeps wr Wa [] := by rw [← hWa]; exact Keeps.alloc _ _
        have hln : m + 1 = l.length := HR.out.o.lies1.1
        have HLa := Lib.hid (show Lies Wa Wa.heap.size (some ⟨wr.heap.size, 0, none⟩) ([([] : List UInt8)].flatMap txtV) from lies_of_row ra rfl)
        have HA := Lib.hid (And.intro ka (And.intro (HR.out.o.keeps ka) (And.intro (HR.out.k.then_ ka) hln)))
        clear ra ka hcut ha hln
        go_wp2_with (at_builtin; refine wpList_append_N elemTxt encTxt rfl (.tmp 16) (.tmp 17) rfl w.heap.size (.slice A (m + 1) c) (some ⟨wr.heap.size, 0, none⟩) 1 1 l [[]] rfl rfl rfl HA.out.2.1 HLa.out (by have := HA.out.2.2.2; simp; omega) HA.out.2.2.1.size ?_; intro A5 c5 w5 l5 hl5 hlen5 ho5 hk5 _; have H5 := Lib.hid (And.intro hl5.out (And.intro ho5 hk5)); have hl5n : l5.length = m + 2 := (by have := HA.out.2.2.2; rw [hl5.out, List.length_append, List.length_singleton]; omega); rw [hl5n]; clear hl5 ho5 hk5 hlen5)
        have ho := H5.out.2.1
        rw [hl5n, H5.out.1] at ho
        exact ⟨⟨k + 1, m + 1, c5, A5, l ++ [[]], by omega, by go_num, rfl, by omega, Lib.hid ⟨HL.out, ho, HA.out.2.2.1.trans H5.out.2.2 fun x hx hlt => by
          have := (HA.out.2.1.rows x hx).1
          omega⟩⟩, by simp [intOf]; omega⟩
      · have hb : (((a.toNat : Int)) == 47) = false := by
          rw [beq_eq_false_iff_ne]
          intro h
          exact h47 (UInt8.toNat_inj.1 (by simpa using (show a.toNat = 47 by omega)))
        have hln : m + 1 = l.length := HR.out.o.lies1.1
        have hml : m < l.length := by omega
        have HL := Lib.hid (show tLev (s.take (k + 1)) = l.set m (l[m] ++ [a]) by
          rw [HT.out]
          exact tLev_set h47 HR.out.e hln.symm hml)
        obtain ⟨g, cur, rfl, -, hgB, hr, hc, -⟩ := OwnN.one (q := fun a => .string ⟨a.toArray⟩) (fun _ => rfl) HR.out.o hml
        obtain ⟨X, hX⟩ : ∃ X, l[m] = X := ⟨_, rfl⟩
        rw [hX] at hc HL
        have hXl : X.length ≤ 60000 := by
          have h1 : X ∈ tLev (s.take k) := by rw [HR.out.e, ← hX]; exact List.getElem_mem hml
          have := tLev_size h1
          rw [List.length_take] at this
          omega
        obtain ⟨LS, hLS⟩ : ∃ LS : ByteArray, (⟨X.toArray⟩ : ByteArray) = LS := ⟨_, rfl⟩
        have hLz : LS.size ≤ 60000 := by rw [← hLS]; exact hXl
        have hcat : LS ++ S.extract k (k + 1) = ⟨(X ++ [a]).toArray⟩ := by rw [hcut, ← hLS, txt_app]
        obtain ⟨CS, hCS⟩ : ∃ CS, S.extract k (k + 1) = CS := ⟨_, rfl⟩
        have hCz : CS.size = 1 := by rw [← hCS, hcut]; rfl
        rw [hCS] at hcat
        rw [hLS] at hc
        have M1 := fun (W' : World) (hW : Keeps wr W' []) => ((hr.keeps hW).cell m).trans hc
        have HG := Lib.hid (And.intro hr (And.intro hgB (And.intro hcat (And.intro hml hln))))
        clear hr hgB hc hX hLS hcut hcat hXl hml hln
        go_upto_region 7 with fail
        have hw1 : IntKind.i64.wrap (m : Int) = m := IntWalk.i64_in _ (by omega)
        have hw2 : IntKind.i64.wrap ((k : Int) + 1) = k + 1 := IntWalk.i64_in _ (by omega)
        have hw3 : ((k : Int) + 1).toNat = k + 1 := by omega
        have hw4 : (k : Int) + 1 ≤ s.length := by omega
        have hw5 : (k : Int) ≤ k + 1 := by omega
        have hw6 : (0 : Int) ≤ k + 1 := by omega
        have hw7 : (m : Int) < m + 1 := by omega
        have hw8 : ¬ 9223372036854775807 < LS.size + 1 := by omega
        refine wp_region_tail KeepsAll _ 16 (by kernel_rfl) rfl (by kernel_rfl) (fun _ => Keeps.refl _ _) (fun _ _ _ h k => h.trans k (by simp)) (Keeps.drew _) ?_
        simp only [List.take_succ_cons, List.take_zero, List.drop_succ_cons, List.drop_zero]
        apply loose_is
        · intro W vals hW hkn
          clear hkn
          refine ⟨?_⟩
          simp only [fill]
          go_simp
          first | exact ⟨Keeps.refl _ _, rfl⟩ | exact ⟨Keeps.alloc _ _, rfl⟩
        simp only [addEnt]
        apply loose_is
        · intro W vals hW hkn
          clear hkn
          refine ⟨?_⟩
          simp only [fill]
          go_simp
          first | exact ⟨Keeps.refl _ _, rfl⟩ | exact ⟨Keeps.alloc _ _, rfl⟩
        simp only [addEnt]
        apply loose_is
        · intro W vals hW hkn
          clear hkn
          refine ⟨?_⟩
          simp only [fill]
          go_simp
          first | exact ⟨Keeps.refl _ _, rfl⟩ | exact ⟨Keeps.alloc _ _, rfl⟩
        simp only [addEnt]
        apply loose_is
        · intro W vals hW hkn
          clear hkn
          refine ⟨?_⟩
          simp only [fill]
          go_simp
          first | exact ⟨Keeps.refl _ _, rfl⟩ | exact ⟨Keeps.alloc _ _, rfl⟩
        simp only [addEnt]
        apply loose_is
        · intro W vals hW hkn
          clear hkn
          refine ⟨?_⟩
          simp only [fill]
          go_simp
          first | exact ⟨Keeps.refl _ _, rfl⟩ | exact ⟨Keeps.alloc _ _, rfl⟩
        simp only [addEnt]
        apply loose_is
        · intro W vals hW hkn
          clear hkn
          refine ⟨?_⟩
          simp only [fill]
          go_simp
          first | exact ⟨Keeps.refl _ _, rfl⟩ | exact ⟨Keeps.alloc _ _, rfl⟩
        simp only [addEnt]
        apply loose_is
        · intro W vals hW hkn
          clear hkn
          refine ⟨?_⟩
          simp only [fill]
          go_simp
          first | exact ⟨Keeps.refl _ _, rfl⟩ | exact ⟨Keeps.alloc _ _, rfl⟩
        simp only [addEnt]
        apply loose_is
        · intro W vals hW hkn
          clear hkn
          refine ⟨?_⟩
          simp only [fill]
          go_simp
          first | exact ⟨Keeps.refl _ _, rfl⟩ | exact ⟨Keeps.alloc _ _, rfl⟩
        simp only [addEnt]
        apply loose_is
        · intro W vals hW hkn
          clear hkn
          refine ⟨?_⟩
          simp only [fill]
          go_simp
          first | exact ⟨Keeps.refl _ _, rfl⟩ | exact ⟨Keeps.alloc _ _, rfl⟩
        simp only [addEnt]
        apply loose_is
        · intro W vals hW hkn
          simp only [knows] at hkn
          try simp only [and_true] at hkn
          clear hkn; have m1 := M1 W hW
          refine ⟨?_⟩
          simp only [fill]
          go_simp
          first | exact ⟨Keeps.refl _ _, rfl⟩ | exact ⟨Keeps.alloc _ _, rfl⟩
        simp only [addEnt]
        apply loose_is
        · intro W vals hW hkn
          clear hkn
          refine ⟨?_⟩
          simp only [fill]
          go_simp
          first | exact ⟨Keeps.refl _ _, rfl⟩ | exact ⟨Keeps.alloc _ _, rfl⟩
        simp only [addEnt]
        apply loose_is
        · intro W vals hW hkn
          clear hkn
          refine ⟨?_⟩
          simp only [fill]
          go_simp
          first | exact ⟨Keeps.refl _ _, rfl⟩ | exact ⟨Keeps.alloc _ _, rfl⟩
        simp only [addEnt]
        apply loose_is
        · intro W vals hW hkn
          clear hkn
          refine ⟨?_⟩
          simp only [fill]
          go_simp
          first | exact ⟨Keeps.refl _ _, rfl⟩ | exact ⟨Keeps.alloc _ _, rfl⟩
        simp only [addEnt]
        apply loose_is
        · intro W vals hW hkn
          clear hkn
          refine ⟨?_⟩
          simp only [fill]
          go_simp
          first | exact ⟨Keeps.refl _ _, rfl⟩ | exact ⟨Keeps.alloc _ _, rfl⟩
        simp only [addEnt]
        apply loose_is
        · intro W vals hW hkn
          clear hkn
          refine ⟨?_⟩
          simp only [fill]
          go_simp
          first | exact ⟨Keeps.refl _ _, rfl⟩ | exact ⟨Keeps.alloc _ _, rfl⟩
        simp only [addEnt]
        apply loose_is
        · intro W vals hW hkn
          clear hkn
          refine ⟨?_⟩
          simp only [fill]
          go_simp
          first | exact ⟨Keeps.refl _ _, rfl⟩ | exact ⟨Keeps.alloc _ _, rfl⟩
        simp only [addEnt]
        refine loose_nil (fun W vals hW hkn => ?_)
        simp only [knowsAll] at hkn
        try simp only [and_true] at hkn
        simp only [fill, Act.put, List.setIfInBounds_toArray, List.set_cons_succ, List.set_cons_zero]
        clear hkn
        have hr := HG.out.1.keeps hW
        have d0 := M1 W hW
        have g0 := hr.frozen m
        have HW := Lib.hid (show Keeps wr W [] from hW)
        clear hr hW M1
        go_wp2_with fail
        obtain ⟨g', cur', e1, -, hgB, hr, hc, ho⟩ := OwnN.one (q := fun a => .string ⟨a.toArray⟩) (fun _ => rfl) (HR.out.o.keeps HW.out) HG.out.2.2.2.1
        injection e1 with e1
        injection e1 with e1
        subst e1
        have ho := ho (X ++ [a])
        rw [← HG.out.2.2.1] at ho
        exact ⟨⟨k + 1, m, c, _, _, by omega, by go_num, rfl, by omega, Lib.hid ⟨HL.out, ho, (HR.out.k.then_ HW.out).trans (Keeps.setCell _ _ _) fun x hx hlt => by
          simp at hx
          omega⟩⟩, by simp [intOf]; omega⟩
    · obtain rfl : k = s.length := by omega
      have HE := Lib.hid (show tLev s = l by rw [← HR.out.e, List.take_length])
      go_wp2_with fail
      go_ret
      have := HR.out.o.lies1
      exact ⟨A, c, by rw [HE.out, ← this.1]; rfl, by rw [HE.out]; exact OwnN.cap HR.out.o, by rw [HE.out]; exact this.2, HR.out.k⟩
end Go.Proofs.YtfglgeoookbppaaGreatDoor

namespace Go.Proofs.YtfglgeoookbppaaGreatDoor
open Go.RowKit Go.Shelf

theorem tOks_at (L : List (List UInt8)) : tOks L = true ↔ ∀ j (h : j < L.length), tOk L[j] (j + 1 == L.length) = true := by
  rw [tOks_seq, List.all_eq_true]
  constructor
  · intro h j hj
    have := h ((tSeq L)[j]'(by rw [tSeq_len]; exact hj)) (List.getElem_mem _)
    rwa [tSeq_get hj] at this
  · intro h x hx
    obtain ⟨j, hj, rfl⟩ := List.mem_iff_getElem.1 hx
    rw [tSeq_len] at hj
    rw [tSeq_get hj]
    exact h j hj
set_option maxRecDepth 100000 in
set_option maxHeartbeats 2000000 in
theorem rFilter_any (w : World) (s : List UInt8) (hs : s.length ≤ 60000) : Calls Tryz.prog 22 #[.string ⟨s.toArray⟩] w (TruePost w (tFilter s)) := by
  obtain ⟨S, hS⟩ : ∃ S : ByteArray, (⟨s.toArray⟩ : ByteArray) = S := ⟨_, rfl⟩
  have HS := Lib.hid (show ∀ w : World, (Calls Tryz.prog 53 #[.string S] w fun e w' => e = .returned (.bool (tSaid s)) ∧ Keeps w w' []) ∧ Calls Tryz.prog 54 #[.string S] w (LvPost w s) from fun w => by
    rw [← hS]
    exact ⟨rSaid_any w s hs, rLevels_any w s hs⟩)
  rw [hS]
  clear hS
  go_enter Tryz.func22, Tryz.ntmps22
  go_wp2_with fail
  refine (HS.out _).1.mono ?_
  rintro e w1 ⟨rfl, hk⟩
  have HK := Lib.hid hk
  clear hk
  cases hg : tSaid s with
  | false =>
    have HT := Lib.hid (show tFilter s = false by unfold tFilter; rw [hg]; rfl)
    clear hg
    go_wp2_with fail
    go_ret
    exact ⟨by rw [HT.out]; rfl, HK.out⟩
  | true =>
    have HT := Lib.hid (show tFilter s = tOks (tLev s) by unfold tFilter; rw [hg]; rfl)
    clear hg
    go_wp2_with fail
    refine (HS.out _).2.mono ?_
    rintro e w2 ⟨A, c, rfl, -, hL, hk⟩
    have HK2 := Lib.hid (HK.out.then_ hk)
    have HB := Lib.hid (And.intro (fun y (h : y ∈ tLev s) => tLev_size h) (tLev_len s))
    have hn : (tLev s).length ≤ 60001 := by have := tLev_len s; omega
    generalize tLev s = l at *
    have HL := Lib.hid hL
    clear hk hL HK
    go_wp2_with fail
    go_loop [4] (fun i => ∃ k : Nat, k ≤ l.length ∧ i = .int .i64 k ∧ Hid (∀ j (h : j < l.length), j < k → tOk l[j] (j + 1 == l.length) = true)) (fun i => l.length - (intOf i).toNat)
    case atStart => exact ⟨0, by omega, rfl, Lib.hid fun j h h2 => by omega⟩
    case round =>
      obtain ⟨k, hk, rfl, HR⟩ := hrel
      by_cases hlt : k < l.length
      · obtain ⟨g, o, rfl, hb, hcx⟩ := HL.out.at_ (k := k) (by simpa using hlt)
        rw [List.getElem_map] at hcx
        obtain ⟨y, hy⟩ : ∃ y, l[k] = y := ⟨_, rfl⟩
        have HN := Lib.hid (show tOk y (k + 1 == l.length) = true → ∀ j (h : j < l.length), j < k + 1 → tOk l[j] (j + 1 == l.length) = true from fun hq j h h2 => by
          rcases Nat.lt_or_ge j k with g | g
          · exact HR.out j h g
          · obtain rfl : j = k := by omega
            rw [hy]
            exact hq)
        have HF := Lib.hid (show tOk y (k + 1 == l.length) = false → tFilter s = false from fun hq => by
          rw [HT.out, ← Bool.not_eq_true, tOks_at]
          intro h
          have := h k hlt
          rw [hy, hq] at this
          cases this)
        have hyl : y.length ≤ 60000 := by have := HB.out.1 y (by rw [← hy]; exact List.getElem_mem hlt); omega
        rw [hy] at hcx
        obtain ⟨Y, hY⟩ : ∃ Y : ByteArray, (⟨y.toArray⟩ : ByteArray) = Y := ⟨_, rfl⟩
        have HG := Lib.hid (show Calls Tryz.prog 55 #[.string Y] w2 fun e w' => e = .returned (.int .i64 (tSignN y : Nat)) ∧ w2 = w' by
          rw [← hY]
          exact rSigns_any w2 y hyl)
        have eY : Y.toList = y := by rw [← hY, Lib.toList_data]
        rw [hY] at hcx
        clear hy hb
        go_wp2_with fail
        refine HG.out.mono ?_
        rintro e w3 ⟨rfl, rfl⟩
        cases hsg : tSign y with
        | false =>
          have h0 := (tSignN_zero y).2 hsg
          have HO := Lib.hid (show tOk y (k + 1 == l.length) = true by unfold tOk; rw [hsg]; simp)
          rw [h0]
          clear h0 hsg eY hY
          go_wp2_with fail
          exact ⟨⟨k + 1, by omega, by go_num, Lib.hid (HN.out HO.out)⟩, by simp [intOf]; omega⟩
        | true =>
          have hpos : 0 < tSignN y := by
            rcases Nat.eq_zero_or_pos (tSignN y) with h | h
            · rw [(tSignN_zero y).1 h] at hsg; cases hsg
            · exact h
          obtain ⟨q, hq⟩ : ∃ q, tSignN y = q := ⟨_, rfl⟩
          rw [hq] at hpos ⊢
          have HO := Lib.hid (show tOk y (k + 1 == l.length) = (y == [43] || (y == [35] && (k + 1 == l.length))) by unfold tOk; rw [hsg]; simp)
          clear hq hsg
          by_cases h43 : y = [43]
          · have e43 : (Y.toList == [43]) = true := by rw [eY, h43]; rfl
            have HP := Lib.hid (HN.out (by rw [HO.out, h43]; rfl))
            clear h43 eY hY
            go_wp2_with fail
            exact ⟨⟨k + 1, by omega, by go_num, HP⟩, by simp [intOf]; omega⟩
          · have e43 : (Y.toList == [43]) = false := by rw [eY]; simpa using h43
            have n43 : (y == [43]) = false := by simpa using h43
            by_cases h35 : y = [35]
            · have e35 : (Y.toList == [35]) = true := by rw [eY, h35]; rfl
              by_cases hla : k + 1 = l.length
              · have HP := Lib.hid (HN.out (by rw [HO.out, h35, hla]; simp))
                have hkl : ((k : Int) == l.length - 1) = true := by rw [beq_iff_eq]; omega
                clear h35 eY hY h43 n43
                go_wp2_with fail
                exact ⟨⟨k + 1, by omega, by go_num, HP⟩, by simp [intOf]; omega⟩
              · have HP := Lib.hid (HF.out (by rw [HO.out, h35]; simpa using hla))
                have hkl : ((k : Int) == l.length - 1) = false := by rw [beq_eq_false_iff_ne]; omega
                clear h35 eY hY h43 n43
                go_wp2_with fail
                go_ret
                exact ⟨by rw [HP.out]; rfl, HK2.out⟩
            · have e35 : (Y.toList == [35]) = false := by rw [eY]; simpa using h35
              have HP := Lib.hid (HF.out (by rw [HO.out, n43, show (y == [35]) = false by simpa using h35]; rfl))
              clear h35 eY hY h43 n43
              go_wp2_with fail
              go_ret
              exact ⟨by rw [HP.out]; rfl, HK2.out⟩
      · obtain rfl : k = l.length := by omega
        have HP := Lib.hid (show tFilter s = true by rw [HT.out, tOks_at]; exact fun j h => HR.out j h h)
        go_wp2_with fail
        go_ret
        exact ⟨by rw [HP.out]; rfl, HK2.out⟩
end Go.Proofs.YtfglgeoookbppaaGreatDoor

namespace Go.Proofs.YtfglgeoookbppaaGreatDoor
open Go.RowKit Go.Shelf

set_option maxRecDepth 100000 in
set_option maxHeartbeats 1000000 in
theorem rrClient_any (w : World) (s : List UInt8) (hs : s.length ≤ 60000) : Calls Tryz.prog 20 #[.string ⟨s.toArray⟩] w fun e w' => e = .returned (.bool (rcClient s)) ∧ Keeps w w' [] := by
  obtain ⟨S, hS⟩ : ∃ S : ByteArray, (⟨s.toArray⟩ : ByteArray) = S := ⟨_, rfl⟩
  have hz : S.size = s.length := by rw [← hS]; rfl
  have HR := Lib.hid (show ∀ w : World, Calls Tryz.prog 52 #[.string S] w (RnPost w s) from fun w => by
    rw [← hS]
    exact rRunes_any w s hs)
  rw [hS]
  clear hS
  by_cases h0 : s.length < 1
  · have HT := Lib.hid (show rcClient s = false by unfold rcClient; rw [decide_eq_false (by omega)]; rfl)
    go_enter Tryz.func20, Tryz.ntmps20
    go_wp2_with fail
    go_ret
    exact ⟨by rw [HT.out]; rfl, Keeps.refl _ _⟩
  · by_cases h2 : 23 < s.length
    · have HT := Lib.hid (show rcClient s = false by unfold rcClient; rw [decide_eq_false (show ¬ s.length ≤ 23 by omega), Bool.false_and, Bool.and_false])
      have hp : 0 < s.length := by omega
      clear h0
      go_enter Tryz.func20, Tryz.ntmps20
      go_wp2_with fail
      go_ret
      exact ⟨by rw [HT.out]; rfl, Keeps.refl _ _⟩
    · have HT := Lib.hid (show rcClient s = uGood s by
        unfold rcClient
        rw [decide_eq_true (by omega), decide_eq_true (by omega)]
        rfl)
      have hp : 0 < s.length := by omega
      have hq : s.length ≤ 23 := by omega
      clear h0 h2
      go_enter Tryz.func20, Tryz.ntmps20
      go_wp2_with fail
      refine (HR.out _).mono ?_
      rintro e w1 ⟨v, a, rfl, ha, hk⟩
      have HK := Lib.hid hk
      clear hk
      cases hg : uGood s with
      | true =>
        rw [hg, if_pos rfl] at ha
        subst ha
        rw [hg] at HT
        clear hg
        go_wp2_with fail
        go_ret
        exact ⟨by rw [HT.out]; rfl, HK.out⟩
      | false =>
        rw [hg, if_neg (by simp)] at ha
        rw [hg] at HT
        have hb : decide (a < 0) = false := decide_eq_false (by omega)
        clear hg ha
        go_wp2_with fail
        go_ret
        exact ⟨by rw [HT.out]; rfl, HK.out⟩
set_option maxRecDepth 100000 in
theorem rrNumber_any (w : World) (n : Int) : Calls Tryz.prog 21 #[.int .i64 n] w fun e w' => e = .returned (.bool (inN n 0 4611686018427387904)) ∧ w = w' := by
  by_cases h1 : 0 ≤ n
  · have d1 : decide (n ≥ 0) = true := decide_eq_true h1
    by_cases h2 : n ≤ 4611686018427387904
    · have d2 : decide (n ≤ 4611686018427387904) = true := decide_eq_true h2
      have HT := Lib.hid (show inN n 0 4611686018427387904 = true from inN_iff.2 ⟨h1, h2⟩)
      go_enter Tryz.func21, Tryz.ntmps21
      go_wp2_with fail
      go_ret
      exact ⟨by rw [HT.out]; rfl, rfl⟩
    · have d2 : decide (n ≤ 4611686018427387904) = false := decide_eq_false h2
      have HT := Lib.hid (show inN n 0 4611686018427387904 = false by unfold inN; rw [d2, Bool.and_false])
      go_enter Tryz.func21, Tryz.ntmps21
      go_wp2_with fail
      go_ret
      exact ⟨by rw [HT.out]; rfl, rfl⟩
  · have d1 : decide (n ≥ 0) = false := decide_eq_false h1
    have HT := Lib.hid (show inN n 0 4611686018427387904 = false by unfold inN; rw [decide_eq_false h1]; rfl)
    go_enter Tryz.func21, Tryz.ntmps21
    go_wp2_with fail
    go_ret
    exact ⟨by rw [HT.out]; rfl, rfl⟩
set_option maxRecDepth 100000 in
theorem rrPlaced_any (w : World) (k : Int) : Calls Tryz.prog 9 #[.int .i64 k] w fun e w' => e = .returned (.bool (rcPlaced k)) ∧ w = w' := by
  by_cases h1 : k = 2
  · subst h1
    go_enter Tryz.func9, Tryz.ntmps9
    go_wp2_with fail
    go_ret
    exact ⟨rfl, rfl⟩
  · have e1 : (k == 2) = false := by simpa using h1
    by_cases h2 : k = 5
    · subst h2
      go_enter Tryz.func9, Tryz.ntmps9
      go_wp2_with fail
      go_ret
      exact ⟨rfl, rfl⟩
    · have e2 : (k == 5) = false := by simpa using h2
      have HT := Lib.hid (show rcPlaced k = false by unfold rcPlaced; rw [decide_eq_false h1, decide_eq_false h2]; rfl)
      go_enter Tryz.func9, Tryz.ntmps9
      go_wp2_with fail
      go_ret
      exact ⟨by rw [HT.out]; rfl, rfl⟩
def rcFew (x : Rw) : Bool := decide (x.c.length ≤ 3000) && (decide (x.t.length ≤ 3000) && decide (x.b.length ≤ 3000))
set_option maxRecDepth 100000 in
set_option maxHeartbeats 1000000 in
theorem rcFew_any (x : Rw) (w : World) : Calls Tryz.prog 7 #[rwV x] w (TruePost w (rcFew x)) := by
  have HT := Lib.hid (show rcFew x = (decide (x.c.length ≤ 3000) && (decide (x.t.length ≤ 3000) && decide (x.b.length ≤ 3000))) from rfl)
  obtain ⟨k, c, seq, id, t, b, q, r, s⟩ := x
  simp only at HT
  obtain ⟨b1, h1⟩ : ∃ b1, decide (c.length ≤ 3000) = b1 := ⟨_, rfl⟩
  obtain ⟨b2, h2⟩ : ∃ b2, decide (t.length ≤ 3000) = b2 := ⟨_, rfl⟩
  obtain ⟨b3, h3⟩ : ∃ b3, decide (b.length ≤ 3000) = b3 := ⟨_, rfl⟩
  rw [h1, h2, h3] at HT
  have g1 : decide ((c.length : Int) ≤ 3000) = b1 := by rw [← h1, Bool.eq_iff_iff]; simp; omega
  have g2 : decide ((t.length : Int) ≤ 3000) = b2 := by rw [← h2, Bool.eq_iff_iff]; simp; omega
  have g3 : decide ((b.length : Int) ≤ 3000) = b3 := by rw [← h3, Bool.eq_iff_iff]; simp; omega
  obtain ⟨W0, hW0⟩ : ∃ W0, w.alloc (.cells #[.int .i64 k, .string ⟨c.toArray⟩, .int .i64 seq, .int .i64 id, .string ⟨t.toArray⟩, .string ⟨b.toArray⟩, .int .i64 q, .bool r, .int .i64 s] 25) = W0 := ⟨_, rfl⟩
  have k0 : Keeps w W0 [] := by rw [← hW0]; exact Keeps.alloc _ _
  have r0 : Row W0 w.heap.size 25 #[.int .i64 k, .string ⟨c.toArray⟩, .int .i64 seq, .int .i64 id, .string ⟨t.toArray⟩, .string ⟨b.toArray⟩, .int .i64 q, .bool r, .int .i64 s] := by rw [← hW0]; exact Row.new _ _ _
  have HR := Lib.hid (And.intro k0 r0)
  have x0 := r0.cell 0
  have x1 := r0.cell 1
  have x2 := r0.cell 2
  have x3 := r0.cell 3
  have x4 := r0.cell 4
  have x5 := r0.cell 5
  have x6 := r0.cell 6
  have x7 := r0.cell 7
  have x8 := r0.cell 8
  simp only [List.getElem?_toArray, List.getElem?_cons_zero, List.getElem?_cons_succ] at x0 x1 x2 x3 x4 x5 x6 x7 x8
  clear k0 r0
  have HK := Lib.hid HR.out.1
  cases b1 with
  | false =>
    go_enter Tryz.func7, Tryz.ntmps7
    go_wp2_with fail
    go_ret
    exact ⟨by rw [HT.out]; rfl, HK.out⟩
  | true =>
    cases b2 with
    | false =>
      go_enter Tryz.func7, Tryz.ntmps7
      go_wp2_with fail
      go_ret
      exact ⟨by rw [HT.out]; rfl, HK.out⟩
    | true =>
      cases b3 with
      | false =>
        go_enter Tryz.func7, Tryz.ntmps7
        go_wp2_with fail
        go_ret
        exact ⟨by rw [HT.out]; rfl, HK.out⟩
      | true =>
        go_enter Tryz.func7, Tryz.ntmps7
        go_wp2_with fail
        go_ret
        exact ⟨by rw [HT.out]; rfl, HK.out⟩
end Go.Proofs.YtfglgeoookbppaaGreatDoor

namespace Go.Proofs.YtfglgeoookbppaaGreatDoor
open Go.RowKit Go.Shelf

def rrNone (x : Rw) : Bool := x.t.isEmpty && (x.b.isEmpty && x.q == 0)
theorem eq_nil (l : List UInt8) : (([] : List UInt8) == l) = l.isEmpty := by cases l <;> rfl
theorem zero_beq (n : Int) : ((0 : Int) == n) = (n == 0) := by rw [Bool.eq_iff_iff, beq_iff_eq, beq_iff_eq]; exact eq_comm
theorem false_beq (r : Bool) : (false == r) = !r := by cases r <;> rfl
theorem rok (x : Rw) {k : Int} (hk : x.k = k) (hi : rcIs k = true) : rcOk x = (rcMay k x && rwEq { rcHas k x with k := k } x) := by
  unfold rcOk
  rw [hk, hi]
  rfl
theorem rok1 (c : List UInt8) (seq id : Int) (t b : List UInt8) (q : Int) (r : Bool) (s : Int) : rcOk ⟨1, c, seq, id, t, b, q, r, s⟩ = ((rcClient c && (inN seq 0 4611686018427387904 && inN id 0 4611686018427387904)) && (t.isEmpty && (b.isEmpty && ((q == 0) && ((!r) && (s == 0)))))) := by
  rw [rok _ rfl rfl]
  show (_ && ((1 : Int) == 1 && (c == c && (seq == seq && (id == id && ([] == t && ([] == b && (0 == q && (false == r && 0 == s))))))))) = _
  rw [eq_nil, eq_nil, zero_beq, zero_beq, false_beq]
  simp only [beq_self_eq_true, Bool.true_and]
  rfl
theorem rok2 (c : List UInt8) (seq id : Int) (t b : List UInt8) (q : Int) (r : Bool) (s : Int) : rcOk ⟨2, c, seq, id, t, b, q, r, s⟩ = ((rcClient c && (tFilter t && inN q 0 2)) && ((seq == 0) && ((id == 0) && (b.isEmpty && ((!r) && (s == 0)))))) := by
  rw [rok _ rfl rfl]
  show (_ && ((2 : Int) == 2 && (c == c && (0 == seq && (0 == id && (t == t && ([] == b && (q == q && (false == r && 0 == s))))))))) = _
  rw [eq_nil, zero_beq, zero_beq, zero_beq, false_beq]
  simp only [beq_self_eq_true, Bool.true_and]
  rfl
theorem rok3 (c : List UInt8) (seq id : Int) (t b : List UInt8) (q : Int) (r : Bool) (s : Int) : rcOk ⟨3, c, seq, id, t, b, q, r, s⟩ = (rcClient c && (inN seq 0 4611686018427387904 && (tName t && (decide (b.length ≤ 2000) && (inN q 1 2 && rcStage ⟨3, c, seq, id, t, b, q, r, s⟩))))) := by
  rw [rok _ rfl rfl, show rwEq { rcHas 3 ⟨3, c, seq, id, t, b, q, r, s⟩ with k := 3 } ⟨3, c, seq, id, t, b, q, r, s⟩ = true from (rwEq_iff _ _).2 rfl, Bool.and_true]
  rfl
theorem rok4 (c : List UInt8) (seq id : Int) (t b : List UInt8) (q : Int) (r : Bool) (s : Int) : rcOk ⟨4, c, seq, id, t, b, q, r, s⟩ = ((rcClient c && inN id 1 65535) && ((seq == 0) && (t.isEmpty && (b.isEmpty && ((q == 0) && ((!r) && (s == 0))))))) := by
  rw [rok _ rfl rfl]
  show (_ && ((4 : Int) == 4 && (c == c && (0 == seq && (id == id && ([] == t && ([] == b && (0 == q && (false == r && 0 == s))))))))) = _
  rw [eq_nil, eq_nil, zero_beq, zero_beq, zero_beq, false_beq]
  simp only [beq_self_eq_true, Bool.true_and]
  rfl
theorem rok5 (c : List UInt8) (seq id : Int) (t b : List UInt8) (q : Int) (r : Bool) (s : Int) : rcOk ⟨5, c, seq, id, t, b, q, r, s⟩ = ((tName t && (inN (b.length : Nat) 1 2000 && inN q 0 2)) && (c.isEmpty && ((seq == 0) && ((id == 0) && ((!r) && (s == 0)))))) := by
  rw [rok _ rfl rfl]
  show (_ && ((5 : Int) == 5 && ([] == c && (0 == seq && (0 == id && (t == t && (b == b && (q == q && (false == r && 0 == s))))))))) = _
  rw [eq_nil, zero_beq, zero_beq, zero_beq, false_beq]
  simp only [beq_self_eq_true, Bool.true_and]
  rfl
end Go.Proofs.YtfglgeoookbppaaGreatDoor
