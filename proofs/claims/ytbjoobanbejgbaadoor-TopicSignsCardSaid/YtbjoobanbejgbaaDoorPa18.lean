/- Package topic, plain: levels, names, filters, what meets. Package topic, plain: levels put together; within is told by what is met. Package topic, plain: where one is not within another, one of its names tells. Package topic, plain: a name meets itself and nothing else; a name with signs. -/
import Derived.Test.YtbjoobanbejgbaaDoorPa8
import Derived.Lib.SplitLaws

namespace Go.Proofs.YtbjoobanbejgbaaDoor
open Go

/-- The levels of a text. -/
def tLev : List UInt8 → List (List UInt8)
  | [] => [[]]
  | a :: s => if a = 47 then [] :: tLev s else match tLev s with
    | [] => [[a]]
    | l :: ls => (a :: l) :: ls
theorem tLev_ne (s : List UInt8) : tLev s ≠ [] := by
  cases s with
  | nil => simp [tLev]
  | cons a s =>
    unfold tLev
    split
    · simp
    · split <;> simp
theorem tLev_other {a : UInt8} {s : List UInt8} (h : a ≠ 47) : ∃ l ls, tLev s = l :: ls ∧ tLev (a :: s) = (a :: l) :: ls := by
  cases hs : tLev s with
  | nil => exact absurd hs (tLev_ne s)
  | cons l ls => exact ⟨l, ls, rfl, by rw [tLev, if_neg h, hs]⟩
theorem index_one (a : UInt8) (s : List UInt8) : Lib.index (a :: s) [47] = if a = 47 then 0 else if Lib.index s [47] = -1 then -1 else Lib.index s [47] + 1 := by
  rw [Lib.index]
  by_cases h : a = 47
  · subst h
    simp [List.isPrefixOf]
  · have h' : ([47] : List UInt8).isPrefixOf (a :: s) = false := by
      have : ((47 : UInt8) == a) = false := by simpa using fun e => h e.symm
      simp [List.isPrefixOf, this]
    rw [h', if_neg Bool.false_ne_true, if_neg h]
    by_cases hi : Lib.index s [47] = -1
    · rw [if_pos (beq_iff_eq.2 hi), if_pos hi]
    · rw [if_neg (fun e => hi (beq_iff_eq.1 e)), if_neg hi]
theorem split_lev (s : List UInt8) : Lib.split s [47] = tLev s := by
  induction s with
  | nil => rfl
  | cons a s ih =>
    unfold Lib.split at ih ⊢
    by_cases h : a = 47
    · subst h
      rw [Lib.count_cons_eq, Nat.add_comm, Lib.splitK, tLev, if_pos rfl, index_one, if_pos rfl, ← ih]
      rfl
    · rw [Lib.count_cons_ne a 47 s h]
      obtain ⟨l, ls, e1, e2⟩ := tLev_other (s := s) h
      rw [e2]
      rw [e1] at ih
      cases hk : Lib.count s [47] with
      | zero =>
        rw [hk, Lib.splitK] at ih
        rw [Lib.splitK]
        injection ih with i1 i2
        rw [i1, i2]
      | succ k =>
        rw [hk, Lib.splitK] at ih
        rw [Lib.splitK, index_one, if_neg h]
        have hge := Lib.index_ge s [47]
        by_cases hi : Lib.index s [47] = -1
        · rw [if_pos (beq_iff_eq.2 hi)] at ih
          rw [if_pos hi, if_pos (show ((-1 : Int) == -1) = true from rfl)]
          injection ih with i1 i2
          rw [i1, i2]
        · rw [if_neg (fun e => hi (beq_iff_eq.1 e))] at ih
          rw [if_neg hi, if_neg (fun e => by have := beq_iff_eq.1 e; omega)]
          injection ih with i1 i2
          obtain ⟨m, hm⟩ : ∃ m : Nat, Lib.index s [47] = m := ⟨(Lib.index s [47]).toNat, by omega⟩
          rw [hm] at i1 i2 ⊢
          have e3 : ((m : Int) + 1).toNat = m + 1 := by omega
          have e4 : ((m : Int)).toNat = m := by omega
          rw [e3]
          rw [e4] at i1 i2
          rw [Nat.add_zero, List.take_succ_cons, ← i1, ← i2, Nat.add_zero, List.length_singleton, List.drop_succ_cons]
          simp
/-- Has a text a sign? -/
def tSign (s : List UInt8) : Bool := s.any fun b => b == 43 || b == 35
/-- May it be said, and has it a fitting length? -/
def tSaid (s : List UInt8) : Bool := decide (1 ≤ s.length) && decide (s.length ≤ 200) && uGood s
def tName (s : List UInt8) : Bool := tSaid s && !tSign s
/-- Is a level right: the last one, if it is so told? -/
def tOk (x : List UInt8) (last : Bool) : Bool := x == [43] || (x == [35] && last) || !tSign x
def tOks : List (List UInt8) → Bool
  | [] => true
  | [x] => tOk x true
  | x :: y :: l => tOk x false && tOks (y :: l)
def tFilter (s : List UInt8) : Bool := tSaid s && tOks (tLev s)
/-- Do levels of a filter meet those of a name? -/
def tMeetL : List (List UInt8) → List (List UInt8) → Bool
  | [], n => n.isEmpty
  | f :: fs, n => if f = [35] then true else match n with
    | [] => false
    | x :: ns => (f == [43] || f == x) && tMeetL fs ns
/-- May a filter meet a name that begins so? -/
def tStarts (f n : List UInt8) : Bool := !(([36] : List UInt8).isPrefixOf n) || (!(([43] : List UInt8).isPrefixOf f) && !(([35] : List UInt8).isPrefixOf f))
def tMeets (f n : List UInt8) : Bool := tStarts f n && tMeetL (tLev f) (tLev n)
/-- Do levels meet all that others meet? -/
def tWithL : List (List UInt8) → List (List UInt8) → Bool
  | a, [] => a.isEmpty
  | a, b :: bs => if b = [35] then true else match a with
    | [] => false
    | x :: as => if x = [35] then false else (b == [43] || x == b) && tWithL as bs
def tWide (a : List UInt8) : List (List UInt8) := if a = [35] ∨ a = [47, 35] then (tLev a).dropLast ++ [[43], [35]] else tLev a
def tWithin (a b : List UInt8) : Bool := tStarts b a && tWithL (tWide a) (tLev b)
theorem tLev_len (s : List UInt8) : (tLev s).length ≤ s.length + 1 := by
  induction s with
  | nil => simp [tLev]
  | cons a s ih =>
    by_cases h : a = 47
    · rw [tLev, if_pos h]; simp; omega
    · obtain ⟨l, ls, e1, e2⟩ := tLev_other (s := s) h
      rw [e2]
      rw [e1] at ih
      simp at ih ⊢
      omega
theorem tLev_size {s : List UInt8} {x : List UInt8} (h : x ∈ tLev s) : x.length ≤ s.length := by
  induction s generalizing x with
  | nil => simp [tLev] at h; subst h; simp
  | cons a s ih =>
    by_cases e : a = 47
    · rw [tLev, if_pos e] at h
      rcases List.mem_cons.1 h with rfl | h
      · simp
      · have := ih h; simp; omega
    · obtain ⟨l, ls, e1, e2⟩ := tLev_other (s := s) e
      rw [e2] at h
      rcases List.mem_cons.1 h with rfl | h
      · have := ih (x := l) (by rw [e1]; simp)
        simp; omega
      · have := ih (x := x) (by rw [e1]; exact List.mem_cons_of_mem _ h)
        simp; omega
/-- What is left of a name's levels behind some of a filter's. -/
def mtRun : List (List UInt8) → List (List UInt8) → Option (List (List UInt8))
  | [], n => some n
  | f :: fs, n => if f = [35] then none else match n with
    | [] => none
    | x :: ns => if (f == [43] || f == x) = true then mtRun fs ns else none
theorem mtRun_cons (f : List UInt8) (fs n : List (List UInt8)) : mtRun (f :: fs) n = if f = [35] then none else match n with
    | [] => none
    | x :: ns => if (f == [43] || f == x) = true then mtRun fs ns else none := by cases n <;> rfl
theorem tMeetL_cons (f : List UInt8) (fs n : List (List UInt8)) : tMeetL (f :: fs) n = if f = [35] then true else match n with
    | [] => false
    | x :: ns => (f == [43] || f == x) && tMeetL fs ns := by cases n <;> rfl
theorem mtRun_snoc (fs : List (List UInt8)) (g : List UInt8) (n : List (List UInt8)) : mtRun (fs ++ [g]) n = (mtRun fs n).bind fun r => mtRun [g] r := by
  induction fs generalizing n with
  | nil => rfl
  | cons f fs ih =>
    rw [List.cons_append, mtRun_cons, mtRun_cons]
    split
    · rfl
    · cases n with
      | nil => rfl
      | cons x ns =>
        simp only
        split
        · exact ih ns
        · rfl
theorem tMeetL_run {fs n r : List (List UInt8)} (h : mtRun fs n = some r) (gs : List (List UInt8)) : tMeetL (fs ++ gs) n = tMeetL gs r := by
  induction fs generalizing n with
  | nil => injection h with h; subst h; rfl
  | cons f fs ih =>
    rw [mtRun_cons] at h
    by_cases hf : f = [35]
    · rw [if_pos hf] at h; cases h
    · rw [if_neg hf] at h
      cases n with
      | nil => cases h
      | cons x ns =>
        simp only at h
        by_cases hm : (f == [43] || f == x) = true
        · rw [if_pos hm] at h
          rw [List.cons_append, tMeetL_cons, if_neg hf]
          simp only [hm, Bool.true_and]
          exact ih h
        · rw [if_neg hm] at h; cases h
theorem tMeetL_no {g : List UInt8} {gs r : List (List UInt8)} (h35 : g ≠ [35]) (h : mtRun [g] r = none) : tMeetL (g :: gs) r = false := by
  rw [mtRun_cons, if_neg h35] at h
  rw [tMeetL_cons, if_neg h35]
  cases r with
  | nil => rfl
  | cons x ns =>
    simp only at h ⊢
    by_cases hm : (g == [43] || g == x) = true
    · rw [if_pos hm] at h; cases h
    · rw [Bool.eq_false_iff.2 hm]; rfl
theorem mtRun_one {g x : List UInt8} {ns : List (List UInt8)} (h35 : g ≠ [35]) : mtRun [g] (x :: ns) = if (g == [43] || g == x) = true then some ns else none := by
  rw [mtRun_cons, if_neg h35]
  rfl
theorem mtRun_drop {fs n r : List (List UInt8)} (h : mtRun fs n = some r) : r = n.drop fs.length ∧ fs.length ≤ n.length := by
  induction fs generalizing n with
  | nil => injection h with h; subst h; exact ⟨rfl, Nat.zero_le _⟩
  | cons f fs ih =>
    rw [mtRun_cons] at h
    by_cases hf : f = [35]
    · rw [if_pos hf] at h; cases h
    · rw [if_neg hf] at h
      cases n with
      | nil => cases h
      | cons x ns =>
        simp only at h
        by_cases hm : (f == [43] || f == x) = true
        · rw [if_pos hm] at h
          have := ih h
          exact ⟨this.1, by simpa using this.2⟩
        · rw [if_neg hm] at h; cases h
theorem tWithL_nil (a : List (List UInt8)) : tWithL a [] = a.isEmpty := by cases a <;> rfl
theorem tWithL_cons (a : List (List UInt8)) (b : List UInt8) (bs : List (List UInt8)) : tWithL a (b :: bs) = if b = [35] then true else match a with
    | [] => false
    | x :: as => if x = [35] then false else (b == [43] || x == b) && tWithL as bs := by cases a <;> rfl
end Go.Proofs.YtbjoobanbejgbaaDoor

namespace Go.Proofs.YtbjoobanbejgbaaDoor
open Go

/-- Levels put together. -/
def tJoin : List (List UInt8) → List UInt8
  | [] => []
  | [x] => x
  | x :: y :: l => x ++ 47 :: tJoin (y :: l)
theorem tLev_app (s t : List UInt8) : tLev (s ++ 47 :: t) = tLev s ++ tLev t := by
  induction s with
  | nil =>
    show tLev (47 :: t) = [] :: tLev t
    rw [tLev, if_pos rfl]
  | cons a s ih =>
    by_cases h : a = 47
    · subst h
      rw [List.cons_append, tLev, if_pos rfl, ih, tLev, if_pos rfl]
      rfl
    · obtain ⟨l, ls, e1, e2⟩ := tLev_other (s := s) h
      obtain ⟨l', ls', e3, e4⟩ := tLev_other (s := s ++ 47 :: t) h
      rw [ih, e1, List.cons_append] at e3
      injection e3 with e5 e6
      rw [List.cons_append, e4, e2, ← e5, ← e6]
      rfl
theorem tLev_plain {s : List UInt8} (h : (47 : UInt8) ∉ s) : tLev s = [s] := by
  induction s with
  | nil => rfl
  | cons a s ih =>
    obtain ⟨h1, h2⟩ : (47 : UInt8) ≠ a ∧ (47 : UInt8) ∉ s := by simpa using h
    obtain ⟨l, ls, e1, e2⟩ := tLev_other (s := s) (Ne.symm h1)
    rw [ih h2] at e1
    injection e1 with e3 e4
    rw [e2, ← e3, ← e4]
theorem tLev_join {l : List (List UInt8)} (h : l ≠ []) (h2 : ∀ x ∈ l, (47 : UInt8) ∉ x) : tLev (tJoin l) = l := by
  induction l with
  | nil => exact absurd rfl h
  | cons x l ih =>
    cases l with
    | nil => exact tLev_plain (h2 x (by simp))
    | cons y l =>
      rw [tJoin, tLev_app, ih (by simp) (fun z hz => h2 z (List.mem_cons_of_mem _ hz)), tLev_plain (h2 x (by simp))]
      rfl
theorem tJoin_lev (s : List UInt8) : tJoin (tLev s) = s := by
  induction s with
  | nil => rfl
  | cons a s ih =>
    by_cases h : a = 47
    · subst h
      rw [tLev, if_pos rfl]
      cases hs : tLev s with
      | nil => exact absurd hs (tLev_ne s)
      | cons x l =>
        rw [hs] at ih
        rw [tJoin, ih]
        rfl
    · obtain ⟨l, ls, e1, e2⟩ := tLev_other (s := s) h
      rw [e1] at ih
      rw [e2]
      cases ls with
      | nil =>
        rw [tJoin] at ih ⊢
        rw [ih]
      | cons y ls =>
        rw [tJoin] at ih ⊢
        rw [List.cons_append, ih]
theorem tLev_47 {s x : List UInt8} (h : x ∈ tLev s) : (47 : UInt8) ∉ x := by
  induction s generalizing x with
  | nil => simp [tLev] at h; subst h; simp
  | cons a s ih =>
    by_cases e : a = 47
    · rw [tLev, if_pos e] at h
      rcases List.mem_cons.1 h with rfl | h
      · simp
      · exact ih h
    · obtain ⟨l, ls, e1, e2⟩ := tLev_other (s := s) e
      rw [e2] at h
      rcases List.mem_cons.1 h with rfl | h
      · have := ih (x := l) (by rw [e1]; simp)
        simpa using And.intro (fun h : (47 : UInt8) = a => e h.symm) this
      · exact ih (by rw [e1]; exact List.mem_cons_of_mem _ h)
theorem tJoin_good {l : List (List UInt8)} (h : uGood (tJoin l) = true) : ∀ x ∈ l, uGood x = true := by
  induction l with
  | nil => intro x hx; cases hx
  | cons x l ih =>
    cases l with
    | nil => intro y hy; simp at hy; subst hy; exact h
    | cons y l =>
      rw [tJoin] at h
      obtain ⟨h1, h2⟩ := uGood_cut (by decide) (by decide) h
      intro z hz
      rcases List.mem_cons.1 hz with rfl | hz
      · exact h1
      · exact ih h2 z hz
theorem good_tJoin {l : List (List UInt8)} (h : ∀ x ∈ l, uGood x = true) : uGood (tJoin l) = true := by
  induction l with
  | nil => rfl
  | cons x l ih =>
    cases l with
    | nil => exact h x (by simp)
    | cons y l =>
      rw [tJoin, uGood_append (h x (by simp)), uGood_ascii (by decide) (by decide)]
      exact ih fun z hz => h z (List.mem_cons_of_mem _ hz)
theorem tSign_join {l : List (List UInt8)} : tSign (tJoin l) = l.any tSign := by
  induction l with
  | nil => rfl
  | cons x l ih =>
    cases l with
    | nil => simp [tJoin]
    | cons y l =>
      rw [tJoin, List.any_cons, ← ih]
      unfold tSign
      rw [List.any_append, List.any_cons]
      rfl
theorem tJoin_snoc {l : List (List UInt8)} (h : l ≠ []) (x : List UInt8) : tJoin (l ++ [x]) = tJoin l ++ 47 :: x := by
  induction l with
  | nil => exact absurd rfl h
  | cons y l ih =>
    cases l with
    | nil => rfl
    | cons z l =>
      rw [List.cons_append, List.cons_append, tJoin, tJoin, ← List.cons_append, ih (by simp), List.append_assoc]
      rfl
theorem tJoin_nil {l : List (List UInt8)} (h : tJoin l = []) : l = [] ∨ l = [[]] := by
  cases l with
  | nil => exact .inl rfl
  | cons x l =>
    cases l with
    | nil => rw [tJoin] at h; subst h; exact .inr rfl
    | cons y l => rw [tJoin] at h; simp at h
theorem tJoin_lens {l m : List (List UInt8)} (h : l.map List.length = m.map List.length) : (tJoin l).length = (tJoin m).length := by
  induction l generalizing m with
  | nil =>
    cases m with
    | nil => rfl
    | cons y m => simp at h
  | cons x l ih =>
    cases m with
    | nil => simp at h
    | cons y m =>
      simp only [List.map_cons, List.cons.injEq] at h
      cases l with
      | nil =>
        cases m with
        | nil => exact h.1
        | cons z m => simp at h
      | cons z l =>
        cases m with
        | nil => simp at h
        | cons v m =>
          rw [tJoin, tJoin, List.length_append, List.length_append, List.length_cons, List.length_cons, ih h.2, h.1]
/-- A name out of levels. -/
theorem name_join {m : List (List UInt8)} (h0 : m ≠ []) (h : ∀ x ∈ m, (47 : UInt8) ∉ x ∧ uGood x = true ∧ tSign x = false) (h1 : 1 ≤ (tJoin m).length) (h2 : (tJoin m).length ≤ 200) : tName (tJoin m) = true ∧ tLev (tJoin m) = m := by
  refine ⟨?_, tLev_join h0 fun x hx => (h x hx).1⟩
  unfold tName tSaid
  rw [decide_eq_true h1, decide_eq_true h2, good_tJoin fun x hx => (h x hx).2.1, tSign_join, List.any_eq_false.2 fun x hx => by rw [(h x hx).2.2]; simp]
  rfl
theorem tName_levels {s : List UInt8} (h : tName s = true) : s ≠ [] ∧ s.length ≤ 200 ∧ ∀ x ∈ tLev s, (47 : UInt8) ∉ x ∧ uGood x = true ∧ tSign x = false := by
  unfold tName tSaid at h
  simp only [Bool.and_eq_true, decide_eq_true_eq, Bool.not_eq_true'] at h
  obtain ⟨⟨⟨h1, h2⟩, h3⟩, h4⟩ := h
  refine ⟨fun e => by (rw [e] at h1; simp at h1), h2, fun x hx => ⟨tLev_47 hx, tJoin_good (by rw [tJoin_lev]; exact h3) x hx, ?_⟩⟩
  rw [← tJoin_lev s, tSign_join, List.any_eq_false] at h4
  simpa using h4 x hx
theorem tFilter_levels {s : List UInt8} (h : tFilter s = true) : s ≠ [] ∧ s.length ≤ 200 ∧ ∀ x ∈ tLev s, (47 : UInt8) ∉ x ∧ uGood x = true := by
  unfold tFilter tSaid at h
  simp only [Bool.and_eq_true, decide_eq_true_eq] at h
  obtain ⟨⟨⟨h1, h2⟩, h3⟩, _⟩ := h
  exact ⟨fun e => by (rw [e] at h1; simp at h1), h2, fun x hx => ⟨tLev_47 hx, tJoin_good (by rw [tJoin_lev]; exact h3) x hx⟩⟩
theorem tSign_35 : tSign [35] = true := by decide
theorem tSign_43 : tSign [43] = true := by decide
theorem tOks_cons {x y : List UInt8} {l : List (List UInt8)} : tOks (x :: y :: l) = (tOk x false && tOks (y :: l)) := rfl
theorem tOks_split {L : List (List UInt8)} (h : tOks L = true) : ∃ as : List (List UInt8), (∀ x ∈ as, x = [43] ∨ tSign x = false) ∧ (L = as ∨ L = as ++ [[35]]) := by
  induction L with
  | nil => exact ⟨[], by simp, .inl rfl⟩
  | cons x L ih =>
    cases L with
    | nil =>
      have hx : tOk x true = true := h
      unfold tOk at hx
      simp only [Bool.or_eq_true, Bool.and_true, beq_iff_eq, Bool.not_eq_true'] at hx
      rcases hx with (hx | hx) | hx
      · exact ⟨[x], by simp [hx], .inl rfl⟩
      · exact ⟨[], by simp, .inr (by rw [hx]; rfl)⟩
      · exact ⟨[x], by simp [hx], .inl rfl⟩
    | cons y L =>
      rw [tOks_cons, Bool.and_eq_true] at h
      obtain ⟨as, h1, h2⟩ := ih h.2
      have hx := h.1
      unfold tOk at hx
      simp only [Bool.or_eq_true, Bool.and_false, beq_iff_eq, Bool.not_eq_true', Bool.false_eq_true, or_false] at hx
      refine ⟨x :: as, fun z hz => ?_, ?_⟩
      · rcases List.mem_cons.1 hz with rfl | hz
        · exact hx
        · exact h1 z hz
      · rcases h2 with h2 | h2
        · exact .inl (by rw [h2])
        · exact .inr (by rw [h2]; rfl)
theorem no35 {as : List (List UInt8)} (h : ∀ x ∈ as, x = [43] ∨ tSign x = false) : [35] ∉ as := fun hm => by
  rcases h _ hm with e | e
  · simp at e
  · rw [tSign_35] at e; cases e
theorem tFilter_split {a : List UInt8} (h : tFilter a = true) : ∃ as : List (List UInt8), (∀ x ∈ as, x = [43] ∨ tSign x = false) ∧ (tLev a = as ∨ tLev a = as ++ [[35]]) := by
  unfold tFilter at h
  rw [Bool.and_eq_true] at h
  exact tOks_split h.2
/-- The first level. -/
def hd0 (l : List (List UInt8)) : List UInt8 := l.headD []
def pre1 (c : UInt8) (s : List UInt8) : Bool := ([c] : List UInt8).isPrefixOf s
theorem pre1_cons (c a : UInt8) (s : List UInt8) : pre1 c (a :: s) = (c == a) := by
  unfold pre1
  simp [List.isPrefixOf]
theorem pre1_lev {c : UInt8} (hc : c ≠ 47) (s : List UInt8) : pre1 c s = pre1 c (hd0 (tLev s)) := by
  cases s with
  | nil => rfl
  | cons a s =>
    by_cases h : a = 47
    · subst h
      rw [tLev, if_pos rfl, pre1_cons]
      simpa [hd0, pre1] using hc
    · obtain ⟨l, ls, e1, e2⟩ := tLev_other (s := s) h
      rw [e2]
      show _ = pre1 c (a :: l)
      rw [pre1_cons, pre1_cons]
theorem pre1_sign {c : UInt8} {s : List UInt8} (h : pre1 c s = true) (hc : c = 43 ∨ c = 35) : tSign s = true := by
  cases s with
  | nil => cases h
  | cons a s =>
    rw [pre1_cons, beq_iff_eq] at h
    subst h
    unfold tSign
    rw [List.any_cons]
    rcases hc with rfl | rfl <;> rfl
theorem starts_iff {f n : List UInt8} (h : tFilter f = true) : tStarts f n = true ↔ (pre1 36 (hd0 (tLev n)) = true → hd0 (tLev f) ≠ [43] ∧ hd0 (tLev f) ≠ [35]) := by
  obtain ⟨as, h1, h2⟩ := tFilter_split h
  have hf : tStarts f n = (!(pre1 36 (hd0 (tLev n))) || (!(pre1 43 (hd0 (tLev f))) && !(pre1 35 (hd0 (tLev f))))) := by
    rw [← pre1_lev (by decide), ← pre1_lev (by decide), ← pre1_lev (by decide)]
    rfl
  have hq : ∀ x : List UInt8, (x = [43] ∨ x = [35] ∨ tSign x = false) → ((!(pre1 43 x) && !(pre1 35 x)) = true ↔ x ≠ [43] ∧ x ≠ [35]) := fun x hx => by
    rcases hx with rfl | rfl | hx
    · exact ⟨fun h => absurd h (by decide), fun h => absurd rfl h.1⟩
    · exact ⟨fun h => absurd h (by decide), fun h => absurd rfl h.2⟩
    · have h43 : pre1 43 x = false := by
        rw [← Bool.not_eq_true]
        exact fun h => by rw [pre1_sign h (.inl rfl)] at hx; cases hx
      have h35 : pre1 35 x = false := by
        rw [← Bool.not_eq_true]
        exact fun h => by rw [pre1_sign h (.inr rfl)] at hx; cases hx
      rw [h43, h35]
      exact ⟨fun _ => ⟨fun e => by (rw [e, tSign_43] at hx; cases hx), fun e => by (rw [e, tSign_35] at hx; cases hx)⟩, fun _ => rfl⟩
  have hx : hd0 (tLev f) = [43] ∨ hd0 (tLev f) = [35] ∨ tSign (hd0 (tLev f)) = false := by
    have key : ∀ l : List (List UInt8), (∀ x ∈ l, x = [43] ∨ tSign x = false) → hd0 l = [43] ∨ hd0 l = [35] ∨ tSign (hd0 l) = false := fun l hl => by
      cases l with
      | nil => exact .inr (.inr rfl)
      | cons y l => exact (hl y (by simp)).elim .inl (fun h => .inr (.inr h))
    rcases h2 with h2 | h2
    · rw [h2]; exact key as h1
    · rw [h2]
      cases as with
      | nil => exact .inr (.inl rfl)
      | cons y l => exact (h1 y (by simp)).elim .inl (fun h => .inr (.inr h))
  rw [hf, Bool.or_eq_true, hq _ hx]
  cases pre1 36 (hd0 (tLev n)) <;> simp
theorem withL_sound {a b n : List (List UInt8)} (h : tWithL a b = true) (hm : tMeetL a n = true) : tMeetL b n = true := by
  induction b generalizing a n with
  | nil =>
    rw [tWithL_nil, List.isEmpty_iff] at h
    subst h
    exact hm
  | cons b0 bs ih =>
    rw [tWithL_cons] at h
    rw [tMeetL_cons]
    by_cases hb : b0 = [35]
    · rw [if_pos hb]
    · rw [if_neg hb] at h ⊢
      cases a with
      | nil => cases h
      | cons x as =>
        simp only at h
        by_cases hx : x = [35]
        · rw [if_pos hx] at h; cases h
        · rw [if_neg hx, Bool.and_eq_true, Bool.or_eq_true, beq_iff_eq, beq_iff_eq] at h
          rw [tMeetL_cons, if_neg hx] at hm
          cases n with
          | nil => cases hm
          | cons n0 ns =>
            simp only [Bool.and_eq_true, Bool.or_eq_true, beq_iff_eq] at hm ⊢
            refine ⟨?_, ih h.2 hm.2⟩
            rcases h.1 with e | e
            · exact .inl e
            · rw [← e]; exact hm.1
theorem withL_trans {a b c : List (List UInt8)} (h : tWithL a b = true) (h2 : tWithL b c = true) : tWithL a c = true := by
  induction c generalizing a b with
  | nil =>
    rw [tWithL_nil, List.isEmpty_iff] at h2
    subst h2
    exact h
  | cons c0 cs ih =>
    rw [tWithL_cons] at h2 ⊢
    by_cases hc : c0 = [35]
    · rw [if_pos hc]
    · rw [if_neg hc] at h2 ⊢
      cases b with
      | nil => cases h2
      | cons b0 bs =>
        simp only at h2
        by_cases hb : b0 = [35]
        · rw [if_pos hb] at h2; cases h2
        · rw [if_neg hb, Bool.and_eq_true, Bool.or_eq_true, beq_iff_eq, beq_iff_eq] at h2
          rw [tWithL_cons, if_neg hb] at h
          cases a with
          | nil => cases h
          | cons x as =>
            simp only at h ⊢
            by_cases hx : x = [35]
            · rw [if_pos hx] at h; cases h
            · rw [if_neg hx, Bool.and_eq_true, Bool.or_eq_true, beq_iff_eq, beq_iff_eq] at h
              rw [if_neg hx, Bool.and_eq_true, Bool.or_eq_true, beq_iff_eq, beq_iff_eq]
              refine ⟨?_, ih h.2 h2.2⟩
              rcases h2.1 with e | e
              · exact .inl e
              · rw [← e]; exact h.1
theorem tWide_35 : tWide [35] = [[43], [35]] := by decide
theorem tWide_4735 : tWide [47, 35] = [[], [43], [35]] := by decide
theorem tLev_35 : tLev [35] = [[35]] := by decide
theorem tLev_4735 : tLev [47, 35] = [[], [35]] := by decide
theorem tWide_other {a : List UInt8} (h1 : a ≠ [35]) (h2 : a ≠ [47, 35]) : tWide a = tLev a := by
  unfold tWide
  rw [if_neg (by simp [h1, h2])]
theorem meet_wide {a s : List UInt8} (hs : s ≠ []) (h : tMeetL (tLev a) (tLev s) = true) : tMeetL (tWide a) (tLev s) = true := by
  by_cases h1 : a = [35]
  · subst h1
    rw [tWide_35]
    cases hl : tLev s with
    | nil => exact absurd hl (tLev_ne s)
    | cons x l => rfl
  · by_cases h2 : a = [47, 35]
    · subst h2
      rw [tWide_4735]
      rw [tLev_4735] at h
      cases hl : tLev s with
      | nil => exact absurd hl (tLev_ne s)
      | cons x l =>
        rw [hl] at h
        cases l with
        | nil =>
          rw [tMeetL_cons, if_neg (by decide)] at h
          simp at h
          exfalso
          rw [← tJoin_lev s, hl, ← h.1] at hs
          exact hs rfl
        | cons y l =>
          rw [tMeetL_cons, if_neg (by decide)] at h ⊢
          simp only [Bool.and_eq_true] at h ⊢
          exact ⟨h.1, rfl⟩
    · rw [tWide_other h1 h2]; exact h
theorem wide_meet {a : List UInt8} {n : List (List UInt8)} (h : tMeetL (tWide a) n = true) : tMeetL (tLev a) n = true := by
  by_cases h1 : a = [35]
  · subst h1; rfl
  · by_cases h2 : a = [47, 35]
    · subst h2
      rw [tWide_4735, tMeetL_cons, if_neg (by decide)] at h
      rw [tLev_4735, tMeetL_cons, if_neg (by decide)]
      cases n with
      | nil => cases h
      | cons x ns =>
        simp only [Bool.and_eq_true] at h ⊢
        exact ⟨h.1, by rw [tMeetL_cons, if_pos rfl]⟩
    · rw [tWide_other h1 h2] at h; exact h
theorem wide_head {a : List UInt8} (h : tFilter a = true) : ∃ x as, tWide a = x :: as ∧ x ≠ [35] := by
  by_cases h1 : a = [35]
  · subst h1; exact ⟨_, _, tWide_35, by decide⟩
  · by_cases h2 : a = [47, 35]
    · subst h2; exact ⟨_, _, tWide_4735, by decide⟩
    · rw [tWide_other h1 h2]
      obtain ⟨as, ha, e⟩ := tFilter_split h
      rcases e with e | e
      · cases hl : as with
        | nil => rw [hl] at e; exact absurd e (tLev_ne a)
        | cons x l => exact ⟨x, l, by rw [e, hl], fun hx => no35 ha (by rw [hl, hx]; simp)⟩
      · cases hl : as with
        | nil =>
          rw [hl] at e
          exact absurd (by rw [← tJoin_lev a, e]; rfl) h1
        | cons x l => exact ⟨x, l ++ [[35]], by rw [e, hl]; rfl, fun hx => no35 ha (by rw [hl, hx]; simp)⟩
theorem wide_head2 {a : List UInt8} {as : List (List UInt8)} (h : tFilter a = true) (hw : tWide a = [] :: as) : ∃ y bs, as = y :: bs ∧ y ≠ [35] := by
  by_cases h1 : a = [35]
  · subst h1; rw [tWide_35] at hw; simp at hw
  · by_cases h2 : a = [47, 35]
    · subst h2
      rw [tWide_4735] at hw
      injection hw with _ e
      exact ⟨_, _, e.symm, by decide⟩
    · rw [tWide_other h1 h2] at hw
      have hne := (tFilter_levels h).1
      cases as with
      | nil => exact absurd (by rw [← tJoin_lev a, hw]; rfl) hne
      | cons y bs =>
        refine ⟨y, bs, rfl, fun hy => ?_⟩
        obtain ⟨cs, ha, e⟩ := tFilter_split h
        have hn := no35 ha
        rcases e with e | e
        · rw [e] at hw
          exact hn (by rw [hw, hy]; simp)
        · rw [e] at hw
          cases cs with
          | nil => simp at hw
          | cons c cs =>
            injection hw with e1 e2
            cases cs with
            | nil =>
              injection e2 with _ e3
              exact h2 (by rw [← tJoin_lev a, e, e1]; rfl)
            | cons d cs =>
              injection e2 with e3 e4
              exact hn (by rw [e3, hy]; simp)
theorem within_wide {a b : List UInt8} (ha : tFilter a = true) (h : tWithL (tWide a) (tLev b) = true) : tWithL (tWide a) (tWide b) = true := by
  by_cases h1 : b = [35]
  · subst h1
    obtain ⟨x, as, e, hx⟩ := wide_head ha
    rw [tWide_35, e, tWithL_cons, if_neg (by decide)]
    simp only [if_neg hx]
    rw [tWithL_cons, if_pos rfl]
    rfl
  · by_cases h2 : b = [47, 35]
    · subst h2
      obtain ⟨x, as, e, hx⟩ := wide_head ha
      rw [e, tLev_4735, tWithL_cons, if_neg (by decide)] at h
      simp only [if_neg hx, Bool.and_eq_true] at h
      have hx0 : x = [] := by simpa using h.1
      subst hx0
      obtain ⟨y, bs, e2, hy⟩ := wide_head2 ha e
      rw [tWide_4735, e, e2, tWithL_cons, if_neg (by decide)]
      simp only [if_neg hx]
      rw [tWithL_cons, if_neg (by decide)]
      simp only [if_neg hy]
      rw [tWithL_cons, if_pos rfl]
      rfl
    · rw [tWide_other h1 h2]; exact h
theorem hd0_wide {a : List UInt8} (h : a ≠ [35]) : hd0 (tWide a) = hd0 (tLev a) := by
  by_cases h2 : a = [47, 35]
  · subst h2; rfl
  · rw [tWide_other h h2]
/-- Where one is within another, that meets what it meets. -/
theorem within_sound {a b n : List UInt8} (ha : tFilter a = true) (hb : tFilter b = true) (hn : tName n = true) (h : tWithin a b = true) (hm : tMeets a n = true) : tMeets b n = true := by
  unfold tWithin at h
  unfold tMeets at hm ⊢
  rw [Bool.and_eq_true] at h hm ⊢
  rw [starts_iff hb] at h
  rw [starts_iff ha] at hm
  rw [starts_iff hb]
  refine ⟨fun hp => h.1 ?_, withL_sound h.2 (meet_wide (tName_levels hn).1 hm.2)⟩
  obtain ⟨g1, g2⟩ := hm.1 hp
  have hm2 := hm.2
  cases hl : tLev a with
  | nil => exact absurd hl (tLev_ne a)
  | cons x l =>
    rw [hl] at g1 g2 hm2
    change x ≠ [43] at g1
    change x ≠ [35] at g2
    cases hl2 : tLev n with
    | nil => exact absurd hl2 (tLev_ne n)
    | cons y m =>
      rw [hl2, tMeetL_cons, if_neg g2] at hm2
      simp only [Bool.and_eq_true, Bool.or_eq_true, beq_iff_eq] at hm2
      rw [hl2] at hp
      rcases hm2.1 with e | e
      · exact absurd e g1
      · show pre1 36 x = true
        rw [e]
        exact hp
theorem within_trans {a b c : List UInt8} (ha : tFilter a = true) (hb : tFilter b = true) (hc : tFilter c = true) (h : tWithin a b = true) (h2 : tWithin b c = true) : tWithin a c = true := by
  unfold tWithin at h h2 ⊢
  rw [Bool.and_eq_true] at h h2 ⊢
  rw [starts_iff hb] at h
  rw [starts_iff hc] at h2
  rw [starts_iff hc]
  refine ⟨fun hp => h2.1 ?_, withL_trans (within_wide ha h.2) h2.2⟩
  obtain ⟨g1, g2⟩ := h.1 hp
  have hh := h.2
  have ha35 : a ≠ [35] := fun e => by rw [e] at hp; exact absurd hp (by decide)
  have hw := hd0_wide ha35
  cases hl2 : tLev b with
  | nil => exact absurd hl2 (tLev_ne b)
  | cons y m =>
    rw [hl2] at g1 g2 hh
    change y ≠ [43] at g1
    change y ≠ [35] at g2
    rw [tWithL_cons, if_neg g2] at hh
    cases hl : tWide a with
    | nil => rw [hl] at hh; cases hh
    | cons x l =>
      rw [hl] at hh hw
      simp only at hh
      by_cases hx : x = [35]
      · rw [if_pos hx] at hh; cases hh
      · rw [if_neg hx, Bool.and_eq_true, Bool.or_eq_true, beq_iff_eq, beq_iff_eq] at hh
        rcases hh.1 with e | e
        · exact absurd e g1
        · show pre1 36 y = true
          rw [← e]
          rw [← hw] at hp
          exact hp
theorem within_self {a : List UInt8} (h : tFilter a = true) : tWithin a a = true := by
  have key : ∀ l : List (List UInt8), (∀ x ∈ l, x = [43] ∨ tSign x = false) → ∀ t, tWithL t t = true → tWithL (l ++ t) (l ++ t) = true := fun l => by
    induction l with
    | nil => intro _ t ht; exact ht
    | cons x l ih =>
      intro hl t ht
      rw [List.cons_append, tWithL_cons]
      by_cases hx : x = [35]
      · rw [if_pos hx]
      · rw [if_neg hx]
        simp only [if_neg hx]
        rw [ih (fun z hz => hl z (List.mem_cons_of_mem _ hz)) t ht]
        simp
  unfold tWithin
  rw [Bool.and_eq_true, starts_iff h]
  refine ⟨fun hp => ⟨fun e => ?_, fun e => ?_⟩, ?_⟩
  · rw [e] at hp; exact absurd hp (by decide)
  · rw [e] at hp; exact absurd hp (by decide)
  · by_cases h1 : a = [35]
    · subst h1; decide
    · by_cases h2 : a = [47, 35]
      · subst h2; decide
      · rw [tWide_other h1 h2]
        obtain ⟨as, ha, e⟩ := tFilter_split h
        rcases e with e | e
        · rw [e]
          have := key as ha [] rfl
          rwa [List.append_nil] at this
        · rw [e]
          exact key as ha [[35]] rfl
end Go.Proofs.YtbjoobanbejgbaaDoor

namespace Go.Proofs.YtbjoobanbejgbaaDoor
open Go

def tUnlike (l : List (List UInt8)) (k : Nat) : List UInt8 := if l[k]? = some [122] then [121] else [122]
theorem tUnlike_ok (l : List (List UInt8)) (k : Nat) : (47 : UInt8) ∉ tUnlike l k ∧ uGood (tUnlike l k) = true ∧ tSign (tUnlike l k) = false ∧ (tUnlike l k).length = 1 ∧ pre1 36 (tUnlike l k) = false ∧ l[k]? ≠ some (tUnlike l k) := by
  have g : uGood [121] = true ∧ uGood [122] = true := ⟨uGood_all_ascii (by decide), uGood_all_ascii (by decide)⟩
  unfold tUnlike
  by_cases h : l[k]? = some [122]
  · rw [if_pos h]
    exact ⟨by decide, g.1, by decide, rfl, by decide, by rw [h]; decide⟩
  · rw [if_neg h]
    exact ⟨by decide, g.2, by decide, rfl, by decide, h⟩
/-- Levels with each + as another level than one of a list at its place. -/
def tInst (y : List (List UInt8)) : List (List UInt8) → Nat → List (List UInt8)
  | [], _ => []
  | x :: l, i => (if x = [43] then tUnlike y i else x) :: tInst y l (i + 1)
theorem tInst_len (y l : List (List UInt8)) (i : Nat) : (tInst y l i).length = l.length := by
  induction l generalizing i with
  | nil => rfl
  | cons x l ih => simp [tInst, ih]
theorem tInst_snoc (y l : List (List UInt8)) (x : List UInt8) (i : Nat) : tInst y (l ++ [x]) i = tInst y l i ++ [if x = [43] then tUnlike y (i + l.length) else x] := by
  induction l generalizing i with
  | nil => rfl
  | cons z l ih =>
    rw [List.cons_append, tInst, tInst, ih, List.length_cons, List.cons_append, show i + 1 + l.length = i + (l.length + 1) by omega]
theorem tInst_lens (y l : List (List UInt8)) (i : Nat) : (tInst y l i).map List.length = l.map List.length := by
  induction l generalizing i with
  | nil => rfl
  | cons x l ih =>
    rw [tInst, List.map_cons, List.map_cons, ih]
    congr 1
    by_cases h : x = [43]
    · rw [if_pos h, h, (tUnlike_ok y i).2.2.2.1]; rfl
    · rw [if_neg h]
theorem tInst_mem {y l : List (List UInt8)} {i : Nat} {z : List UInt8} (h : z ∈ tInst y l i) : (∃ k, z = tUnlike y k) ∨ (z ∈ l ∧ z ≠ [43]) := by
  induction l generalizing i with
  | nil => cases h
  | cons x l ih =>
    rw [tInst] at h
    rcases List.mem_cons.1 h with h | h
    · by_cases hx : x = [43]
      · rw [if_pos hx] at h; exact .inl ⟨_, h⟩
      · rw [if_neg hx] at h; exact .inr ⟨by rw [h]; simp, by rw [h]; exact hx⟩
    · rcases ih h with h | h
      · exact .inl h
      · exact .inr ⟨List.mem_cons_of_mem _ h.1, h.2⟩
def Inst : List (List UInt8) → List (List UInt8) → List (List UInt8) → Prop
  | [], _, m => m = []
  | x :: as, b, m => ∃ y m', m = y :: m' ∧ (x = [43] → b.head? ≠ some y) ∧ (x ≠ [43] → y = x) ∧ Inst as b.tail m'
theorem inst_of (b as : List (List UInt8)) (i : Nat) : Inst as (b.drop i) (tInst b as i) := by
  induction as generalizing i with
  | nil => rfl
  | cons x as ih =>
    refine ⟨_, _, rfl, fun h => ?_, fun h => ?_, ?_⟩
    · rw [if_pos h, List.head?_drop]
      exact (tUnlike_ok b i).2.2.2.2.2
    · rw [if_neg h]
    · rw [List.tail_drop]
      exact ih (i + 1)
theorem inst_meets {as b m : List (List UInt8)} (h : Inst as b m) (hno : [35] ∉ as) (t r : List (List UInt8)) : tMeetL (as ++ t) (m ++ r) = tMeetL t r := by
  induction as generalizing b m with
  | nil => rw [show m = [] from h]; rfl
  | cons x as ih =>
    obtain ⟨y, m', rfl, h1, h2, h3⟩ := h
    have hx : x ≠ [35] := fun e => hno (by rw [e]; simp)
    rw [List.cons_append, List.cons_append, tMeetL_cons, if_neg hx]
    simp only
    rw [ih h3 (fun e => hno (List.mem_cons_of_mem _ e))]
    by_cases e : x = [43]
    · rw [e]; rfl
    · rw [h2 e]; simp
theorem tri {as b m : List (List UInt8)} (h : Inst as b m) (hno : [35] ∉ as) : (∀ t, tWithL (as ++ t) b = true) ∨ (∀ r, tMeetL b (m ++ r) = false) ∨ ((∀ t, tWithL (as ++ t) b = tWithL t (b.drop as.length)) ∧ ∀ r, tMeetL b (m ++ r) = tMeetL (b.drop as.length) r) := by
  induction as generalizing b m with
  | nil =>
    rw [show m = [] from h]
    exact .inr (.inr ⟨fun t => rfl, fun r => rfl⟩)
  | cons x as ih =>
    obtain ⟨y, m', rfl, h1, h2, h3⟩ := h
    have hx : x ≠ [35] := fun e => hno (by rw [e]; simp)
    cases b with
    | nil => exact .inr (.inl fun r => rfl)
    | cons b0 bs =>
      by_cases hb : b0 = [35]
      · exact .inl fun t => by rw [tWithL_cons, if_pos hb]
      · have hw : ∀ t, tWithL (x :: as ++ t) (b0 :: bs) = ((b0 == [43] || x == b0) && tWithL (as ++ t) bs) := fun t => by
          rw [tWithL_cons, if_neg hb]
          show (if x = [35] then _ else _) = _
          rw [if_neg hx]
          rfl
        have hm : ∀ r, tMeetL (b0 :: bs) (y :: m' ++ r) = ((b0 == [43] || b0 == y) && tMeetL bs (m' ++ r)) := fun r => by
          rw [tMeetL_cons, if_neg hb]
          rfl
        by_cases hq : b0 = [43] ∨ x = b0
        · have e1 : (b0 == [43] || x == b0) = true := by simpa using hq
          have e2 : (b0 == [43] || b0 == y) = true := by
            by_cases g : b0 = [43]
            · simp [g]
            · rcases hq with hq | hq
              · exact absurd hq g
              · have : y = x := h2 (by rw [hq]; exact g)
                simp [this, hq]
          rcases ih h3 (fun e => hno (List.mem_cons_of_mem _ e)) with g | g | g
          · exact .inl fun t => by rw [hw, e1]; exact g t
          · exact .inr (.inl fun r => by rw [hm]; simp only [List.tail_cons] at g; rw [g r]; simp)
          · exact .inr (.inr ⟨fun t => by rw [hw, e1]; exact g.1 t, fun r => by rw [hm, e2]; exact g.2 r⟩)
        · refine .inr (.inl fun r => ?_)
          rw [hm]
          have e2 : (b0 == [43] || b0 == y) = false := by
            simp only [Bool.or_eq_false_iff, beq_eq_false_iff_ne]
            refine ⟨fun e => hq (.inl e), fun e => ?_⟩
            by_cases g : x = [43]
            · exact h1 g (by rw [e]; rfl)
            · exact hq (.inr (by rw [← h2 g, e]))
          rw [e2]
          rfl
theorem meet_end {b : List (List UInt8)} : tMeetL b [] = true ↔ b = [] ∨ b.head? = some [35] := by
  cases b with
  | nil => simp [tMeetL]
  | cons y l =>
    rw [tMeetL_cons]
    by_cases h : y = [35]
    · simp [h]
    · rw [if_neg h]; simp [h]
theorem with_end {b : List (List UInt8)} : tWithL [] b = true ↔ b = [] ∨ b.head? = some [35] := by
  cases b with
  | nil => simp [tWithL]
  | cons y l =>
    rw [tWithL_cons]
    by_cases h : y = [35]
    · simp [h]
    · rw [if_neg h]; simp [h]
theorem with_hash {b : List (List UInt8)} : tWithL [[35]] b = true ↔ b.head? = some [35] := by
  cases b with
  | nil => simp [tWithL]
  | cons y l =>
    rw [tWithL_cons]
    by_cases h : y = [35]
    · simp [h]
    · rw [if_neg h]; simp [h]
/-- The levels of the names that a filter meets. -/
def tBase (y : List (List UInt8)) : List (List UInt8) → Nat → List (List UInt8)
  | [], _ => []
  | x :: l, i => if x = [35] then tBase y l (i + 1) else (if x = [43] then tUnlike y i else x) :: tBase y l (i + 1)
theorem tBase_app {y as : List (List UInt8)} (h : [35] ∉ as) (t : List (List UInt8)) (i : Nat) : tBase y (as ++ t) i = tInst y as i ++ tBase y t (i + as.length) := by
  induction as generalizing i with
  | nil => rfl
  | cons x as ih =>
    have hx : x ≠ [35] := fun e => h (by rw [e]; simp)
    rw [List.cons_append, tBase, if_neg hx, ih (fun e => h (List.mem_cons_of_mem _ e)), tInst, List.length_cons, List.cons_append, show i + 1 + as.length = i + (as.length + 1) by omega]
def tMore (a : List (List UInt8)) : Bool := a.any fun x => x == [35]
def tAdd (y m : List (List UInt8)) : List (List UInt8) := m ++ [tUnlike y m.length]
def tNamesL (x y : List (List UInt8)) : List (List UInt8) := tJoin (tBase y x 0) :: if tMore x = true then [tJoin (tAdd y (tBase y x 0)), tJoin (tAdd y (tAdd y (tBase y x 0)))] else []
def tNames (a b : List UInt8) : List (List UInt8) := tNamesL (tLev a) (tLev b)
theorem more_no {as : List (List UInt8)} (h : [35] ∉ as) : tMore as = false := by
  unfold tMore
  rw [List.any_eq_false]
  intro x hx
  simpa using fun e : x = [35] => h (by rw [← e]; exact hx)
theorem more_yes (as : List (List UInt8)) : tMore (as ++ [[35]]) = true := by
  unfold tMore
  rw [List.any_append]
  simp
structure Wit (a : List UInt8) (y as t m : List (List UInt8)) (ns : List (List UInt8)) : Prop where
  wide : tWide a = as ++ t
  tl : t = [] ∨ t = [[35]]
  no : [35] ∉ as
  inst : Inst as y m
  ok : ∀ x ∈ m, (47 : UInt8) ∉ x ∧ uGood x = true ∧ tSign x = false
  ne : m ≠ []
  l1 : 1 ≤ (tJoin m).length
  l2 : (tJoin m).length ≤ 200
  l3 : t = [[35]] → (tJoin m).length + 2 ≤ 200
  head : pre1 36 (hd0 (tLev a)) = pre1 36 (hd0 m)
  hd : pre1 36 (hd0 m) = true → hd0 (tLev a) ≠ [43] ∧ hd0 (tLev a) ≠ [35]
  mem : tJoin m ∈ ns
  mem2 : t = [[35]] → tJoin (tAdd y m) ∈ ns
theorem Wit.name {a : List UInt8} {y as t m ns : List (List UInt8)} (h : Wit a y as t m ns) : tName (tJoin m) = true ∧ tLev (tJoin m) = m := name_join h.ne h.ok h.l1 h.l2
theorem Wit.name2 {a : List UInt8} {y as t m ns : List (List UInt8)} (h : Wit a y as t m ns) (ht : t = [[35]]) : tName (tJoin (tAdd y m)) = true ∧ tLev (tJoin (tAdd y m)) = tAdd y m := by
  have hu := tUnlike_ok y m.length
  refine name_join (by unfold tAdd; simp) (fun x hx => ?_) ?_ ?_
  · rcases List.mem_append.1 hx with hx | hx
    · exact h.ok x hx
    · rw [List.mem_singleton] at hx
      rw [hx]
      exact ⟨hu.1, hu.2.1, hu.2.2.1⟩
  · unfold tAdd
    rw [tJoin_snoc h.ne, List.length_append]
    have := h.l1
    omega
  · unfold tAdd
    rw [tJoin_snoc h.ne, List.length_append, List.length_cons, hu.2.2.2.1]
    have := h.l3 ht
    omega
theorem hd0_app {m : List (List UInt8)} (h : m ≠ []) (r : List (List UInt8)) : hd0 (m ++ r) = hd0 m := by
  cases m with
  | nil => exact absurd rfl h
  | cons x m => rfl
theorem Wit.meets {a n : List UInt8} {y as t m ns r : List (List UInt8)} (ha : tFilter a = true) (h : Wit a y as t m ns) (hr : tMeetL t r = true) (hn : tLev n = m ++ r) : tMeets a n = true := by
  unfold tMeets
  rw [Bool.and_eq_true, starts_iff ha]
  constructor
  · rw [hn, hd0_app h.ne]
    exact h.hd
  · apply wide_meet
    rw [hn, h.wide, inst_meets h.inst h.no]
    exact hr
theorem Wit.only {a b : List UInt8} {as t m ns : List (List UInt8)} (ha : tFilter a = true) (hb : tFilter b = true) (h : Wit a (tLev b) as t m ns) (hw : tWithin a b = false) : ∃ n ∈ ns, tName n = true ∧ tMeets a n = true ∧ tMeets b n = false := by
  obtain ⟨g1, g2⟩ := h.name
  have m0 : tMeetL t [] = true := by rcases h.tl with e | e <;> rw [e] <;> rfl
  have hma : tMeets a (tJoin m) = true := h.meets ha m0 (by rw [g2, List.append_nil])
  by_cases hs : tStarts b a = true
  · have hw2 : tWithL (as ++ t) (tLev b) = false := by
      unfold tWithin at hw
      rw [hs, Bool.true_and, h.wide] at hw
      exact hw
    have low : tMeetL (tLev b) m = false → ∃ n ∈ ns, tName n = true ∧ tMeets a n = true ∧ tMeets b n = false := fun e => ⟨_, h.mem, g1, hma, by
      unfold tMeets
      rw [g2, e, Bool.and_false]⟩
    rcases tri h.inst h.no with q | q | q
    · rw [q t] at hw2; cases hw2
    · have := q []
      rw [List.append_nil] at this
      exact low this
    · rw [q.1 t] at hw2
      have q0 := q.2 []
      rw [List.append_nil] at q0
      rcases h.tl with e | e
      · apply low
        rw [q0, ← Bool.not_eq_true, meet_end, ← with_end, Bool.not_eq_true, ← e]
        exact hw2
      · rw [e, ← Bool.not_eq_true, with_hash] at hw2
        by_cases hd : (tLev b).drop as.length = []
        · obtain ⟨g3, g4⟩ := h.name2 e
          refine ⟨_, h.mem2 e, g3, h.meets ha (r := [tUnlike (tLev b) m.length]) (by rw [e]; rfl) g4, ?_⟩
          unfold tMeets
          rw [g4]
          unfold tAdd
          rw [q.2, hd]
          exact Bool.and_false _
        · apply low
          rw [q0, ← Bool.not_eq_true, meet_end]
          exact fun g => g.elim hd hw2
  · refine ⟨_, h.mem, g1, hma, ?_⟩
    have hsb : tStarts b (tJoin m) = false := by
      rw [← Bool.not_eq_true, starts_iff hb, g2, ← h.head, ← starts_iff hb]
      exact hs
    unfold tMeets
    rw [hsb]
    rfl
theorem inst_ok {a y : List (List UInt8)} {as : List (List UInt8)} (ha : ∀ x ∈ as, x = [43] ∨ tSign x = false) (hg : ∀ x ∈ a, (47 : UInt8) ∉ x ∧ uGood x = true) (hs : ∀ x ∈ as, x ≠ [43] → x ∈ a) : ∀ x ∈ tInst y as 0, (47 : UInt8) ∉ x ∧ uGood x = true ∧ tSign x = false := fun x hx => by
  rcases tInst_mem hx with ⟨k, rfl⟩ | ⟨h1, h2⟩
  · have := tUnlike_ok y k
    exact ⟨this.1, this.2.1, this.2.2.1⟩
  · have := hg x (hs x h1 h2)
    exact ⟨this.1, this.2, (ha x h1).resolve_left h2⟩
theorem inst_head {y as : List (List UInt8)} (h : as ≠ []) : (hd0 as = [43] ∧ pre1 36 (hd0 (tInst y as 0)) = false) ∨ (hd0 as ≠ [43] ∧ hd0 (tInst y as 0) = hd0 as) := by
  cases as with
  | nil => exact absurd rfl h
  | cons x l =>
    by_cases e : x = [43]
    · refine .inl ⟨e, ?_⟩
      show pre1 36 (if x = [43] then tUnlike y 0 else x) = false
      rw [if_pos e]
      exact (tUnlike_ok y 0).2.2.2.2.1
    · refine .inr ⟨e, ?_⟩
      show (if x = [43] then tUnlike y 0 else x) = x
      rw [if_neg e]
theorem join_pos {as y : List (List UInt8)} (h : as ≠ []) (h2 : as ≠ [[]]) : 1 ≤ (tJoin (tInst y as 0)).length := by
  rw [tJoin_lens (tInst_lens y as 0)]
  rcases Nat.eq_zero_or_pos (tJoin as).length with e | e
  · rcases tJoin_nil (List.length_eq_zero_iff.1 e) with g | g
    · exact absurd g h
    · exact absurd g h2
  · exact e
theorem wit_of {a : List UInt8} (ha : tFilter a = true) (y : List (List UInt8)) : ∃ as t m, Wit a y as t m (tNamesL (tLev a) y) := by
  obtain ⟨hne, hl, hg⟩ := tFilter_levels ha
  obtain ⟨as, has, e⟩ := tFilter_split ha
  have hno := no35 has
  have inst0 := inst_of y as 0
  rw [List.drop_zero] at inst0
  rcases e with e | e
  · have h1 : a ≠ [35] := fun h => hno (by rw [← e, h]; decide)
    have h2 : a ≠ [47, 35] := fun h => hno (by rw [← e, h]; decide)
    have hasne : as ≠ [] := by rw [← e]; exact tLev_ne a
    have hb : tBase y (tLev a) 0 = tInst y as 0 := by
      have := tBase_app (y := y) hno [] 0
      rw [List.append_nil] at this
      rw [e, this]
      exact List.append_nil _
    have hle : (tJoin (tInst y as 0)).length = a.length := by rw [tJoin_lens (tInst_lens y as 0), ← e, tJoin_lev]
    have hh := inst_head (y := y) hasne
    have h35 : hd0 as ≠ [35] := by
      cases as with
      | nil => exact absurd rfl hasne
      | cons x l => exact fun h => hno (by rw [show x = [35] from h]; simp)
    refine ⟨as, [], tInst y as 0, by rw [tWide_other h1 h2, e, List.append_nil], .inl rfl, hno, inst0, inst_ok has hg fun x hx _ => by rw [e]; exact hx, ?_, by rw [hle]; exact List.length_pos_iff.2 hne, by rw [hle]; exact hl, fun h => by simp at h, ?_, fun hp => ?_, ?_, fun h => by simp at h⟩
    · intro h
      have := tInst_len y as 0
      rw [h] at this
      exact hasne (List.length_eq_zero_iff.1 this.symm)
    · rw [e]
      rcases hh with ⟨g1, g2⟩ | ⟨g1, g2⟩
      · rw [g1, g2]; rfl
      · rw [g2]
    · rw [e]
      rcases hh with ⟨g1, g2⟩ | ⟨g1, g2⟩
      · rw [g2] at hp; cases hp
      · exact ⟨g1, h35⟩
    · unfold tNamesL
      rw [hb]
      simp
  · have hb : tBase y (tLev a) 0 = tInst y as 0 := by
      rw [e, tBase_app hno]
      exact List.append_nil _
    have hm : tMore (tLev a) = true := by rw [e]; exact more_yes as
    by_cases h1 : a = [35]
    · have has0 : as = [] := by
        rw [h1, tLev_35] at e
        cases as with
        | nil => rfl
        | cons x l => simp at e
      subst has0
      have hu := tUnlike_ok y 0
      refine ⟨[[43]], [[35]], [tUnlike y 0], by rw [h1, tWide_35]; rfl, .inr rfl, by decide, ?_, fun x hx => ?_, by simp, by rw [tJoin, hu.2.2.2.1]; omega, by rw [tJoin, hu.2.2.2.1]; omega, fun _ => by rw [tJoin, hu.2.2.2.1]; omega, ?_, fun hp => ?_, ?_, fun _ => ?_⟩
      · have := inst_of y [[43]] 0
        rw [List.drop_zero] at this
        exact this
      · rw [List.mem_singleton] at hx
        rw [hx]
        exact ⟨hu.1, hu.2.1, hu.2.2.1⟩
      · rw [h1, tLev_35]
        exact hu.2.2.2.2.1.symm
      · rw [show hd0 [tUnlike y 0] = tUnlike y 0 from rfl, hu.2.2.2.2.1] at hp
        cases hp
      · unfold tNamesL
        rw [hb, if_pos hm]
        exact List.mem_cons_of_mem _ (by simp [tAdd, tInst])
      · unfold tNamesL
        rw [hb, if_pos hm]
        exact List.mem_cons_of_mem _ (by simp [tAdd, tInst])
    · by_cases h2 : a = [47, 35]
      · have has0 : as = [[]] := by
          rw [h2, tLev_4735] at e
          cases as with
          | nil => simp at e
          | cons x l =>
            cases l with
            | nil => simp at e; rw [e]
            | cons z l => simp at e
        subst has0
        have hu := tUnlike_ok y 1
        have hj : (tJoin [[], tUnlike y 1]).length = 2 := by
          show ([] ++ 47 :: tUnlike y 1 : List UInt8).length = 2
          rw [List.nil_append, List.length_cons, hu.2.2.2.1]
        refine ⟨[[], [43]], [[35]], [[], tUnlike y 1], by rw [h2, tWide_4735]; rfl, .inr rfl, by decide, ?_, fun x hx => ?_, by simp, by rw [hj]; omega, by rw [hj]; omega, fun _ => by rw [hj]; omega, ?_, fun hp => ?_, ?_, fun _ => ?_⟩
        · have := inst_of y [[], [43]] 0
          rw [List.drop_zero] at this
          exact this
        · simp only [List.mem_cons, List.not_mem_nil, or_false] at hx
          rcases hx with rfl | rfl
          · exact ⟨by simp, rfl, rfl⟩
          · exact ⟨hu.1, hu.2.1, hu.2.2.1⟩
        · rw [h2, tLev_4735]
          rfl
        · exact absurd (show pre1 36 [] = true from hp) (by decide)
        · unfold tNamesL
          rw [hb, if_pos hm]
          exact List.mem_cons_of_mem _ (by simp [tAdd, tInst])
        · unfold tNamesL
          rw [hb, if_pos hm]
          exact List.mem_cons_of_mem _ (by simp [tAdd, tInst])
      · have hasne : as ≠ [] := fun h => h1 (by rw [← tJoin_lev a, e, h]; rfl)
        have hasne2 : as ≠ [[]] := fun h => h2 (by rw [← tJoin_lev a, e, h]; rfl)
        have hle : (tJoin (tInst y as 0)).length + 2 = a.length := by
          rw [tJoin_lens (tInst_lens y as 0), ← tJoin_lev a, e, tJoin_snoc hasne, List.length_append]
          rfl
        have hh := inst_head (y := y) hasne
        have h35 : hd0 as ≠ [35] := by
          cases as with
          | nil => exact absurd rfl hasne
          | cons x l => exact fun h => hno (by rw [show x = [35] from h]; simp)
        have hea : hd0 (tLev a) = hd0 as := by rw [e, hd0_app hasne]
        refine ⟨as, [[35]], tInst y as 0, by rw [tWide_other h1 h2, e], .inr rfl, hno, inst0, inst_ok has hg fun x hx _ => by rw [e]; exact List.mem_append_left _ hx, ?_, join_pos hasne hasne2, by omega, fun h => by omega, ?_, fun hp => ?_, ?_, fun _ => ?_⟩
        · intro h
          have := tInst_len y as 0
          rw [h] at this
          exact hasne (List.length_eq_zero_iff.1 this.symm)
        · rw [hea]
          rcases hh with ⟨g1, g2⟩ | ⟨g1, g2⟩
          · rw [g1, g2]; rfl
          · rw [g2]
        · rw [hea]
          rcases hh with ⟨g1, g2⟩ | ⟨g1, g2⟩
          · rw [g2] at hp; cases hp
          · exact ⟨g1, h35⟩
        · unfold tNamesL
          rw [hb]
          simp
        · unfold tNamesL
          rw [hb, if_pos hm]
          simp
def tOnly (a b : List UInt8) (n : List UInt8) : Bool := tName n && tMeets a n && !tMeets b n
/-- One of a filter's names, or the one that is given, tells whether it is within another. -/
theorem only_within {a b : List UInt8} (ha : tFilter a = true) (hb : tFilter b = true) (n : List UInt8) : ((tNames a b ++ [n]).any fun n => tOnly a b n) = !tWithin a b := by
  cases hw : tWithin a b with
  | true =>
    rw [Bool.not_true, List.any_eq_false]
    intro x _ h
    unfold tOnly at h
    simp only [Bool.and_eq_true, Bool.not_eq_true'] at h
    rw [within_sound ha hb h.1.1 hw h.1.2] at h
    cases h.2
  | false =>
    obtain ⟨as, t, m, h⟩ := wit_of ha (tLev b)
    obtain ⟨x, h1, h2, h3, h4⟩ := h.only ha hb hw
    rw [Bool.not_false, List.any_eq_true]
    refine ⟨x, List.mem_append_left _ h1, ?_⟩
    unfold tOnly
    rw [h2, h3, h4]
    rfl
end Go.Proofs.YtbjoobanbejgbaaDoor

namespace Go.Proofs.YtbjoobanbejgbaaDoor
open Go

theorem plain_not {x : List UInt8} (h : tSign x = false) : x ≠ [43] ∧ x ≠ [35] := ⟨fun e => by (rw [e, tSign_43] at h; cases h), fun e => by (rw [e, tSign_35] at h; cases h)⟩
theorem meetL_plain {l n : List (List UInt8)} (h : ∀ x ∈ l, tSign x = false) : tMeetL l n = true ↔ l = n := by
  induction l generalizing n with
  | nil => cases n <;> simp [tMeetL]
  | cons x l ih =>
    obtain ⟨h1, h2⟩ := plain_not (h x (by simp))
    rw [tMeetL_cons, if_neg h2]
    cases n with
    | nil => simp
    | cons y n =>
      simp only [Bool.and_eq_true, Bool.or_eq_true, beq_iff_eq, List.cons.injEq]
      rw [ih fun z hz => h z (List.mem_cons_of_mem _ hz)]
      constructor
      · rintro ⟨e | e, g⟩
        · exact absurd e h1
        · exact ⟨e, g⟩
      · rintro ⟨e, g⟩
        exact ⟨.inr e, g⟩
theorem oks_plain {l : List (List UInt8)} (h : ∀ x ∈ l, tSign x = false) : tOks l = true := by
  have one : ∀ x b, tSign x = false → tOk x b = true := fun x b hx => by unfold tOk; rw [hx]; simp
  induction l with
  | nil => rfl
  | cons x l ih =>
    cases l with
    | nil => exact one x true (h x (by simp))
    | cons y l => rw [tOks_cons, one x false (h x (by simp)), ih fun z hz => h z (List.mem_cons_of_mem _ hz)]; rfl
theorem name_filter {s : List UInt8} (h : tName s = true) : tFilter s = true := by
  have hl := tName_levels h
  unfold tName at h
  rw [Bool.and_eq_true] at h
  unfold tFilter
  rw [h.1, oks_plain fun x hx => (hl.2.2 x hx).2.2]
  rfl
theorem name_meets {s n : List UInt8} (h : tName s = true) : tMeets s n = true ↔ tLev s = tLev n := by
  have hl := tName_levels h
  unfold tMeets
  rw [Bool.and_eq_true, starts_iff (name_filter h), meetL_plain fun x hx => (hl.2.2 x hx).2.2]
  constructor
  · exact fun q => q.2
  · refine fun q => ⟨fun _ => ?_, q⟩
    cases hs : tLev s with
    | nil => exact absurd hs (tLev_ne s)
    | cons x l => exact plain_not (hl.2.2 x (by rw [hs]; simp)).2.2
theorem name_self {s : List UInt8} (h : tName s = true) : tMeets s s = true := (name_meets h).2 rfl
theorem name_other {s t : List UInt8} (h : tName s = true) (ht : s ≠ t) : tMeets s t = false := by
  rw [← Bool.not_eq_true, name_meets h]
  exact fun e => ht (by rw [← tJoin_lev s, e, tJoin_lev])
theorem sign_no_name {l : List (List UInt8)} {x : List UInt8} (h : x ∈ l) (hx : tSign x = true) : tName (tJoin l) = false := by
  unfold tName
  rw [tSign_join, List.any_eq_true.2 ⟨x, h, hx⟩, Bool.not_true, Bool.and_false]
def tOwn (s : List UInt8) : Bool := pre1 36 s
/-- What is wanted of a name with a sign at a level. -/
def tWant (s : List UInt8) (k : Nat) : Bool := !tOwn s || decide (0 < k)
theorem meetL_app {a b : List (List UInt8)} (h : ∀ x ∈ a, tSign x = false) (t : List (List UInt8)) : tMeetL (a ++ t) (a ++ b) = tMeetL t b := by
  induction a with
  | nil => rfl
  | cons x a ih =>
    obtain ⟨_, h2⟩ := plain_not (h x (by simp))
    rw [List.cons_append, List.cons_append, tMeetL_cons, if_neg h2]
    simp only
    rw [ih fun z hz => h z (List.mem_cons_of_mem _ hz)]
    simp
theorem starts_want {s f : List UInt8} {k : Nat} (hs : tName s = true) (hf : tFilter f = true) (h0 : k = 0 → hd0 (tLev f) = [43] ∨ hd0 (tLev f) = [35]) (h1 : 0 < k → hd0 (tLev f) = hd0 (tLev s)) : tStarts f s = tWant s k := by
  have hl := tName_levels hs
  rw [Bool.eq_iff_iff, starts_iff hf, ← pre1_lev (by decide)]
  unfold tWant tOwn
  rw [Bool.or_eq_true, Bool.not_eq_true', decide_eq_true_eq]
  rcases Nat.eq_zero_or_pos k with rfl | hk
  · constructor
    · intro q
      refine .inl (Bool.eq_false_iff.2 fun e => ?_)
      rcases h0 rfl with g | g
      · exact (q e).1 g
      · exact (q e).2 g
    · rintro (q | q) e
      · rw [q] at e; cases e
      · omega
  · constructor
    · exact fun _ => .inr hk
    · refine fun _ _ => ?_
      rw [h1 hk]
      cases hs : tLev s with
      | nil => exact absurd hs (tLev_ne s)
      | cons x l => exact plain_not (hl.2.2 x (by rw [hs]; simp)).2.2
theorem lev_set {s : List UInt8} {k : Nat} (hs : tName s = true) : tLev (tJoin ((tLev s).set k [43])) = (tLev s).set k [43] := by
  have hl := tName_levels hs
  refine tLev_join (fun e => tLev_ne s (by simpa using e)) fun x hx => ?_
  rcases List.mem_or_eq_of_mem_set hx with h | h
  · exact (hl.2.2 x h).1
  · rw [h]; decide
theorem meets_plus {s : List UInt8} {k : Nat} (hs : tName s = true) (hk : k < (tLev s).length) (hf : tFilter (tJoin ((tLev s).set k [43])) = true) : tMeets (tJoin ((tLev s).set k [43])) s = tWant s k := by
  have hl := tName_levels hs
  have e : (tLev s).set k [43] = (tLev s).take k ++ [43] :: (tLev s).drop (k + 1) := List.set_eq_take_append_cons_drop.trans (if_pos hk)
  have e2 : tLev s = (tLev s).take k ++ (tLev s)[k] :: (tLev s).drop (k + 1) := by
    rw [List.getElem_cons_drop, List.take_append_drop]
  have hm : tMeetL ((tLev s).set k [43]) (tLev s) = true := by
    refine (congrArg (tMeetL _) e2).trans ?_
    rw [e, meetL_app fun x hx => (hl.2.2 x (List.mem_of_mem_take hx)).2.2, tMeetL_cons, if_neg (by decide)]
    have : tMeetL ((tLev s).drop (k + 1)) ((tLev s).drop (k + 1)) = true := (meetL_plain fun x hx => (hl.2.2 x (List.mem_of_mem_drop hx)).2.2).2 rfl
    simp [this]
  unfold tMeets
  rw [lev_set hs, hm, Bool.and_true]
  refine starts_want hs hf (fun h => ?_) (fun h => ?_)
  · rw [lev_set hs, e, h]; exact .inl rfl
  · rw [lev_set hs]
    cases hx : tLev s with
    | nil => exact absurd hx (tLev_ne s)
    | cons x l =>
      obtain ⟨k, rfl⟩ : ∃ j, k = j + 1 := ⟨k - 1, by omega⟩
      rfl
theorem lev_hash {s : List UInt8} {k : Nat} (hs : tName s = true) : tLev (tJoin ((tLev s).take k ++ [[35]])) = (tLev s).take k ++ [[35]] := by
  have hl := tName_levels hs
  refine tLev_join (by simp) fun x hx => ?_
  rcases List.mem_append.1 hx with h | h
  · exact (hl.2.2 x (List.mem_of_mem_take h)).1
  · rw [List.mem_singleton] at h
    rw [h]; decide
theorem meets_hash {s : List UInt8} {k : Nat} (hs : tName s = true) (hk : k < (tLev s).length) (hf : tFilter (tJoin ((tLev s).take k ++ [[35]])) = true) : tMeets (tJoin ((tLev s).take k ++ [[35]])) s = tWant s k := by
  have hl := tName_levels hs
  have hm : tMeetL ((tLev s).take k ++ [[35]]) (tLev s) = true := by
    refine (congrArg (tMeetL _) (List.take_append_drop k (tLev s)).symm).trans ?_
    rw [meetL_app fun x hx => (hl.2.2 x (List.mem_of_mem_take hx)).2.2]
    rw [tMeetL_cons, if_pos rfl]
  unfold tMeets
  rw [lev_hash hs, hm, Bool.and_true]
  refine starts_want hs hf (fun h => ?_) (fun h => ?_)
  · rw [lev_hash hs, h]; exact .inr rfl
  · rw [lev_hash hs]
    cases hx : tLev s with
    | nil => exact absurd hx (tLev_ne s)
    | cons x l =>
      obtain ⟨k, rfl⟩ : ∃ j, k = j + 1 := ⟨k - 1, by omega⟩
      rfl
theorem meets_more {s : List UInt8} (hs : tName s = true) (hf : tFilter (s ++ [47, 35]) = true) : tMeets (s ++ [47, 35]) s = true := by
  have hl := tName_levels hs
  have e : tLev (s ++ [47, 35]) = tLev s ++ [[35]] := tLev_app s [35]
  have hm : tMeetL (tLev s ++ [[35]]) (tLev s) = true := by
    have := meetL_app (a := tLev s) (b := []) (fun x hx => (hl.2.2 x hx).2.2) [[35]]
    rw [List.append_nil] at this
    rw [this]
    rfl
  unfold tMeets
  rw [e, hm, Bool.and_true, starts_want hs hf (k := 1) (fun h => by omega) (fun _ => by rw [e, hd0_app (tLev_ne s)])]
  unfold tWant
  simp
end Go.Proofs.YtbjoobanbejgbaaDoor
