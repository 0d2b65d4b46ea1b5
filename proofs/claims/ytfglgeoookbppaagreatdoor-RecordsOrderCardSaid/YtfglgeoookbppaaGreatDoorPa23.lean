/- Package topic, plain: levels, names, filters, what meets. -/
import Derived.Test.YtfglgeoookbppaaGreatDoorPa22
import Derived.Lib.SplitLaws

namespace Go.Proofs.YtfglgeoookbppaaGreatDoor
open Go

/-- The levels of a text. -/
def tLev : List UInt8 → List (List UInt8)
  | [] => [[]]
  | a :: s => if a = 47 then [] :: tLev s else match tLev s with
    | [] => [[a]]
    | l :: ls => (a :: l) :: ls
theorem tLev_ne (s : List UInt8) : tLev s ≠ [] := by
  cases s with
  | nil => simp [tLev]
  | cons a s =>
    unfold tLev
    split
    · simp
    · split <;> simp
theorem tLev_other {a : UInt8} {s : List UInt8} (h : a ≠ 47) : ∃ l ls, tLev s = l :: ls ∧ tLev (a :: s) = (a :: l) :: ls := by
  cases hs : tLev s with
  | nil => exact absurd hs (tLev_ne s)
  | cons l ls => exact ⟨l, ls, rfl, by rw [tLev, if_neg h, hs]⟩
theorem index_one (a : UInt8) (s : List UInt8) : Lib.index (a :: s) [47] = if a = 47 then 0 else if Lib.index s [47] = -1 then -1 else Lib.index s [47] + 1 := by
  rw [Lib.index]
  by_cases h : a = 47
  · subst h
    simp [List.isPrefixOf]
  · have h' : ([47] : List UInt8).isPrefixOf (a :: s) = false := by
      have : ((47 : UInt8) == a) = false := by simpa using fun e => h e.symm
      simp [List.isPrefixOf, this]
    rw [h', if_neg Bool.false_ne_true, if_neg h]
    by_cases hi : Lib.index s [47] = -1
    · rw [if_pos (beq_iff_eq.2 hi), if_pos hi]
    · rw [if_neg (fun e => hi (beq_iff_eq.1 e)), if_neg hi]
theorem split_lev (s : List UInt8) : Lib.split s [47] = tLev s := by
  induction s with
  | nil => rfl
  | cons a s ih =>
    unfold Lib.split at ih ⊢
    by_cases h : a = 47
    · subst h
      rw [Lib.count_cons_eq, Nat.add_comm, Lib.splitK, tLev, if_pos rfl, index_one, if_pos rfl, ← ih]
      rfl
    · rw [Lib.count_cons_ne a 47 s h]
      obtain ⟨l, ls, e1, e2⟩ := tLev_other (s := s) h
      rw [e2]
      rw [e1] at ih
      cases hk : Lib.count s [47] with
      | zero =>
        rw [hk, Lib.splitK] at ih
        rw [Lib.splitK]
        injection ih with i1 i2
        rw [i1, i2]
      | succ k =>
        rw [hk, Lib.splitK] at ih
        rw [Lib.splitK, index_one, if_neg h]
        have hge := Lib.index_ge s [47]
        by_cases hi : Lib.index s [47] = -1
        · rw [if_pos (beq_iff_eq.2 hi)] at ih
          rw [if_pos hi, if_pos (show ((-1 : Int) == -1) = true from rfl)]
          injection ih with i1 i2
          rw [i1, i2]
        · rw [if_neg (fun e => hi (beq_iff_eq.1 e))] at ih
          rw [if_neg hi, if_neg (fun e => by have := beq_iff_eq.1 e; omega)]
          injection ih with i1 i2
          obtain ⟨m, hm⟩ : ∃ m : Nat, Lib.index s [47] = m := ⟨(Lib.index s [47]).toNat, by omega⟩
          rw [hm] at i1 i2 ⊢
          have e3 : ((m : Int) + 1).toNat = m + 1 := by omega
          have e4 : ((m : Int)).toNat = m := by omega
          rw [e3]
          rw [e4] at i1 i2
          rw [Nat.add_zero, List.take_succ_cons, ← i1, ← i2, Nat.add_zero, List.length_singleton, List.drop_succ_cons]
          simp
/-- Has a text a sign? -/
def tSign (s : List UInt8) : Bool := s.any fun b => b == 43 || b == 35
/-- May it be said, and has it a fitting length? -/
def tSaid (s : List UInt8) : Bool := decide (1 ≤ s.length) && decide (s.length ≤ 200) && uGood s
def tName (s : List UInt8) : Bool := tSaid s && !tSign s
/-- Is a level right: the last one, if it is so told? -/
def tOk (x : List UInt8) (last : Bool) : Bool := x == [43] || (x == [35] && last) || !tSign x
def tOks : List (List UInt8) → Bool
  | [] => true
  | [x] => tOk x true
  | x :: y :: l => tOk x false && tOks (y :: l)
def tFilter (s : List UInt8) : Bool := tSaid s && tOks (tLev s)
/-- Do levels of a filter meet those of a name? -/
def tMeetL : List (List UInt8) → List (List UInt8) → Bool
  | [], n => n.isEmpty
  | f :: fs, n => if f = [35] then true else match n with
    | [] => false
    | x :: ns => (f == [43] || f == x) && tMeetL fs ns
/-- May a filter meet a name that begins so? -/
def tStarts (f n : List UInt8) : Bool := !(([36] : List UInt8).isPrefixOf n) || (!(([43] : List UInt8).isPrefixOf f) && !(([35] : List UInt8).isPrefixOf f))
def tMeets (f n : List UInt8) : Bool := tStarts f n && tMeetL (tLev f) (tLev n)
/-- Do levels meet all that others meet? -/
def tWithL : List (List UInt8) → List (List UInt8) → Bool
  | a, [] => a.isEmpty
  | a, b :: bs => if b = [35] then true else match a with
    | [] => false
    | x :: as => if x = [35] then false else (b == [43] || x == b) && tWithL as bs
def tWide (a : List UInt8) : List (List UInt8) := if a = [35] ∨ a = [47, 35] then (tLev a).dropLast ++ [[43], [35]] else tLev a
def tWithin (a b : List UInt8) : Bool := tStarts b a && tWithL (tWide a) (tLev b)
theorem tLev_len (s : List UInt8) : (tLev s).length ≤ s.length + 1 := by
  induction s with
  | nil => simp [tLev]
  | cons a s ih =>
    by_cases h : a = 47
    · rw [tLev, if_pos h]; simp; omega
    · obtain ⟨l, ls, e1, e2⟩ := tLev_other (s := s) h
      rw [e2]
      rw [e1] at ih
      simp at ih ⊢
      omega
theorem tLev_size {s : List UInt8} {x : List UInt8} (h : x ∈ tLev s) : x.length ≤ s.length := by
  induction s generalizing x with
  | nil => simp [tLev] at h; subst h; simp
  | cons a s ih =>
    by_cases e : a = 47
    · rw [tLev, if_pos e] at h
      rcases List.mem_cons.1 h with rfl | h
      · simp
      · have := ih h; simp; omega
    · obtain ⟨l, ls, e1, e2⟩ := tLev_other (s := s) e
      rw [e2] at h
      rcases List.mem_cons.1 h with rfl | h
      · have := ih (x := l) (by rw [e1]; simp)
        simp; omega
      · have := ih (x := x) (by rw [e1]; exact List.mem_cons_of_mem _ h)
        simp; omega
/-- What is left of a name's levels behind some of a filter's. -/
def mtRun : List (List UInt8) → List (List UInt8) → Option (List (List UInt8))
  | [], n => some n
  | f :: fs, n => if f = [35] then none else match n with
    | [] => none
    | x :: ns => if (f == [43] || f == x) = true then mtRun fs ns else none
theorem mtRun_cons (f : List UInt8) (fs n : List (List UInt8)) : mtRun (f :: fs) n = if f = [35] then none else match n with
    | [] => none
    | x :: ns => if (f == [43] || f == x) = true then mtRun fs ns else none := by cases n <;> rfl
theorem tMeetL_cons (f : List UInt8) (fs n : List (List UInt8)) : tMeetL (f :: fs) n = if f = [35] then true else match n with
    | [] => false
    | x :: ns => (f == [43] || f == x) && tMeetL fs ns := by cases n <;> rfl
theorem mtRun_snoc (fs : List (List UInt8)) (g : List UInt8) (n : List (List UInt8)) : mtRun (fs ++ [g]) n = (mtRun fs n).bind fun r => mtRun [g] r := by
  induction fs generalizing n with
  | nil => rfl
  | cons f fs ih =>
    rw [List.cons_append, mtRun_cons, mtRun_cons]
    split
    · rfl
    · cases n with
      | nil => rfl
      | cons x ns =>
        simp only
        split
        · exact ih ns
        · rfl
theorem tMeetL_run {fs n r : List (List UInt8)} (h : mtRun fs n = some r) (gs : List (List UInt8)) : tMeetL (fs ++ gs) n = tMeetL gs r := by
  induction fs generalizing n with
  | nil => injection h with h; subst h; rfl
  | cons f fs ih =>
    rw [mtRun_cons] at h
    by_cases hf : f = [35]
    · rw [if_pos hf] at h; cases h
    · rw [if_neg hf] at h
      cases n with
      | nil => cases h
      | cons x ns =>
        simp only at h
        by_cases hm : (f == [43] || f == x) = true
        · rw [if_pos hm] at h
          rw [List.cons_append, tMeetL_cons, if_neg hf]
          simp only [hm, Bool.true_and]
          exact ih h
        · rw [if_neg hm] at h; cases h
theorem tMeetL_no {g : List UInt8} {gs r : List (List UInt8)} (h35 : g ≠ [35]) (h : mtRun [g] r = none) : tMeetL (g :: gs) r = false := by
  rw [mtRun_cons, if_neg h35] at h
  rw [tMeetL_cons, if_neg h35]
  cases r with
  | nil => rfl
  | cons x ns =>
    simp only at h ⊢
    by_cases hm : (g == [43] || g == x) = true
    · rw [if_pos hm] at h; cases h
    · rw [Bool.eq_false_iff.2 hm]; rfl
theorem mtRun_one {g x : List UInt8} {ns : List (List UInt8)} (h35 : g ≠ [35]) : mtRun [g] (x :: ns) = if (g == [43] || g == x) = true then some ns else none := by
  rw [mtRun_cons, if_neg h35]
  rfl
theorem mtRun_drop {fs n r : List (List UInt8)} (h : mtRun fs n = some r) : r = n.drop fs.length ∧ fs.length ≤ n.length := by
  induction fs generalizing n with
  | nil => injection h with h; subst h; exact ⟨rfl, Nat.zero_le _⟩
  | cons f fs ih =>
    rw [mtRun_cons] at h
    by_cases hf : f = [35]
    · rw [if_pos hf] at h; cases h
    · rw [if_neg hf] at h
      cases n with
      | nil => cases h
      | cons x ns =>
        simp only at h
        by_cases hm : (f == [43] || f == x) = true
        · rw [if_pos hm] at h
          have := ih h
          exact ⟨this.1, by simpa using this.2⟩
        · rw [if_neg hm] at h; cases h
theorem tWithL_nil (a : List (List UInt8)) : tWithL a [] = a.isEmpty := by cases a <;> rfl
theorem tWithL_cons (a : List (List UInt8)) (b : List UInt8) (bs : List (List UInt8)) : tWithL a (b :: bs) = if b = [35] then true else match a with
    | [] => false
    | x :: as => if x = [35] then false else (b == [43] || x == b) && tWithL as bs := by cases a <;> rfl
end Go.Proofs.YtfglgeoookbppaaGreatDoor
