/- Package disk, plain: what a crash leaves whose picks name the last write of each page. Package disk, plain: calls without Arm; what waits behind them, counted from behind. -/
import Derived.Test.YtehlabdbbbbopaaPa33
import Derived.Test.YtehlabdbbbbopaaPa37

namespace Go.Proofs.Ytehlabdbbbbopaa
open Go.RowKit Go.Maps

theorem roundOf_self {c : Int} (h : 0 ≤ c) : roundOf c c = c := by
  unfold roundOf
  rw [Int.tmod_eq_of_lt h (by omega), Int.tmod_eq_emod_of_nonneg (by omega), show c + c + 1 = c + (c + 1) by omega, Int.add_emod_right, Int.emod_eq_of_lt h (by omega)]
/-- The last write of a page. -/
def lastW (ws : List (Int × List UInt8)) (x : Int) : List UInt8 := (pagesOf ws x).getD ((pagesOf ws x).length - 1) []
theorem lastOf_pages (ws : List (Int × List UInt8)) (x : Int) (o : List UInt8) : lastOf ws x o = if pagesOf ws x = [] then o else lastW ws x := by
  obtain ⟨ms, rfl⟩ : ∃ ms, ws = List.reverse ms := ⟨ws.reverse, by simp⟩
  induction ms with
  | nil => rfl
  | cons p ms ih =>
    rw [List.reverse_cons, lastOf_snoc, ih]
    unfold lastW
    rw [pagesOf_snoc]
    by_cases hp : p.1 = x
    · simp [hp]
    · simp [hp]
theorem graft_step {a b : List UInt8} {k : Nat} (hb : 64 * k ≤ b.length) : graft (b.take (64 * k) ++ a.drop (64 * k)) b k = b.take (64 * k + 64) ++ a.drop (64 * k + 64) := by
  have hl : (b.take (64 * k)).length = 64 * k := by rw [List.length_take]; omega
  have e1 : (b.take (64 * k) ++ a.drop (64 * k)).drop (64 * k + 64) = a.drop (64 * k + 64) := by
    rw [List.drop_append, List.drop_eq_nil_of_le (by rw [hl]; omega), hl, List.drop_drop, List.nil_append]
    congr 1
    omega
  unfold graft
  rw [e1, List.take_append_of_le_length (by omega), List.take_take, Nat.min_self, List.take_add]
theorem graft_all {a b : List UInt8} (ha : a.length = 256) (hb : b.length = 256) : graft (graft (graft (graft a b 0) b 1) b 2) b 3 = b := by
  have h0 := graft_step (a := a) (b := b) (k := 0) (by omega)
  have h1 := graft_step (a := a) (b := b) (k := 1) (by omega)
  have h2 := graft_step (a := a) (b := b) (k := 2) (by omega)
  have h3 := graft_step (a := a) (b := b) (k := 3) (by omega)
  simp only [Nat.mul_zero, List.take_zero, List.drop_zero, List.nil_append, Nat.zero_add, Nat.mul_one, Nat.reduceMul, Nat.reduceAdd] at h0 h1 h2 h3
  rw [h0, h1, h2, h3, List.take_of_length_le (by omega), List.drop_eq_nil_of_le (by omega), List.append_nil]
theorem secStep_last {ws : List (Int × List UInt8)} {x : Int} (hx : pagesOf ws x ≠ []) (M : Int → Option (List UInt8)) (ps : List Int) (s : Nat) :
    secStep ws (M, ((pagesOf ws x).length : Int) :: ps) (x, s) = (fun y => if y = x then some (graft ((M x).getD nought) (lastW ws x) s) else M y, ps) := by
  have hl : 0 < (pagesOf ws x).length := by
    rcases Nat.eq_zero_or_pos (pagesOf ws x).length with h | h
    · exact absurd (List.length_eq_zero_iff.1 h) hx
    · exact h
  unfold secStep
  simp only
  rw [roundOf_self (by omega), if_neg (by omega), Int.toNat_natCast]
  rfl
theorem secRun_last {ws : List (Int × List UInt8)} {x : Int} (hx : pagesOf ws x ≠ []) (M : Int → Option (List UInt8)) (ps : List Int) (hM : ((M x).getD nought).length = 256) (hw : (lastW ws x).length = 256) :
    secRun ws (four x) M (List.replicate 4 ((pagesOf ws x).length : Int) ++ ps) = (fun y => if y = x then some (lastW ws x) else M y, ps) := by
  unfold secRun four
  simp only [List.replicate, List.cons_append, List.nil_append, List.foldl_cons, List.foldl_nil]
  rw [secStep_last hx, secStep_last hx, secStep_last hx, secStep_last hx]
  simp only [if_true, Option.getD_some, graft_all hM hw, Prod.mk.injEq, and_true]
  funext y
  by_cases hy : y = x
  · rw [if_pos hy, if_pos hy]
  · rw [if_neg hy, if_neg hy, if_neg hy, if_neg hy, if_neg hy]
/-- The picks that name the last write of each page. -/
def lastPicks (ws : List (Int × List UInt8)) (n : Nat) : List Int := (List.range n).flatMap fun k : Nat => if pagesOf ws k = [] then [] else List.replicate 4 ((pagesOf ws k).length : Int)
theorem lastPicks_succ (ws : List (Int × List UInt8)) (n : Nat) : lastPicks ws (n + 1) = lastPicks ws n ++ (if pagesOf ws n = [] then [] else List.replicate 4 ((pagesOf ws n).length : Int)) := by
  unfold lastPicks
  rw [List.range_succ, List.flatMap_append]
  simp
theorem pgsRun_last {ws : List (Int × List UInt8)} (n : Nat) (M : Int → Option (List UInt8)) (hM : ∀ x, ((M x).getD nought).length = 256) (hw : ∀ p ∈ ws, p.2.length = 256) (ps : List Int) :
    pgsRun ws n M (lastPicks ws n ++ ps) = (fun y : Int => if 0 ≤ y ∧ y < n ∧ pagesOf ws y ≠ [] then some (lastW ws y) else M y, ps) := by
  induction n generalizing ps with
  | zero =>
    unfold pgsRun lastPicks
    simp only [List.range_zero, List.flatMap_nil, List.nil_append, List.foldl_nil, Prod.mk.injEq, and_true]
    funext y
    rw [if_neg (by omega)]
  | succ n ih =>
    rw [lastPicks_succ, List.append_assoc, pgsRun_succ, ih]
    unfold pgRun
    by_cases hp : pagesOf ws (n : Int) = []
    · rw [if_pos hp, if_pos hp, List.nil_append]
      simp only [Prod.mk.injEq, and_true]
      funext y
      by_cases hy : 0 ≤ y ∧ y < (n : Int) ∧ pagesOf ws y ≠ []
      · rw [if_pos hy, if_pos ⟨hy.1, by omega, hy.2.2⟩]
      · rw [if_neg hy, if_neg]
        rintro ⟨h1, h2, h3⟩
        refine hy ⟨h1, ?_, h3⟩
        rcases Int.lt_or_le y n with h | h
        · exact h
        · exact absurd (show pagesOf ws y = [] by rw [show y = n by omega]; exact hp) h3
    · rw [if_neg hp, if_neg hp, secRun_last hp _ _ (by simp only; rw [if_neg (by omega)]; exact hM _) (by
        unfold lastW
        have hl : (pagesOf ws (n : Int)).length - 1 < (pagesOf ws (n : Int)).length := by
          have := mt List.length_eq_zero_iff.1 hp
          omega
        rw [List.getD_eq_getElem?_getD, List.getElem?_eq_getElem hl, Option.getD_some]
        exact hw _ (pagesOf_in (List.getElem_mem hl)))]
      simp only [Prod.mk.injEq, and_true]
      funext y
      by_cases hy : y = (n : Int)
      · rw [if_pos hy, if_pos ⟨by omega, by omega, by rw [hy]; exact hp⟩, hy]
      · rw [if_neg hy]
        by_cases hz : 0 ≤ y ∧ y < (n : Int) ∧ pagesOf ws y ≠ []
        · rw [if_pos hz, if_pos ⟨hz.1, by omega, hz.2.2⟩]
        · rw [if_neg hz, if_neg (fun h => hz ⟨h.1, by omega, h.2.2⟩)]
/-- A crash by such picks leaves what was read. -/
theorem crash_last {D : Dk} (h : DkOk D) (pg : ∀ x, D.page x = lastOf D.waits x ((D.lasts x).getD nought)) (x : Int) : (D.crash (lastPicks D.waits D.pages)).page x = D.page x := by
  have e : secRun D.waits (secList D.waits) D.lasts (lastPicks D.waits D.pages) = (fun y : Int => if 0 ≤ y ∧ y < (D.pages : Int) ∧ pagesOf D.waits y ≠ [] then some (lastW D.waits y) else D.lasts y, []) := by
    rw [secRun_pgs (n := D.pages) (fun p hp => (h.w p hp).2.1) h.p4, ← List.append_nil (lastPicks _ _)]
    refine pgsRun_last D.pages D.lasts (fun y => ?_) (fun p hp => (h.w p hp).2.2) []
    cases hy : D.lasts y with
    | none => exact nought_length
    | some b => exact (h.l y b hy).2.2
  rw [pg, lastOf_pages]
  unfold Dk.crash Dk.page
  simp only [e]
  by_cases hp : pagesOf D.waits x = []
  · rw [if_pos hp, if_neg (fun c => c.2.2 hp)]
  · rw [if_neg hp, if_pos]
    · rfl
    · obtain ⟨b, hb⟩ := List.exists_mem_of_ne_nil _ hp
      have := h.w _ (pagesOf_in hb)
      exact ⟨this.1, this.2.1, hp⟩
/-- A crash of a disk on which nothing waits. -/
theorem crash_still {D : Dk} (h : D.waits = []) (ps : List Int) : D.crash ps = { Dk.fresh D.pages with lasts := D.lasts, now := D.lasts } := by
  unfold Dk.crash
  rw [h]
  have e : secList ([] : List (Int × List UInt8)) = [] := by
    unfold secList
    rw [secKeys_lt (n := 0) (fun p hp => by cases hp) (by omega)]
    rfl
  rw [e]
  rfl
end Go.Proofs.Ytehlabdbbbbopaa

namespace Go.Proofs.Ytehlabdbbbbopaa
open Go.RowKit Go.Maps

/-- A disk that nothing has armed. -/
structure Calm (D : Dk) : Prop where
  k : D.kind = 0
  d : D.dead = false
theorem Calm.code {D : Dk} (h : Calm D) : D.code = 0 := by
  unfold Dk.code
  rw [h.d, if_neg Bool.false_ne_true, if_pos h.k]
theorem Calm.ticked {D : Dk} (h : Calm D) : D.ticked = D := by
  unfold Dk.ticked
  rw [if_pos h.k]
/-- What a call adds to what waits. -/
def newW (n : Nat) (x : ActV) : List (Int × List UInt8) := if x.k = 1 ∧ 0 ≤ x.page ∧ x.page < n ∧ (actBytes x.page x.byte).length = 256 then [(x.page, actBytes x.page x.byte)] else []
theorem Calm.act {D : Dk} (h : Calm D) {x : ActV} (hx : x.k ≠ 3) : Calm (D.act x).2 ∧ (D.act x).2.pages = D.pages ∧ (D.act x).2.waits = if x.k = 2 then [] else D.waits ++ newW D.pages x := by
  unfold Dk.act
  by_cases h1 : x.k = 1
  · rw [if_pos h1, if_neg (show ¬ x.k = 2 by omega)]
    unfold Dk.write newW
    by_cases hb : (actBytes x.page x.byte).length = 256
    · rw [if_neg (by simpa using hb)]
      by_cases hp : x.page < 0 ∨ (D.pages : Int) ≤ x.page
      · rw [if_pos hp, if_neg (by omega), List.append_nil]
        exact ⟨h, rfl, rfl⟩
      · rw [if_neg hp, if_neg (by rw [h.code]; simp), if_pos ⟨h1, by omega, by omega, hb⟩, h.ticked]
        exact ⟨⟨h.k, h.d⟩, rfl, rfl⟩
    · rw [if_pos hb, if_neg (fun c => hb c.2.2.2), List.append_nil]
      exact ⟨h, rfl, rfl⟩
  · rw [if_neg h1]
    by_cases h2 : x.k = 2
    · rw [if_pos h2, if_pos h2]
      unfold Dk.flush
      rw [if_neg (by rw [h.code]; simp), h.ticked]
      exact ⟨⟨h.k, h.d⟩, rfl, rfl⟩
    · rw [if_neg h2, if_neg hx, if_neg h2]
      unfold newW
      rw [if_neg (fun c => h1 c.1), List.append_nil]
      exact ⟨h, rfl, rfl⟩
/-- A list of calls, those of Arm left out. -/
def calmRun (D : Dk) (l : List ActV) : Dk := l.foldl (fun D x => if x.k = 3 then D else (D.act x).2) D
theorem calmRun_snoc (D : Dk) (l : List ActV) (x : ActV) : calmRun D (l ++ [x]) = if x.k = 3 then calmRun D l else ((calmRun D l).act x).2 := by
  unfold calmRun
  rw [List.foldl_append]
  rfl
theorem calmRun_append (D : Dk) (l m : List ActV) : calmRun D (l ++ m) = calmRun (calmRun D l) m := by
  unfold calmRun
  rw [List.foldl_append]
theorem calmRun_calm {D : Dk} (h : Calm D) (l : List ActV) : Calm (calmRun D l) ∧ (calmRun D l).pages = D.pages := by
  induction l generalizing D with
  | nil => exact ⟨h, rfl⟩
  | cons x l ih =>
    show Calm (calmRun (if x.k = 3 then D else (D.act x).2) l) ∧ (calmRun (if x.k = 3 then D else (D.act x).2) l).pages = D.pages
    by_cases hx : x.k = 3
    · rw [if_pos hx]; exact ih h
    · rw [if_neg hx]
      have := h.act hx
      exact ⟨(ih this.1).1, by rw [(ih this.1).2, this.2.1]⟩
theorem newW_arm {n : Nat} {x : ActV} (h : x.k = 3) : newW n x = [] := by
  unfold newW
  rw [if_neg (by omega)]
theorem calmRun_waits {D : Dk} (h : Calm D) {l : List ActV} (hl : ∀ x ∈ l, x.k ≠ 2) : (calmRun D l).waits = D.waits ++ l.flatMap (newW D.pages) := by
  induction l generalizing D with
  | nil => simp [calmRun]
  | cons x l ih =>
    show (calmRun (if x.k = 3 then D else (D.act x).2) l).waits = _
    by_cases hx : x.k = 3
    · rw [if_pos hx, ih h (fun y hy => hl y (List.mem_cons_of_mem _ hy)), List.flatMap_cons, newW_arm hx, List.nil_append]
    · rw [if_neg hx]
      have := h.act hx
      rw [ih this.1 (fun y hy => hl y (List.mem_cons_of_mem _ hy)), this.2.2, if_neg (hl x (List.mem_cons_self ..)), this.2.1, List.flatMap_cons, List.append_assoc]
/-- What waits is what was written since the last flush. -/
theorem calmRun_tail {D : Dk} (h : Calm D) (hw : D.waits = []) {l : List ActV} {m : Nat} (hm : m ≤ l.length) (hs : ∀ x ∈ l.drop m, x.k ≠ 2) (he : m = 0 ∨ ∃ h : m - 1 < l.length, l[m - 1].k = 2) : (calmRun D l).waits = (l.drop m).flatMap (newW D.pages) := by
  have key : (calmRun D (l.take m)).waits = [] := by
    rcases he with rfl | ⟨h1, h2⟩
    · rw [List.take_zero]; exact hw
    · rcases Nat.eq_zero_or_pos m with rfl | hp
      · rw [List.take_zero]; exact hw
      · obtain ⟨k, rfl⟩ : ∃ k, m = k + 1 := ⟨m - 1, by omega⟩
        simp only [Nat.add_sub_cancel] at h1 h2
        rw [List.take_succ_eq_append_getElem h1, calmRun_snoc, if_neg (by omega), ((calmRun_calm h _).1.act (by omega)).2.2, if_pos h2]
  have c := calmRun_calm h (l.take m)
  have e : calmRun D l = calmRun (calmRun D (l.take m)) (l.drop m) := by rw [← calmRun_append, List.take_append_drop]
  rw [e, calmRun_waits c.1 hs, key, c.2, List.nil_append]
theorem pagesOf_append (l m : List (Int × List UInt8)) (x : Int) : pagesOf (l ++ m) x = pagesOf l x ++ pagesOf m x := by
  unfold pagesOf
  rw [List.filter_append, List.map_append]
theorem pagesOf_new (n : Nat) (x : ActV) (p : Int) : (pagesOf (newW n x) p).length = if (x.k = 1 ∧ 0 ≤ x.page ∧ x.page < n ∧ (actBytes x.page x.byte).length = 256) ∧ x.page = p then 1 else 0 := by
  unfold newW
  by_cases h : x.k = 1 ∧ 0 ≤ x.page ∧ x.page < n ∧ (actBytes x.page x.byte).length = 256
  · rw [if_pos h]
    by_cases hp : x.page = p
    · rw [if_pos ⟨h, hp⟩]; simp [pagesOf, hp]
    · rw [if_neg (fun c => hp c.2)]; simp [pagesOf, hp]
  · rw [if_neg h, if_neg (fun c => h c.1)]; rfl
end Go.Proofs.Ytehlabdbbbbopaa
