/- Package space: two spaces apart; lists that outlive a call. -/
import Derived.Test.YtanbdkfkkochgaaPa17

namespace Go.Proofs.Ytanbdkfkkochgaa
open Go.RowKit Go.Maps Go.Shelf

theorem OwnI.apart {w w' : World} {B s : Nat} {v : Value} {ks : List Int} (h : OwnI w B v ks) (ha : Apart w w' s) (hs : s < B) : OwnI w' B v ks := by
  refine ⟨h.1, ?_⟩
  rcases h.2 with h | ⟨gb, cap, cur, e1, e2, hh, r⟩
  · exact .inl h
  · exact .inr ⟨gb, cap, cur, e1, e2, ha.row hh (by omega), r⟩
/-- Two spaces that share nothing. -/
structure SpTwo (w0 W : World) (s t most : Nat) (L M : List Nat) (most' : Nat) (L' M' : List Nat) : Prop where
  at_ : ∃ m1 m2 k1 k2, SpAt W s m1 m2 most L M ∧ SpAt W t k1 k2 most' L' M' ∧ (w0.heap.size ≤ m1 ∧ w0.heap.size ≤ m2 ∧ w0.heap.size ≤ k1 ∧ w0.heap.size ≤ k2) ∧ m1 ≠ k1 ∧ m1 ≠ k2 ∧ m2 ≠ k1 ∧ m2 ≠ k2
  ne : s ≠ t
  f : w0.heap.size ≤ s ∧ w0.heap.size ≤ t
  h : Keeps w0 W []
section
variable {w0 w w' : World} {s t most most' : Nat} {L M L' M' L1 M1 : List Nat}
theorem SpTwo.swap (h : SpTwo w0 w s t most L M most' L' M') : SpTwo w0 w t s most' L' M' most L M := by
  obtain ⟨⟨m1, m2, k1, k2, h1, h2, ⟨a, b, c, d⟩, e1, e2, e3, e4⟩, hne, hf, hk⟩ := h
  exact ⟨⟨k1, k2, m1, m2, h2, h1, ⟨c, d, a, b⟩, e1.symm, e3.symm, e2.symm, e4.symm⟩, hne.symm, ⟨hf.2, hf.1⟩, hk⟩
theorem SpTwo.one (h : SpTwo w0 w s t most L M most' L' M') : SpIn w0 w s most L M := by
  obtain ⟨⟨m1, m2, k1, k2, h1, h2, ⟨a, b, c, d⟩, e1, e2, e3, e4⟩, hne, hf, hk⟩ := h
  exact ⟨⟨m1, m2, h1, a, b⟩, hf.1, hk⟩
theorem SpTwo.keeps (h : SpTwo w0 w s t most L M most' L' M') (hk : Keeps w w' []) : SpTwo w0 w' s t most L M most' L' M' := by
  obtain ⟨⟨m1, m2, k1, k2, h1, h2, hb, hd⟩, hne, hf, hk0⟩ := h
  exact ⟨⟨m1, m2, k1, k2, h1.keeps hk, h2.keeps hk, hb, hd⟩, hne, hf, hk0.trans hk (by simp)⟩
theorem SpTwo.of_copy (h : SpIn w0 w s most L M) (h' : SpIn w w' t most' L' M') : SpTwo w0 w' s t most L M most' L' M' := by
  have hlt := h.lt
  have hsz := h.h.size
  obtain ⟨⟨m1, m2, h1, a, b⟩, hf, hk⟩ := h
  obtain ⟨⟨k1, k2, h2, c, d⟩, hf', hk'⟩ := h'
  have l1 := h1.p1.lt
  have l2 := h1.p2.lt
  exact ⟨⟨m1, m2, k1, k2, h1.keeps hk', h2, ⟨a, b, by omega, by omega⟩, by omega, by omega, by omega, by omega⟩, by omega, ⟨hf, by omega⟩, hk.trans hk' (by simp)⟩
theorem SpTwo.post {m1 m2 k1 k2 n1 n2 : Nat} (h1 : SpAt w s m1 m2 most L M) (h2 : SpAt w t k1 k2 most' L' M') (hb : w0.heap.size ≤ m1 ∧ w0.heap.size ≤ m2 ∧ w0.heap.size ≤ k1 ∧ w0.heap.size ≤ k2) (hd : m1 ≠ k1 ∧ m1 ≠ k2 ∧ m2 ≠ k1 ∧ m2 ≠ k2)
    (hne : s ≠ t) (hf : w0.heap.size ≤ s ∧ w0.heap.size ≤ t) (hk : Keeps w0 w []) (p : SpPost w w' s m1 m2 most L1 M1 n1 n2) : SpTwo w0 w' s t most L1 M1 most' L' M' ∧ Apart w w' s := by
  have hsz := hk.size
  have l1 := h2.p1.lt
  have l2 := h2.p2.lt
  have r1 := IMap.ne_row h1.p1 h2.row
  have r2 := IMap.ne_row h2.p1 h1.row
  have r3 := IMap.ne_row h2.p2 h1.row
  have p1 := p.f1
  have p2 := p.f2
  refine ⟨⟨⟨n1, n2, k1, k2, p.at_, h2.keep p.h (by simp; omega) (by simp; omega) (by simp; omega), ?_, ?_⟩, hne, hf, hk.trans p.h (fun y hy hlt => by simp at hy; omega)⟩, m1, fun t cs hr => IMap.ne_row h1.p1 hr rfl, p.h⟩
  · omega
  · omega
theorem spTake_two (h : SpTwo w0 w s t most L M most' L' M')  : Calls Try.prog 11 #[.pointer (some ⟨s, 0, none⟩)] w fun e w' =>
    e = .returned (.tuple #[.int .i64 (spTake most L).2.1, .int .i64 ((spTake most L).2.2 : Nat)]) ∧ SpTwo w0 w' s t most (spTake most L).1 M most' L' M' ∧ Apart w w' s := by
  obtain ⟨⟨m1, m2, k1, k2, h1, h2, hb, hd⟩, hne, hf, hk⟩ := h
  refine (callsIn_wide.1 (spTake_in 3 (by omega) h1)).mono ?_
  rintro e w' ⟨he, hp⟩
  first
  | exact ⟨he, SpTwo.post h1 h2 hb hd hne hf hk hp⟩
  | (obtain ⟨n, hp⟩ := hp; exact ⟨he, SpTwo.post h1 h2 hb hd hne hf hk hp⟩)
theorem spGive_two (h : SpTwo w0 w s t most L M most' L' M') (x : Int) (hx1 : -9223372036854775808 ≤ x) (hx2 : x ≤ 9223372036854775807) : Calls Try.prog 13 #[.pointer (some ⟨s, 0, none⟩), .int .i64 x] w fun e w' =>
    e = .returned (.int .i64 ((spGive L x).2 : Nat)) ∧ SpTwo w0 w' s t most (spGive L x).1 M most' L' M' ∧ Apart w w' s := by
  obtain ⟨⟨m1, m2, k1, k2, h1, h2, hb, hd⟩, hne, hf, hk⟩ := h
  refine (spGive_any h1 x hx1 hx2).mono ?_
  rintro e w' ⟨he, hp⟩
  first
  | exact ⟨he, SpTwo.post h1 h2 hb hd hne hf hk hp⟩
  | (obtain ⟨n, hp⟩ := hp; exact ⟨he, SpTwo.post h1 h2 hb hd hne hf hk hp⟩)
theorem spLasts_two' (h : SpTwo w0 w s t most L M most' L' M')  : Calls Try.prog 26 #[.pointer (some ⟨s, 0, none⟩)] w fun e w' =>
    e = .returned (.int .i64 0) ∧ SpTwo w0 w' s t most (spLasts L) (spLasts L) most' L' M' ∧ Apart w w' s := by
  obtain ⟨⟨m1, m2, k1, k2, h1, h2, hb, hd⟩, hne, hf, hk⟩ := h
  refine (spLasts_any h1).mono ?_
  rintro e w' ⟨he, hp⟩
  first
  | exact ⟨he, SpTwo.post h1 h2 hb hd hne hf hk hp⟩
  | (obtain ⟨n, hp⟩ := hp; exact ⟨he, SpTwo.post h1 h2 hb hd hne hf hk hp⟩)
theorem spUndo_two (h : SpTwo w0 w s t most L M most' L' M')  : Calls Try.prog 14 #[.pointer (some ⟨s, 0, none⟩)] w fun e w' =>
    e = .returned (.int .i64 0) ∧ SpTwo w0 w' s t most M M most' L' M' ∧ Apart w w' s := by
  obtain ⟨⟨m1, m2, k1, k2, h1, h2, hb, hd⟩, hne, hf, hk⟩ := h
  refine (spUndo_any h1).mono ?_
  rintro e w' ⟨he, hp⟩
  first
  | exact ⟨he, SpTwo.post h1 h2 hb hd hne hf hk hp⟩
  | (obtain ⟨n, hp⟩ := hp; exact ⟨he, SpTwo.post h1 h2 hb hd hne hf hk hp⟩)
end
theorem getD_map0 {L : List Nat} {g : Nat → Nat} (h0 : g 0 = 0) (n : Nat) : (L.map g).getD n 0 = g (L.getD n 0) := by
  rw [List.getD_eq_getElem?_getD, List.getD_eq_getElem?_getD, List.getElem?_map]
  cases L[n]? with
  | none => simp [h0]
  | some v => rfl
theorem spSel_map {p q : Nat → Bool} {g : Nat → Nat} (h0 : g 0 = 0) (hpq : ∀ v, p (g v) = q v) (L : List Nat) : spSel p (L.map g) = spSel q L := by
  unfold spSel
  rw [List.length_map]
  congr 1
  refine List.filter_congr fun n _ => ?_
  rw [getD_map0 h0, hpq]
theorem spSel_lasts {p q : Nat → Bool} (hpq : ∀ v, p (if v = 2 then 1 else if v = 3 then 4 else v) = q v) (L : List Nat) : spSel p (spLasts L) = spSel q L := spSel_map rfl hpq L
theorem lasts_free (L : List Nat) : spSel (plIn [4]) (spLasts L) = spSel (plIn [4, 3]) L := spSel_lasts (fun v => by
  unfold plIn
  rw [decide_eq_decide]
  simp
  split
  · omega
  · split <;> omega) L
theorem spSel_none (L : List Nat) : spSel (fun _ => false) L = [] := by simp [spSel]
theorem lasts_new (L : List Nat) : spSel (plIn [2]) (spLasts L) = [] := (spSel_lasts (fun v => by
  rw [show plIn [2] = fun v => decide (v = 2) from funext (plIn_one 2)]
  show decide _ = false
  rw [decide_eq_false_iff_not]
  split
  · omega
  · split <;> omega) L).trans (spSel_none L)
theorem lasts_held (L : List Nat) : spSel (plIn [3]) (spLasts L) = [] := (spSel_lasts (fun v => by
  rw [show plIn [3] = fun v => decide (v = 3) from funext (plIn_one 3)]
  show decide _ = false
  rw [decide_eq_false_iff_not]
  split
  · omega
  · split <;> omega) L).trans (spSel_none L)
theorem lasts_lasts (L : List Nat) : spLasts (spLasts L) = spLasts L := by
  unfold spLasts
  rw [List.map_map]
  refine List.map_congr_left fun v _ => ?_
  show (if (if v = 2 then 1 else if v = 3 then 4 else v) = 2 then 1 else if (if v = 2 then 1 else if v = 3 then 4 else v) = 3 then 4 else (if v = 2 then 1 else if v = 3 then 4 else v)) = _
  split
  · rfl
  · split
    · rfl
    · rfl
end Go.Proofs.Ytanbdkfkkochgaa
