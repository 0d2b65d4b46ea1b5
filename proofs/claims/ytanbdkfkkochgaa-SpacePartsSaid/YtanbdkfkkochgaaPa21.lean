/- Plain words of layer 7: in which order pages are taken. -/
import Derived.Test.YtanbdkfkkochgaaPa18

namespace Go.Proofs.Ytanbdkfkkochgaa
open Go.RowKit Go.Maps

theorem sorted_eq : ∀ (a b : List Int), a.Pairwise (· < ·) → b.Pairwise (· < ·) → (∀ x, x ∈ a ↔ x ∈ b) → a = b
  | [], [], _, _, _ => rfl
  | [], y :: b, _, _, h => by have := (h y).2 (by simp); simp at this
  | x :: a, [], _, _, h => by have := (h x).1 (by simp); simp at this
  | x :: a, y :: b, ha, hb, h => by
    obtain ⟨a1, a2⟩ := List.pairwise_cons.1 ha
    obtain ⟨b1, b2⟩ := List.pairwise_cons.1 hb
    have hxy : x = y := by
      have h1 := (h x).1 (by simp)
      have h2 := (h y).2 (by simp)
      rcases List.mem_cons.1 h1 with e | h1
      · exact e
      · rcases List.mem_cons.1 h2 with e | h2
        · exact e.symm
        · have := b1 _ h1
          have := a1 _ h2
          omega
    subst hxy
    rw [sorted_eq a b a2 b2 fun z => ⟨fun hz => by
      rcases List.mem_cons.1 ((h z).1 (by simp [hz])) with e | e
      · have := a1 _ hz; omega
      · exact e, fun hz => by
      rcases List.mem_cons.1 ((h z).2 (by simp [hz])) with e | e
      · have := b1 _ hz; omega
      · exact e⟩]
theorem codeAt_eq_getD (L : List Nat) (x : Int) : codeAt L x = if 0 ≤ x then L.getD x.toNat 0 else 0 := rfl
/-- The pages that are to be taken, in this order. -/
def todo (most : Nat) (L : List Nat) : List Int := spSel (fun v => v == 4) L ++ (List.range' L.length (most - L.length)).map fun n : Nat => (n : Int)
theorem todo_sorted (most : Nat) (L : List Nat) : (todo most L).Pairwise (· < ·) := by
  unfold todo
  refine List.pairwise_append.2 ⟨spSel_sorted _ L, ?_, fun a ha b hb => ?_⟩
  · rw [List.pairwise_map]
    exact (List.pairwise_lt_range' (s := L.length) (n := most - L.length) (step := 1)).imp fun {a b} h => by omega
  · have h1 := spSel_in ha
    obtain ⟨n, hn, rfl⟩ := List.mem_map.1 hb
    have := List.mem_range'_1.1 hn
    omega
theorem todo_in {most : Nat} {L : List Nat} (h : SpOk L) {x : Int} (hx : x ∈ todo most L) : 2 ≤ x ∧ (x < L.length ∨ x < most) := by
  unfold todo at hx
  rcases List.mem_append.1 hx with hx | hx
  · have h1 := spSel_in hx
    have h2 := h.nz (x := x) (fun hz => by rw [hz] at h1; simp at h1)
    omega
  · obtain ⟨n, hn, rfl⟩ := List.mem_map.1 hx
    have := List.mem_range'_1.1 hn
    have := h.l2
    omega
theorem spTake_done {most : Nat} {L : List Nat} (h : todo most L = []) : spTake most L = (L, 0, 170) ∧ (L.length ≤ most → L.length = most) := by
  unfold todo at h
  obtain ⟨h1, h2⟩ := List.append_eq_nil_iff.1 h
  rw [List.map_eq_nil_iff, List.range'_eq_nil_iff] at h2
  refine ⟨?_, by omega⟩
  unfold spTake
  rw [h1]
  show (if most ≤ L.length then (L, (0 : Int), 170) else _) = _
  rw [if_pos (by omega)]
theorem spTake_next {most : Nat} {L : List Nat} {n : Int} {r : List Int} (h : todo most L = n :: r) : ∃ L', spTake most L = (L', n, 0) ∧ todo most L' = r ∧ 0 ≤ n ∧ (∀ x, codeAt L' x = if x = n then 2 else codeAt L x) ∧ (L.length = most → L'.length = most) := by
  have hs := todo_sorted most L
  cases hsel : spSel (fun v => v == 4) L with
  | cons x rest =>
    have hx := spSel_in (p := fun v => v == 4) (L := L) (x := x) (by rw [hsel]; simp)
    have hn : n = x ∧ r = rest ++ (List.range' L.length (most - L.length)).map fun n : Nat => (n : Int) := by
      unfold todo at h
      rw [hsel] at h
      exact ⟨(List.cons.inj h).1.symm, (List.cons.inj h).2.symm⟩
    obtain ⟨rfl, rfl⟩ := hn
    have hc : ∀ y, codeAt (L.set n.toNat 2) y = if y = n then 2 else codeAt L y := fun y => by
      rw [codeAt_set (by omega)]
      have : ((n.toNat : Nat) : Int) = n := by omega
      rw [this]
    refine ⟨L.set n.toNat 2, by unfold spTake; rw [hsel], ?_, hx.1, hc, fun h => by simpa using h⟩
    unfold todo
    rw [List.length_set]
    congr 1
    have hso := spSel_sorted (fun v => v == 4) L
    rw [hsel] at hso
    obtain ⟨s1, s2⟩ := List.pairwise_cons.1 hso
    refine sorted_eq _ _ (spSel_sorted _ _) s2 fun y => ?_
    rw [spSel_mem (by rfl), hc]
    have hm : y ∈ spSel (fun v => v == 4) L ↔ y = n ∨ y ∈ rest := by rw [hsel]; simp
    rw [spSel_mem (by rfl)] at hm
    by_cases hy : y = n
    · rw [if_pos hy]
      refine ⟨fun h => by simp at h, fun h => ?_⟩
      have := s1 _ h
      omega
    · rw [if_neg hy, hm]
      exact ⟨fun h => h.resolve_left hy, .inr⟩
  | nil =>
    have hm : L.length < most := by
      rcases Nat.lt_or_ge L.length most with h1 | h1
      · exact h1
      · unfold todo at h
        rw [hsel, show most - L.length = 0 by omega] at h
        cases h
    obtain ⟨k, hk⟩ : ∃ k, most - L.length = k + 1 := ⟨most - L.length - 1, by omega⟩
    have hn : n = L.length ∧ r = (List.range' (L.length + 1) k).map fun n : Nat => (n : Int) := by
      unfold todo at h
      rw [hsel, hk, List.range'_succ] at h
      exact ⟨(List.cons.inj h).1.symm, (List.cons.inj h).2.symm⟩
    obtain ⟨rfl, rfl⟩ := hn
    refine ⟨L ++ [2], ?_, ?_, by omega, codeAt_snoc L 2, fun h => by omega⟩
    · unfold spTake
      rw [hsel]
      show (if most ≤ L.length then (L, (0 : Int), 170) else _) = _
      rw [if_neg (by omega)]
    · unfold todo
      have e : spSel (fun v => v == 4) (L ++ [2]) = [] := by
        refine sorted_eq _ [] (spSel_sorted _ _) List.Pairwise.nil fun y => ?_
        rw [spSel_mem (by rfl), codeAt_snoc]
        have hm : y ∈ spSel (fun v => v == 4) L ↔ False := by rw [hsel]; simp
        rw [spSel_mem (by rfl)] at hm
        split
        · simp
        · rw [hm]; simp
      rw [e, List.length_append, List.length_singleton, List.nil_append, show most - (L.length + 1) = k by omega]
theorem spSel_count (p : Nat → Bool) (L : List Nat) : (spSel p L).length = L.countP p := by
  have e : L = (List.range L.length).map fun n => L.getD n 0 := by
    refine List.ext_getElem (by simp) fun n h1 h2 => ?_
    simp [List.getD_eq_getElem?_getD, List.getElem?_eq_getElem h1]
  unfold spSel
  rw [List.length_map]
  conv => rhs; rw [e, List.countP_map, List.countP_eq_length_filter]
  rfl
theorem give_count {L : List Nat} {x : Int} (h : codeAt L x = 2) : spGive L x = (L.set x.toNat 4, 0) ∧ (spSel (fun v => v == 4) (L.set x.toNat 4)).length = (spSel (fun v => v == 4) L).length + 1 ∧ ∀ y, codeAt (L.set x.toNat 4) y = if y = x then 4 else codeAt L y := by
  have h0 : 0 ≤ x ∧ x.toNat < L.length := by
    rcases Int.lt_or_le x 0 with hx | hx
    · rw [codeAt_out (.inl hx)] at h; omega
    · rcases Int.lt_or_le x L.length with h1 | h1
      · omega
      · rw [codeAt_out (.inr h1)] at h; omega
  have hn : ((x.toNat : Nat) : Int) = x := by omega
  refine ⟨by unfold spGive; rw [if_pos h], ?_, fun y => ?_⟩
  · rw [spSel_count, spSel_count, List.countP_set h0.2]
    have e : L[x.toNat]'h0.2 = 2 := by
      unfold codeAt at h
      rw [if_pos h0.1, List.getD_eq_getElem?_getD, List.getElem?_eq_getElem h0.2] at h
      exact h
    rw [e]
    simp
  · rw [codeAt_set h0.2, hn]
theorem rises_sorted : ∀ (last high : Int) (l : List Int), risesB last high l = true → l.Pairwise (· < ·) ∧ ∀ x ∈ l, last < x ∧ x < high
  | last, high, [], _ => ⟨List.Pairwise.nil, by simp⟩
  | last, high, n :: r, h => by
    simp only [risesB, Bool.and_eq_true, decide_eq_true_eq] at h
    obtain ⟨h1, h2⟩ := rises_sorted n high r h.2
    refine ⟨List.pairwise_cons.2 ⟨fun y hy => (h2 y hy).1, h1⟩, fun x hx => ?_⟩
    rcases List.mem_cons.1 hx with rfl | hx
    · exact h.1
    · have := h2 x hx
      omega
theorem baseL_code (n m : Nat) : (baseL n).getD m 0 ≤ 1 := by
  unfold baseL
  rcases m with _ | _ | m
  · exact Nat.zero_le _
  · exact Nat.zero_le _
  · show (List.replicate (n - 2) 1).getD m 0 ≤ 1
    rw [List.getD_eq_getElem?_getD, List.getElem?_replicate]
    split <;> simp
/-- What a new space is. -/
theorem new_codes {most high : Int} {free : List Int} {L : List Nat} (h : spNewL most high free = some L) : SpOk L ∧ (L.length : Int) = high ∧ 2 ≤ high ∧ high ≤ most ∧ most ≤ 4096 ∧ (∀ x, codeAt L x = 4 ↔ x ∈ free) ∧ (∀ x, codeAt L x ≤ 1 ∨ codeAt L x = 4) ∧ free.Pairwise (· < ·) ∧ ∀ x ∈ free, 1 < x ∧ x < high := by
  unfold spNewL at h
  split at h
  · rename_i hc
    obtain ⟨h1, h2, h3, h4, h5⟩ := hc
    obtain rfl := Option.some.inj h
    obtain ⟨r1, r2⟩ := rises_sorted 1 high free h5
    have hlen : (setAll (baseL high.toNat) free 4).length = high.toNat := by rw [setAll_length, baseL_length _ (by omega)]
    have hc : ∀ n : Nat, n < high.toNat → codeAt (setAll (baseL high.toNat) free 4) n = if (n : Int) ∈ free then 4 else (baseL high.toNat).getD n 0 := fun n hn => by
      rw [codeAt_nat, setAll_getD n _ _ (by rw [baseL_length _ (by omega)]; exact hn) fun x hx => by have := r2 x hx; omega]
    have hok : ∀ k, k ≤ free.length → SpOk (setAll (baseL high.toNat) (free.take k) 4) := fun k => by
      induction k with
      | zero => exact fun _ => baseL_ok _ (by omega) (by omega)
      | succ k ih =>
        intro hk
        have hkl : k < free.length := by omega
        rw [List.take_succ_eq_append_getElem hkl, setAll_snoc]
        have := r2 _ (List.getElem_mem hkl)
        exact (ih (by omega)).set (by omega) (by omega)
    refine ⟨by have := hok _ (Nat.le_refl _); rwa [List.take_length] at this, by omega, h3, h4, h2, fun x => ?_, fun x => ?_, r1, r2⟩
    · by_cases hx : 0 ≤ x ∧ x < high
      · obtain ⟨n, rfl⟩ : ∃ n : Nat, x = n := ⟨x.toNat, by omega⟩
        rw [hc n (by omega)]
        split
        · rename_i hm; simp [hm]
        · rename_i hm
          have := baseL_code high.toNat n
          simp only [hm, iff_false]
          omega
      · rw [codeAt_out (by omega)]
        refine ⟨fun h => by omega, fun h => ?_⟩
        have := r2 x h
        omega
    · by_cases hx : 0 ≤ x ∧ x < high
      · obtain ⟨n, rfl⟩ : ∃ n : Nat, x = n := ⟨x.toNat, by omega⟩
        rw [hc n (by omega)]
        split
        · exact .inr rfl
        · exact .inl (baseL_code _ _)
      · rw [codeAt_out (by omega)]
        exact .inl (Nat.zero_le _)
  · cases h
theorem new_free {most high : Int} {free : List Int} {L : List Nat} (h : spNewL most high free = some L) : spSel (fun v => v == 4) L = free := by
  obtain ⟨_, _, _, _, _, h1, _, h2, _⟩ := new_codes h
  refine sorted_eq _ _ (spSel_sorted _ _) h2 fun x => ?_
  rw [spSel_mem (by rfl), ← h1]
  simp
theorem new_none {most high : Int} {free : List Int} {L : List Nat} (h : spNewL most high free = some L) : spSel (fun v => v == 2) L = [] := by
  obtain ⟨_, _, _, _, _, _, h1, _, _⟩ := new_codes h
  refine sorted_eq _ _ (spSel_sorted _ _) List.Pairwise.nil fun x => ?_
  rw [spSel_mem (by rfl)]
  have := h1 x
  simp
  omega
theorem plIn_beq (a : Nat) : plIn [(a : Int)] = fun v => v == a := funext fun v => by
  rw [plIn_one]
  by_cases h : v = a
  · subst h; simp
  · simp [h]
theorem pick_left {left : List Int} {kk : Nat} (h : kk < left.length) (hn : left.Nodup) : (left.take kk ++ left.drop (kk + 1)).Nodup ∧ ∀ y ∈ left.take kk ++ left.drop (kk + 1), y ∈ left ∧ y ≠ left[kk] := by
  have e : left = left.take kk ++ left[kk] :: left.drop (kk + 1) := by
    rw [← List.drop_eq_getElem_cons h, List.take_append_drop]
  obtain ⟨x, hx⟩ : ∃ x, left[kk] = x := ⟨_, rfl⟩
  rw [hx] at e ⊢
  obtain ⟨A, hA⟩ : ∃ A, left.take kk = A := ⟨_, rfl⟩
  obtain ⟨B, hB⟩ : ∃ B, left.drop (kk + 1) = B := ⟨_, rfl⟩
  rw [hA, hB] at e ⊢
  subst e
  obtain ⟨n1, n2, n3⟩ := List.nodup_append.1 hn
  obtain ⟨n4, n5⟩ := List.nodup_cons.1 n2
  refine ⟨List.nodup_append.2 ⟨n1, n5, fun a ha b hb => n3 a ha b (by simp [hb])⟩, fun y hy => ?_⟩
  rcases List.mem_append.1 hy with hy | hy
  · exact ⟨by simp [hy], n3 y hy x (by simp)⟩
  · exact ⟨by simp [hy], fun e => n4 (e ▸ hy)⟩
end Go.Proofs.Ytanbdkfkkochgaa
