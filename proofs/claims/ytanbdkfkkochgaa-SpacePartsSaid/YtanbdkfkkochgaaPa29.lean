/- Plain words of layer 7: what is kept, how many there are of each. -/
import Derived.Test.YtanbdkfkkochgaaPa27

namespace Go.Proofs.Ytanbdkfkkochgaa
open Go.RowKit Go.Maps

theorem list_getD (L : List Nat) : (List.range L.length).map (fun n => L.getD n 0) = L := by
  refine List.ext_getElem (by simp) fun n h1 h2 => ?_
  simp [List.getD_eq_getElem?_getD, h2]
theorem spSel_len (p : Nat → Bool) (L : List Nat) : (spSel p L).length = L.countP p := by
  unfold spSel
  rw [List.length_map]
  conv => rhs; rw [← list_getD L]
  rw [List.countP_map, List.countP_eq_length_filter]
  rfl
theorem count_sum : ∀ L : List Nat, (∀ v ∈ L, v ≤ 4) → L.countP (plIn [4]) + L.countP (plIn [2]) + L.countP (plIn [3]) = L.countP (fun v => decide (2 ≤ v)) ∧ L.countP (plIn [4, 3]) = L.countP (plIn [4]) + L.countP (plIn [3])
  | [], _ => ⟨rfl, rfl⟩
  | v :: L, h => by
    obtain ⟨i1, i2⟩ := count_sum L fun u hu => h u (by simp [hu])
    have hv := h v (by simp)
    have hc : v = 0 ∨ v = 1 ∨ v = 2 ∨ v = 3 ∨ v = 4 := by omega
    simp only [List.countP_cons]
    rcases hc with rfl | rfl | rfl | rfl | rfl <;> simp [plIn] <;> omega
theorem SpOk.all4 {L : List Nat} (h : SpOk L) : ∀ v ∈ L, v ≤ 4 := fun v hv => by
  obtain ⟨n, hn, rfl⟩ := List.mem_iff_getElem.1 hv
  have := h.most (n : Int)
  rw [codeAt_nat, List.getD_eq_getElem?_getD, List.getElem?_eq_getElem hn] at this
  exact this
theorem SpOk.two {L : List Nat} (h : SpOk L) : ∃ t, L = 0 :: 0 :: t := by
  have h2 := h.l2
  have z0 := h.z0
  have z1 := h.z1
  match L with
  | [] => simp at h2
  | [_] => simp at h2
  | a :: b :: t =>
    obtain rfl : a = 0 := z0
    obtain rfl : b = 0 := z1
    exact ⟨t, rfl⟩
theorem SpOk.count_le {L : List Nat} (h : SpOk L) : L.countP (fun v => decide (2 ≤ v)) + 2 ≤ L.length := by
  obtain ⟨t, rfl⟩ := h.two
  have := List.countP_le_length (p := fun v : Nat => decide (2 ≤ v)) (l := t)
  simp
  omega
theorem SpOk.count_two {L : List Nat} (h : SpOk L) : (L.take 2).countP (fun v => decide (2 ≤ v)) = 0 := by
  obtain ⟨t, rfl⟩ := h.two
  rfl
theorem count_step {L : List Nat} {n : Nat} (hn : n < L.length) : (L.take (n + 1)).countP (fun v => decide (2 ≤ v)) = (L.take n).countP (fun v => decide (2 ≤ v)) + if 2 ≤ L.getD n 0 then 1 else 0 := by
  rw [List.take_succ_eq_append_getElem hn, List.countP_append, List.getD_eq_getElem?_getD, List.getElem?_eq_getElem hn]
  simp
/-- What was kept when it lasted is kept or held. -/
def KeptOk (L M : List Nat) : Prop := M.length ≤ L.length ∧ ∀ x, codeAt M x = 1 → codeAt L x = 1 ∨ codeAt L x = 3
theorem spTake_cases (most : Nat) (L : List Nat) : (∃ n : Nat, L.getD n 0 = 4 ∧ n < L.length ∧ spTake most L = (L.set n 2, (n : Int), 0)) ∨ spTake most L = (L, 0, 170) ∨ spTake most L = (L ++ [2], (L.length : Int), 0) := by
  unfold spTake
  split
  · rename_i x r hs
    have hx := spSel_in (x := x) (by rw [hs]; simp)
    obtain ⟨n, rfl⟩ : ∃ n : Nat, x = n := ⟨x.toNat, by omega⟩
    refine .inl ⟨n, ?_, by omega, by simp⟩
    have := hx.2.2
    rw [codeAt_nat] at this
    simpa using this
  · split
    · exact .inr (.inl rfl)
    · exact .inr (.inr rfl)
theorem KeptOk.take {L M : List Nat} (h : KeptOk L M) (most : Nat) : KeptOk (spTake most L).1 M ∧ L.length ≤ (spTake most L).1.length ∧ ((spTake most L).2.2 = 0 → codeAt M (spTake most L).2.1 ≠ 1) := by
  rcases spTake_cases most L with ⟨n, h4, hn, e⟩ | e | e <;> rw [e]
  · refine ⟨⟨by simpa using h.1, fun x hx => ?_⟩, by simp, fun _ hc => ?_⟩
    · have := h.2 x hx
      rw [codeAt_set hn]
      split
      · rename_i hxn
        subst hxn
        rw [codeAt_nat, h4] at this
        omega
      · exact this
    · have := h.2 _ hc
      rw [codeAt_nat, h4] at this
      omega
  · exact ⟨h, Nat.le_refl _, fun h => by cases h⟩
  · refine ⟨⟨by simp; have := h.1; omega, fun x hx => ?_⟩, by simp, fun _ hc => ?_⟩
    · have h1 := h.2 x hx
      rw [codeAt_snoc]
      split
      · rename_i hxn
        rw [hxn, codeAt_out (.inr (by have := h.1; omega))] at hx
        cases hx
      · exact h1
    · rw [codeAt_out (.inr (by have := h.1; show (M.length : Int) ≤ (L.length : Int); omega))] at hc
      cases hc
theorem KeptOk.act {L M : List Nat} (h : KeptOk L M) (k x : Int) (most : Nat) : KeptOk (spAct k x most L M).1 (spAct k x most L M).2 ∧ (k ≠ 4 → L.length ≤ (spAct k x most L M).1.length) := by
  unfold spAct
  split
  · exact ⟨(h.take most).1, fun _ => (h.take most).2.1⟩
  · split
    · unfold spGive
      split
      · rename_i hc
        obtain ⟨n, rfl, hn⟩ := codeAt_some (L := L) (x := x) (by omega)
        refine ⟨⟨by simpa using h.1, fun z hz => ?_⟩, fun _ => by simp⟩
        have := h.2 z hz
        simp only [Int.toNat_natCast]
        rw [codeAt_set hn]
        split
        · rename_i e; subst e; omega
        · exact this
      · split
        · rename_i hc
          obtain ⟨n, rfl, hn⟩ := codeAt_some (L := L) (x := x) (by omega)
          refine ⟨⟨by simpa using h.1, fun z hz => ?_⟩, fun _ => by simp⟩
          have := h.2 z hz
          simp only [Int.toNat_natCast]
          rw [codeAt_set hn]
          split
          · exact .inr rfl
          · exact this
        · exact ⟨h, fun _ => Nat.le_refl _⟩
    · split
      · exact ⟨⟨Nat.le_refl _, fun z hz => .inl hz⟩, fun _ => by simp [spLasts]⟩
      · split
        · rename_i h4
          exact ⟨⟨Nat.le_refl _, fun z hz => .inl hz⟩, fun h => absurd h4 h⟩
        · exact ⟨h, fun _ => Nat.le_refl _⟩
/-- The map of what was kept; while it is written anew. -/
def keptF (M N : List Nat) (n : Int) : Int → Option Value := fun x => if 2 ≤ x ∧ x < n then some (.bool ((codeAt N x : Int) == 1)) else if 2 ≤ x ∧ x < M.length then some (.bool ((codeAt M x : Int) == 1)) else none
abbrev keptOf (M : List Nat) : Int → Option Value := keptF [] M M.length
theorem keptF_step {M N : List Nat} {n : Int} (hn : 2 ≤ n) : upd (keptF M N n) n (some (.bool ((codeAt N n : Int) == 1))) = keptF M N (n + 1) := by
  funext x
  by_cases hx : x = n
  · subst hx
    rw [upd_same]
    unfold keptF
    rw [if_pos (by omega)]
  · rw [upd_other _ hx]
    unfold keptF
    have e : (2 ≤ x ∧ x < n + 1) ↔ (2 ≤ x ∧ x < n) := by omega
    simp only [e]
theorem keptF_start (M N : List Nat) : keptF M N 2 = keptOf M := by
  funext x
  unfold keptOf keptF
  rw [if_neg (by omega)]
  by_cases h : 2 ≤ x ∧ x < M.length
  · rw [if_pos h, if_pos h]
  · rw [if_neg h, if_neg h, if_neg (by simp; omega)]
theorem keptF_none (N : List Nat) : keptF [] N 2 = fun _ => none := by
  funext x
  unfold keptF
  rw [if_neg (by omega), if_neg (by simp; omega)]
theorem keptF_end {M N : List Nat} (h : M.length ≤ N.length) : keptF M N N.length = keptOf N := by
  funext x
  unfold keptOf keptF
  by_cases h1 : 2 ≤ x ∧ x < N.length
  · rw [if_pos h1, if_pos h1]
  · rw [if_neg h1, if_neg h1, if_neg (by omega), if_neg (by simp; omega)]
theorem keptOf_get (M : List Nat) (hM : SpOk M) (x : Int) : (keptOf M x).getD (.bool false) = .bool ((codeAt M x : Int) == 1) := by
  unfold keptOf keptF
  by_cases h1 : 2 ≤ x ∧ x < M.length
  · rw [if_pos h1]; rfl
  · rw [if_neg h1, if_neg (by simp; omega), (hM.zero x).2 (by omega)]
    rfl
/-- Where a value may lie in the map. -/
def keptDom : List Int := (List.range 8000).map fun n : Nat => (n : Int)
theorem keptF_dom {M N : List Nat} {n : Int} (h1 : M.length ≤ 4096) (h2 : n ≤ 4097) : ∀ x, keptF M N n x ≠ none → x ∈ keptDom := fun x hx => by
  have : 2 ≤ x ∧ x < 4097 := by
    unfold keptF at hx
    split at hx
    · omega
    · split at hx
      · omega
      · exact absurd rfl hx
  exact List.mem_map.2 ⟨x.toNat, List.mem_range.2 (by omega), by omega⟩
theorem keptDom_lt : keptDom.length < maxLen := by
  unfold keptDom maxLen
  rw [List.length_map, List.length_range]
  omega
end Go.Proofs.Ytanbdkfkkochgaa
