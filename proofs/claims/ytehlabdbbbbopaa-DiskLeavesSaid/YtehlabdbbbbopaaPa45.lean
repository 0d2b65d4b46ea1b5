/- Package disk, plain: each sector that a crash leaves is as it lasted, or as a write that waits left it. -/
import Derived.Test.YtehlabdbbbbopaaPa43

namespace Go.Proofs.Ytehlabdbbbbopaa
open Go.RowKit Go.Maps

/-- A sector of a page. -/
def sect (b : List UInt8) (s : Nat) : List UInt8 := (b.drop (64 * s)).take 64
theorem sect_length {b : List UInt8} {s : Nat} (hb : b.length = 256) (hs : s < 4) : (sect b s).length = 64 := by
  unfold sect
  rw [List.length_take, List.length_drop]
  omega
theorem sect_graft {a b : List UInt8} {k s : Nat} (ha : a.length = 256) (hb : b.length = 256) (hk : k < 4) : sect (graft a b k) s = if s = k then sect b k else sect a s := by
  refine List.ext_getElem? fun i => ?_
  by_cases hi : i < 64
  · have l1 : (a.take (64 * k)).length = 64 * k := by rw [List.length_take]; omega
    have l2 : ((b.drop (64 * k)).take 64).length = 64 := by rw [List.length_take, List.length_drop]; omega
    unfold sect graft
    rw [List.getElem?_take_of_lt hi, List.getElem?_drop]
    by_cases h : s = k
    · subst h
      rw [if_pos rfl, List.append_assoc, List.getElem?_append_right (by omega), l1, List.getElem?_append_left (by omega), show 64 * s + i - 64 * s = i by omega]
    · rw [if_neg h, List.getElem?_take_of_lt hi, List.getElem?_drop]
      by_cases h' : s < k
      · rw [List.append_assoc, List.getElem?_append_left (by omega), List.getElem?_take_of_lt (by omega)]
      · rw [List.append_assoc, List.getElem?_append_right (by omega), List.getElem?_append_right (by omega), l1, l2, List.getElem?_drop]
        congr 1
        omega
  · have key : ∀ c : List UInt8, (sect c s)[i]? = none := fun c => by
      unfold sect
      exact List.getElem?_eq_none (by rw [List.length_take]; omega)
    have key2 : (sect b k)[i]? = none := by
      unfold sect
      exact List.getElem?_eq_none (by rw [List.length_take]; omega)
    rw [key]
    split
    · exact key2.symm
    · exact (key a).symm
/-- Each sector is as it was, or as one of some writes left it. -/
def LeafOf (ws : List (Int × List UInt8)) (M N : Int → Option (List UInt8)) : Prop :=
  ∀ y, ((N y).getD nought).length = 256 ∧ ∀ s, s < 4 → sect ((N y).getD nought) s = sect ((M y).getD nought) s ∨ ∃ b, b ∈ pagesOf ws y ∧ sect ((N y).getD nought) s = sect b s
theorem secStep_leaf {ws : List (Int × List UInt8)} (hw : ∀ p ∈ ws, p.2.length = 256) {M : Int → Option (List UInt8)} {st : (Int → Option (List UInt8)) × List Int} {x : Int × Nat} (hx : x.2 < 4) (h : LeafOf ws M st.1) : LeafOf ws M (secStep ws st x).1 := by
  obtain ⟨N, ps⟩ := st
  cases ps with
  | nil => exact h
  | cons p ps =>
    unfold secStep
    simp only
    obtain ⟨r0, r1⟩ := roundOf_range (x := p) (n := ((pagesOf ws x.1).length : Int)) (by omega)
    split
    · exact h
    · rename_i hr
      obtain ⟨m, hm⟩ : ∃ m, (roundOf p (pagesOf ws x.1).length).toNat - 1 = m := ⟨_, rfl⟩
      have hml : m < (pagesOf ws x.1).length := by omega
      have hmem : (pagesOf ws x.1).getD m [] ∈ pagesOf ws x.1 := by
        rw [List.getD_eq_getElem?_getD, List.getElem?_eq_getElem hml, Option.getD_some]
        exact List.getElem_mem hml
      obtain ⟨g, hg⟩ : ∃ g, (pagesOf ws x.1).getD m [] = g := ⟨_, rfl⟩
      rw [hm, hg]
      rw [hg] at hmem
      have hgl : g.length = 256 := hw _ (pagesOf_in hmem)
      intro y
      by_cases hy : y = x.1
      · subst hy
        simp only [if_true, Option.getD_some]
        refine ⟨graft_length (h _).1 hgl hx, fun s hs => ?_⟩
        rw [sect_graft (h _).1 hgl hx]
        by_cases hsx : s = x.2
        · rw [if_pos hsx, hsx]
          exact .inr ⟨g, hmem, rfl⟩
        · rw [if_neg hsx]
          exact (h _).2 s hs
      · simp only [if_neg hy]
        exact h y
theorem secRun_leaf {ws : List (Int × List UInt8)} (hw : ∀ p ∈ ws, p.2.length = 256) {M : Int → Option (List UInt8)} (xs : List (Int × Nat)) (hx : ∀ x ∈ xs, x.2 < 4) (N : Int → Option (List UInt8)) (ps : List Int) (h : LeafOf ws M N) : LeafOf ws M (secRun ws xs N ps).1 := by
  have key : ∀ (xs : List (Int × Nat)) (st : (Int → Option (List UInt8)) × List Int), (∀ x ∈ xs, x.2 < 4) → LeafOf ws M st.1 → LeafOf ws M (xs.foldl (secStep ws) st).1 := fun xs => by
    induction xs with
    | nil => intro st _ h; exact h
    | cons x xs ih =>
      intro st hx h
      rw [List.foldl_cons]
      exact ih _ (fun y hy => hx y (List.mem_cons_of_mem _ hy)) (secStep_leaf hw (hx x (List.mem_cons_self ..)) h)
  exact key xs (N, ps) hx h
theorem crash_leaf {D : Dk} (h : DkOk D) (ps : List Int) (x : Int) : ((D.crash ps).page x).length = 256 ∧ ∀ s, s < 4 → sect ((D.crash ps).page x) s = sect ((D.lasts x).getD nought) s ∨ ∃ b, b ∈ pagesOf D.waits x ∧ sect ((D.crash ps).page x) s = sect b s := by
  have h0 : LeafOf D.waits D.lasts D.lasts := fun y => by
    refine ⟨?_, fun s _ => .inl rfl⟩
    cases hy : D.lasts y with
    | none => exact nought_length
    | some b => exact (h.l y b hy).2.2
  have hm : ∀ y ∈ secList D.waits, y.2 < 4 := fun y hy => by
    unfold secList at hy
    obtain ⟨k, _, hk⟩ := List.mem_flatMap.1 hy
    unfold four at hk
    simp only [List.mem_cons, List.not_mem_nil, or_false] at hk
    rcases hk with rfl | rfl | rfl | rfl <;> simp
  have key := secRun_leaf (fun p hp => (h.w p hp).2.2) _ hm D.lasts ps h0 x
  obtain ⟨N, hN⟩ : ∃ N, (secRun D.waits (secList D.waits) D.lasts ps).1 = N := ⟨_, rfl⟩
  rw [hN] at key
  have e : (D.crash ps).page x = (N x).getD nought := by
    unfold Dk.page Dk.crash
    simp only [hN]
  rw [e]
  exact key
/-- What a call changes of what lasts and of what waits. -/
theorem act_leaf (D : Dk) (x : ActV) : ((D.act x).2.lasts = D.lasts ∨ (D.act x).2.waits = []) ∧ (D.act x).2.pages = D.pages ∧ ∀ y, ∀ b ∈ pagesOf (D.act x).2.waits y, b ∈ pagesOf D.waits y ∨ (x.k = 1 ∧ 0 ≤ x.page ∧ x.page < D.pages ∧ x.page = y ∧ b = (D.act x).2.page y) := by
  have same : ∀ E : Dk, E.lasts = D.lasts → E.waits = D.waits → E.pages = D.pages → (E.lasts = D.lasts ∨ E.waits = []) ∧ E.pages = D.pages ∧ ∀ y, ∀ b ∈ pagesOf E.waits y, b ∈ pagesOf D.waits y ∨ (x.k = 1 ∧ 0 ≤ x.page ∧ x.page < D.pages ∧ x.page = y ∧ b = E.page y) := fun E h1 h2 h3 =>
    ⟨.inl h1, h3, fun y b hb => .inl (by rwa [h2] at hb)⟩
  have ref : D.refused.lasts = D.lasts ∧ D.refused.waits = D.waits ∧ D.refused.pages = D.pages := by
    unfold Dk.refused
    split <;> exact ⟨rfl, rfl, rfl⟩
  have tic : D.ticked.lasts = D.lasts ∧ D.ticked.waits = D.waits ∧ D.ticked.pages = D.pages := by
    unfold Dk.ticked
    split <;> exact ⟨rfl, rfl, rfl⟩
  unfold Dk.act
  by_cases h1 : x.k = 1
  · rw [if_pos h1]
    unfold Dk.write
    by_cases hb : (actBytes x.page x.byte).length = 256
    · rw [if_neg (by simpa using hb)]
      by_cases hp : x.page < 0 ∨ (D.pages : Int) ≤ x.page
      · rw [if_pos hp]; exact same _ rfl rfl rfl
      · rw [if_neg hp]
        by_cases hc : D.code = 0
        · rw [if_neg (by simpa using hc)]
          refine ⟨.inl tic.1, tic.2.2, fun y b hm => ?_⟩
          have hm' : b ∈ pagesOf (D.ticked.waits ++ [(x.page, actBytes x.page x.byte)]) y := hm
          rw [tic.2.1, pagesOf_snoc] at hm'
          rcases List.mem_append.1 hm' with h | h
          · exact .inl h
          · simp only at h
            by_cases hy : x.page = y
            · rw [if_pos hy] at h
              obtain rfl := List.mem_singleton.1 h
              refine .inr ⟨h1, by omega, by omega, hy, ?_⟩
              show _ = (if y = x.page then some (actBytes x.page x.byte) else D.ticked.now y).getD nought
              rw [if_pos hy.symm]
              rfl
            · rw [if_neg hy] at h
              cases h
        · rw [if_pos hc]; exact same _ ref.1 ref.2.1 ref.2.2
    · rw [if_pos hb]; exact same _ rfl rfl rfl
  · rw [if_neg h1]
    by_cases h2 : x.k = 2
    · rw [if_pos h2]
      unfold Dk.flush
      by_cases hc : D.code = 0
      · rw [if_neg (by simpa using hc)]
        exact ⟨.inr rfl, tic.2.2, fun y b hm => by cases hm⟩
      · rw [if_pos hc]; exact same _ ref.1 ref.2.1 ref.2.2
    · rw [if_neg h2]
      by_cases h3 : x.k = 3
      · rw [if_pos h3]
        unfold Dk.arm
        split
        · exact same _ rfl rfl rfl
        · split
          · exact same _ rfl rfl rfl
          · split <;> exact same _ rfl rfl rfl
      · rw [if_neg h3]; exact same _ rfl rfl rfl
/-- What the law notes of the pages: what lasted, what was written since. -/
structure LvInv (D : Dk) (m : Nat) (Ls Ws : Nat → List (List UInt8)) : Prop where
  l : ∀ k : Nat, k < D.pages → Ls k = [(D.lasts (k : Int)).getD nought]
  w : ∀ k : Nat, k < D.pages → ∀ b ∈ pagesOf D.waits (k : Int), b ∈ Ws k
  n : ∀ k : Nat, (∀ b ∈ Ws k, b.length = 256) ∧ (Ws k).length ≤ m
theorem LvInv.made (n : Nat) : LvInv (Dk.fresh n) 0 (fun _ => [nought]) (fun _ => []) := ⟨fun _ _ => rfl, fun _ _ b hb => (by cases hb), fun _ => ⟨fun b hb => (by cases hb), Nat.le_refl _⟩⟩
/-- Behind a call: what is written is noted. -/
def wrNote (D : Dk) (x : ActV) (Ws : Nat → List (List UInt8)) : Nat → List (List UInt8) := if x.k = 1 ∧ 0 ≤ x.page ∧ x.page < D.pages then fun k => if k = x.page.toNat then Ws k ++ [D.page x.page] else Ws k else Ws
theorem LvInv.act {D : Dk} {m : Nat} {Ls Ws : Nat → List (List UInt8)} (h : LvInv D m Ls Ws) (x : ActV) (ok : DkOk (D.act x).2) :
    (∀ k, (∀ b ∈ wrNote (D.act x).2 x Ws k, b.length = 256) ∧ (wrNote (D.act x).2 x Ws k).length ≤ m + 1) ∧ ((D.act x).2.waits ≠ [] → LvInv (D.act x).2 (m + 1) Ls (wrNote (D.act x).2 x Ws)) := by
  obtain ⟨a1, a2, a3⟩ := act_leaf D x
  have hn : ∀ k, (∀ b ∈ wrNote (D.act x).2 x Ws k, b.length = 256) ∧ (wrNote (D.act x).2 x Ws k).length ≤ m + 1 := fun k => by
    unfold wrNote
    split
    · simp only
      split
      · refine ⟨fun b hb => ?_, ?_⟩
        · rcases List.mem_append.1 hb with hb | hb
          · exact (h.n k).1 b hb
          · obtain rfl := List.mem_singleton.1 hb
            exact Dk.page_length ok _
        · rw [List.length_append]
          have := (h.n k).2
          simp; omega
      · exact ⟨(h.n k).1, Nat.le_succ_of_le (h.n k).2⟩
    · exact ⟨(h.n k).1, Nat.le_succ_of_le (h.n k).2⟩
  refine ⟨hn, fun hw => ⟨fun k hk => ?_, fun k hk b hb => ?_, hn⟩⟩
  · rcases a1 with a1 | a1
    · rw [a1]; exact h.l k (by omega)
    · exact absurd a1 hw
  · unfold wrNote
    rcases a3 _ b hb with h1 | ⟨h1, h2, h3, h4, h5⟩
    · have := h.w k (by omega) b h1
      split
      · simp only
        split
        · exact List.mem_append_left _ this
        · exact this
      · exact this
    · rw [if_pos ⟨h1, h2, by omega⟩]
      rw [if_pos (show k = x.page.toNat by omega), h5, h4]
      exact List.mem_append_right _ (List.mem_singleton.2 rfl)
end Go.Proofs.Ytehlabdbbbbopaa
