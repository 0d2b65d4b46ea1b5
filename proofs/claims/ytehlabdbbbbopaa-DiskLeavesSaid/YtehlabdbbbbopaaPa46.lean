/- Layer 2: two arrays of lists of texts, as the law notes what lasted and what was written. -/
import Derived.Test.YtehlabdbbbbopaaPa45
import Derived.Test.YtehlabdbbbbopaaPa44

namespace Go.Proofs.Ytehlabdbbbbopaa
open Go.RowKit Go.Maps Go.Shelf

/-- The cells of an array of twenty. -/
def cells20 (V : Nat → Value) : Array Value := ((List.range 20).map V).toArray
theorem cells20_get (V : Nat → Value) {i : Nat} (h : i < 20) : (cells20 V)[i]? = some (V i) := by
  unfold cells20
  rw [List.getElem?_toArray, List.getElem?_map, List.getElem?_range h]
  rfl
theorem cells20_set (V : Nat → Value) (i : Nat) (v : Value) : (cells20 V).setIfInBounds i v = cells20 (fun k => if k = i then v else V k) := by
  unfold cells20
  rw [List.setIfInBounds_toArray]
  congr 1
  refine List.ext_getElem? fun j => ?_
  rw [List.getElem?_set, List.getElem?_map, List.getElem?_map, List.length_map, List.length_range]
  by_cases hj : j < 20
  · rw [List.getElem?_range hj]
    by_cases h : i = j
    · subst h; simp [hj]
    · have h' : ¬ j = i := fun e => h e.symm
      simp [h, h']
  · have e : (List.range 20)[j]? = none := List.getElem?_eq_none (by simp; omega)
    rw [e]
    by_cases h : i = j
    · subst h; simp [hj]
    · simp [h]
abbrev nilV : Value := .slice none 0 0
theorem cells20_nil : #[nilV, nilV, nilV, nilV, nilV, nilV, nilV, nilV, nilV, nilV, nilV, nilV, nilV, nilV, nilV, nilV, nilV, nilV, nilV, nilV] = cells20 (fun _ => nilV) := rfl
/-- The two arrays: each list lies in a block of its own. -/
structure LvAt (B : Nat) (w : World) (bl bw : Nat) (VL VW : Nat → Value) (Ls Ws : Nat → List (List UInt8)) : Prop where
  rl : Row w bl 56 (cells20 VL)
  rw : Row w bw 56 (cells20 VW)
  ne : bl ≠ bw
  ol : ∀ k, OwnN w B 9 1 txtV (VL k) (Ls k)
  ow : ∀ k, OwnN w B 9 1 txtV (VW k) (Ws k)
  ap : ∀ j k g, (VW k).ownBlock = some g → ((VW j).ownBlock = some g → j = k) ∧ (VL j).ownBlock ≠ some g
section
variable {B : Nat} {w w' : World} {bl bw : Nat} {VL VW : Nat → Value} {Ls Ws : Nat → List (List UInt8)}
theorem LvAt.keeps (h : LvAt B w bl bw VL VW Ls Ws) (hk : Keeps w w' []) : LvAt B w' bl bw VL VW Ls Ws :=
  ⟨h.rl.keeps hk, h.rw.keeps hk, h.ne, fun k => (h.ol k).keeps hk, fun k => (h.ow k).keeps hk, h.ap⟩
theorem LvAt.rows {d : Nat} {cs : Array Value} (h : LvAt B w bl bw VL VW Ls Ws) (ha : RowsBut d w w') (hs : Row w d 67 cs) : LvAt B w' bl bw VL VW Ls Ws :=
  ⟨ha.row (Row.ne_type h.rl hs (by decide)) h.rl, ha.row (Row.ne_type h.rw hs (by decide)) h.rw, h.ne, fun k => own_rows (h.ol k) ha hs (by decide), fun k => own_rows (h.ow k) ha hs (by decide), h.ap⟩
theorem LvAt.lt (h : LvAt B w bl bw VL VW Ls Ws) : (∀ k g, (VL k).ownBlock = some g → g < w.heap.size) ∧ ∀ k g, (VW k).ownBlock = some g → g < w.heap.size :=
  ⟨fun k g hg => by obtain ⟨_, cs, hr⟩ := ownN_row (h.ol k) g hg; exact hr.lt, fun k g hg => by obtain ⟨_, cs, hr⟩ := ownN_row (h.ow k) g hg; exact hr.lt⟩
theorem own_set {b i : Nat} {v V : Value} {cs : Array Value} {l : List (List UInt8)} (h : OwnN w B 9 1 txtV V l) (hr : Row w b 56 cs) : OwnN (w.setCell ⟨b, i, none⟩ v) B 9 1 txtV V l :=
  OwnN.keep h (Keeps.setCell _ _ _) (fun x hx => .inr fun cs' hr' => by
    obtain rfl : x = b := by simpa using hx
    exact Row.ne_type hr' hr (by decide) rfl)
/-- One text alone, in a block of its own. -/
theorem own_new (w : World) (B : Nat) (hB : B ≤ w.heap.size) (b : List UInt8) : OwnN (w.alloc (.cells #[.string ⟨b.toArray⟩] 9)) B 9 1 txtV (.slice (some ⟨w.heap.size, 0, none⟩) 1 1) [b] :=
  ⟨by simp [txtV], .inr ⟨w.heap.size, 1, #[.string ⟨b.toArray⟩], rfl, hB, Row.new w _ _, by simp, by simp [maxLen], by simp, by simp [txtV]⟩⟩
/-- What lasts is noted anew. -/
theorem LvAt.setL (h : LvAt B w bl bw VL VW Ls Ws) {i : Nat} {V : Value} {l : List (List UInt8)} (ho : OwnN w B 9 1 txtV V l) (hf : ∀ k g, (VW k).ownBlock = some g → V.ownBlock ≠ some g) : LvAt B (w.setCell ⟨bl, i, none⟩ V) bl bw (fun k => if k = i then V else VL k) VW (fun k => if k = i then l else Ls k) Ws := by
  refine ⟨?_, h.rw.far (by have := h.ne; simp; omega) _, h.ne, fun k => ?_, fun k => own_set (h.ow k) h.rl, fun j k g hg => ⟨(h.ap j k g hg).1, ?_⟩⟩
  · rw [← cells20_set]; exact h.rl.store i V
  · by_cases hk : k = i
    · simp only [if_pos hk]; exact own_set ho h.rl
    · simp only [if_neg hk]; exact own_set (h.ol k) h.rl
  · by_cases hj : j = i
    · simp only [if_pos hj]; exact hf k g hg
    · simp only [if_neg hj]; exact (h.ap j k g hg).2
theorem LvAt.setNew (h : LvAt B w bl bw VL VW Ls Ws) (hB : B ≤ w.heap.size) (i : Nat) (b : List UInt8) :
    LvAt B ((w.alloc (.cells #[.string ⟨b.toArray⟩] 9)).setCell ⟨bl, i, none⟩ (.slice (some ⟨w.heap.size, 0, none⟩) 1 1)) bl bw (fun k => if k = i then (.slice (some ⟨w.heap.size, 0, none⟩) 1 1) else VL k) VW (fun k => if k = i then [b] else Ls k) Ws :=
  (h.keeps (Keeps.alloc _ _)).setL (own_new w B hB b) (fun k g hg e => by
    have := h.lt.2 k g hg
    have e' : w.heap.size = g := by simpa [Value.ownBlock] using e
    omega)
/-- Another list of what was written. -/
theorem LvAt.setW (h : LvAt B w bl bw VL VW Ls Ws) {i : Nat} {V : Value} {l : List (List UInt8)} (ho : OwnN w B 9 1 txtV V l) (hf : ∀ g, V.ownBlock = some g → (∀ j, j ≠ i → (VW j).ownBlock ≠ some g) ∧ ∀ j, (VL j).ownBlock ≠ some g) : LvAt B (w.setCell ⟨bw, i, none⟩ V) bl bw VL (fun k => if k = i then V else VW k) Ls (fun k => if k = i then l else Ws k) := by
  refine ⟨h.rl.far (by have := h.ne; simp; omega) _, ?_, h.ne, fun k => own_set (h.ol k) h.rw, fun k => ?_, fun j k g hg => ?_⟩
  · rw [← cells20_set]; exact h.rw.store i V
  · by_cases hk : k = i
    · simp only [if_pos hk]; exact own_set ho h.rw
    · simp only [if_neg hk]; exact own_set (h.ow k) h.rw
  · by_cases hk : k = i
    · simp only [if_pos hk] at hg
      refine ⟨fun hj => ?_, (hf g hg).2 j⟩
      by_cases hj' : j = i
      · omega
      · simp only [if_neg hj'] at hj
        exact absurd hj ((hf g hg).1 j hj')
    · simp only [if_neg hk] at hg
      refine ⟨fun hj => ?_, (h.ap j k g hg).2⟩
      by_cases hj' : j = i
      · simp only [if_pos hj'] at hj
        exact absurd hg ((hf g hj).1 k hk)
      · simp only [if_neg hj'] at hj
        exact (h.ap j k g hg).1 hj
theorem LvAt.clr (h : LvAt B w bl bw VL VW Ls Ws) (i : Nat) : LvAt B (w.setCell ⟨bw, i, none⟩ nilV) bl bw VL (fun k => if k = i then nilV else VW k) Ls (fun k => if k = i then [] else Ws k) :=
  h.setW (OwnN.nil _ _ _ _ _) (fun g hg => by simp [Value.ownBlock] at hg)
/-- Behind an append at one list, its new header not yet stored. -/
theorem LvAt.grown (h : LvAt B w bl bw VL VW Ls Ws) {i : Nat} {V : Value} {l : List (List UInt8)} (ho : OwnN w' B 9 1 txtV V l) (hk : Keeps w w' (VW i).ownBlock.toList) (hb : V.ownBlock = (VW i).ownBlock ∨ V.ownBlock = some w.heap.size) :
    LvAt B (w'.setCell ⟨bw, i, none⟩ V) bl bw VL (fun k => if k = i then V else VW k) Ls (fun k => if k = i then l else Ws k) := by
  have nl : ∀ b t cs, Row w b t cs → t ≠ 9 → b ∉ (VW i).ownBlock.toList := fun b t cs hr ht hm => by
    obtain ⟨_, cs', hr'⟩ := ownN_row (h.ow i) b (by simpa using hm)
    exact Row.ne_type hr hr' ht rfl
  have hl := h.lt
  -- the others' blocks stay; the list's own is looked at anew
  have hrl := h.rl.keep hk (nl _ _ _ h.rl (by decide))
  have hrw := h.rw.keep hk (nl _ _ _ h.rw (by decide))
  have hol : ∀ k, OwnN w' B 9 1 txtV (VL k) (Ls k) := fun k => ownN_keep (h.ol k) hk (fun g hg hm => (h.ap k i g (by simpa using hm)).2 hg)
  have how : ∀ k, k ≠ i → OwnN w' B 9 1 txtV (VW k) (Ws k) := fun k hki => ownN_keep (h.ow k) hk (fun g hg hm => hki ((h.ap k i g (by simpa using hm)).1 hg))
  have hf : ∀ g, V.ownBlock = some g → (∀ j, j ≠ i → (VW j).ownBlock ≠ some g) ∧ ∀ j, (VL j).ownBlock ≠ some g := fun g hg => by
    rcases hb with e | e
    · rw [e] at hg
      exact ⟨fun j hj hj' => hj ((h.ap j i g hg).1 hj'), fun j => (h.ap j i g hg).2⟩
    · rw [e] at hg
      injection hg with hg
      exact ⟨fun j _ hj' => by have := hl.2 j g hj'; omega, fun j hj' => by have := hl.1 j g hj'; omega⟩
  refine ⟨hrl.far (by have := h.ne; simp; omega) _, ?_, h.ne, fun k => own_set (hol k) hrw, fun k => ?_, fun j k g hg => ?_⟩
  · rw [← cells20_set]; exact hrw.store i V
  · by_cases hk : k = i
    · simp only [if_pos hk]; exact own_set ho hrw
    · simp only [if_neg hk]; exact own_set (how k hk) hrw
  · by_cases hk : k = i
    · simp only [if_pos hk] at hg
      refine ⟨fun hj => ?_, (hf g hg).2 j⟩
      by_cases hj' : j = i
      · omega
      · simp only [if_neg hj'] at hj
        exact absurd hj ((hf g hg).1 j hj')
    · simp only [if_neg hk] at hg
      refine ⟨fun hj => ?_, (h.ap j k g hg).2⟩
      by_cases hj' : j = i
      · simp only [if_pos hj'] at hj
        exact absurd hg ((hf g hj).1 k hk)
      · simp only [if_neg hj'] at hj
        exact (h.ap j k g hg).1 hj
end
/-- A disk stays where a list of the call's own is appended to. -/
theorem DkIn.own {w0 w w' : World} {d : Nat} {D : Dk} {B : Nat} {V : Value} {l : List (List UInt8)} (h : DkIn w0 w d D) (ho : OwnN w B 9 1 txtV V l) (hB : w0.heap.size ≤ B) (hk : Keeps w w' V.ownBlock.toList) : DkIn w0 w' d D := by
  cases hv : V.ownBlock with
  | none => rw [hv] at hk; exact h.keeps hk
  | some g =>
    rw [hv] at hk
    obtain ⟨h1, cs, hr⟩ := ownN_row ho g hv
    exact h.box (Nat.le_trans hB h1) hr (by decide) (by decide) hk
section
variable {w w' : World} {B d i : Nat} {D : Dk} {bl bw : Nat} {VL VW : Nat → Value} {Ls Ws : Nat → List (List UInt8)}
/-- One text is noted as what lasts. -/
theorem lv_new (h : LvAt B w' bl bw VL VW Ls Ws) (hd : DkIn w w' d D) (hB : B ≤ w'.heap.size) (hbl : w.heap.size ≤ bl) (i : Nat) (b : List UInt8) :
    ∃ VL', LvAt B ((w'.alloc (.cells #[.string ⟨b.toArray⟩] 9)).setCell ⟨bl, i, none⟩ (.slice (some ⟨w'.heap.size, 0, none⟩) 1 1)) bl bw VL' VW (fun k => if k = i then [b] else Ls k) Ws ∧ DkIn w ((w'.alloc (.cells #[.string ⟨b.toArray⟩] 9)).setCell ⟨bl, i, none⟩ (.slice (some ⟨w'.heap.size, 0, none⟩) 1 1)) d D ∧ B ≤ ((w'.alloc (.cells #[.string ⟨b.toArray⟩] 9)).setCell ⟨bl, i, none⟩ (.slice (some ⟨w'.heap.size, 0, none⟩) 1 1)).heap.size :=
  ⟨_, h.setNew hB i b, (hd.keeps (Keeps.alloc _ _)).box hbl (h.rl.keeps (Keeps.alloc _ _)) (by decide) (by decide) (Keeps.setCell _ _ _), by simp; omega⟩
theorem lv_clr (h : LvAt B w' bl bw VL VW Ls Ws) (hd : DkIn w w' d D) (hB : B ≤ w'.heap.size) (hbw : w.heap.size ≤ bw) (i : Nat) :
    ∃ VW', LvAt B (w'.setCell ⟨bw, i, none⟩ nilV) bl bw VL VW' Ls (fun k => if k = i then [] else Ws k) ∧ DkIn w (w'.setCell ⟨bw, i, none⟩ nilV) d D ∧ B ≤ (w'.setCell ⟨bw, i, none⟩ nilV).heap.size :=
  ⟨_, h.clr i, hd.box hbw h.rw (by decide) (by decide) (Keeps.setCell _ _ _), by simpa using hB⟩
theorem LvAt.cells (h : LvAt B w bl bw VL VW Ls Ws) (hi : i < 20) : (w.cell? ⟨bl, i, none⟩ = some (VL i) ∧ w.frozen? ⟨bl, i, none⟩ = false) ∧ w.cell? ⟨bw, i, none⟩ = some (VW i) ∧ w.frozen? ⟨bw, i, none⟩ = false :=
  ⟨⟨(h.rl.cell i).trans (cells20_get VL hi), h.rl.frozen i⟩, (h.rw.cell i).trans (cells20_get VW hi), h.rw.frozen i⟩
theorem LvAt.grown_cells (h : LvAt B w bl bw VL VW Ls Ws) {i : Nat} (hk : Keeps w w' (VW i).ownBlock.toList) {j : Nat} (hj : j < 20) : w'.cell? ⟨bw, j, none⟩ = some (VW j) ∧ w'.frozen? ⟨bw, j, none⟩ = false := by
  have hrw : Row w' bw 56 (cells20 VW) := h.rw.keep hk (fun hm => by
    obtain ⟨_, cs', hr'⟩ := ownN_row (h.ow i) bw (by simpa using hm)
    exact Row.ne_type h.rw hr' (by decide) rfl)
  exact ⟨(hrw.cell j).trans (cells20_get VW hj), hrw.frozen j⟩
theorem lv_grown {q : Nat} {V : Value} {l : List (List UInt8)} (h : LvAt B w' bl bw VL VW Ls Ws) (hd : DkIn w w' d D) (hB : B ≤ w'.heap.size) (hw : w.heap.size ≤ B) (hbw : w.heap.size ≤ bw) {w9 : World} (ho : OwnN w9 B 9 1 txtV V l) (hk : Keeps w' w9 (VW q).ownBlock.toList) (hb : V.ownBlock = (VW q).ownBlock ∨ V.ownBlock = some w'.heap.size) :
    ∃ VW', LvAt B (w9.setCell ⟨bw, q, none⟩ V) bl bw VL VW' Ls (fun k => if k = q then l else Ws k) ∧ DkIn w (w9.setCell ⟨bw, q, none⟩ V) d D ∧ B ≤ (w9.setCell ⟨bw, q, none⟩ V).heap.size := by
  have hr : Row w9 bw 56 (cells20 VW) := h.rw.keep hk (fun hm => by
    obtain ⟨_, cs', hr'⟩ := ownN_row (h.ow q) bw (by simpa using hm)
    exact Row.ne_type h.rw hr' (by decide) rfl)
  exact ⟨_, h.grown ho hk hb, (hd.own (h.ow q) hw hk).box hbw hr (by decide) (by decide) (Keeps.setCell _ _ _), by have := hk.size; simp; omega⟩
theorem LvAt.slices (h : LvAt B w bl bw VL VW Ls Ws) (k : Nat) : (∃ A c, VL k = .slice A (Ls k).length c) ∧ ∃ A c, VW k = .slice A (Ws k).length c := ⟨(h.ol k).slice, (h.ow k).slice⟩
theorem LvAt.congr {Ls' Ws' : Nat → List (List UInt8)} (h : LvAt B w bl bw VL VW Ls Ws) (h1 : Ls = Ls') (h2 : Ws = Ws') : LvAt B w bl bw VL VW Ls' Ws' := by subst h1 h2; exact h
end
theorem lv_upto (n : Nat) (a b : Nat → List (List UInt8)) : (fun k => if k = n then a n else (fun j => if j < n then a j else b j) k) = fun j => if j < n + 1 then a j else b j := by
  funext k
  by_cases h : k = n
  · subst h; simp
  · by_cases h' : k < n
    · simp [h, h', Nat.lt_succ_of_lt h']
    · have : ¬ k < n + 1 := by omega
      simp [h, h', this]
/-- Nothing waits: what lasts is noted anew. -/
theorem LvInv.still {D : Dk} {R : Rk} (hr : DkRk D R) (hw : D.waits = []) {m : Nat} {Ls Ws : Nat → List (List UInt8)} (hn : ∀ k, (∀ b ∈ Ws k, b.length = 256) ∧ (Ws k).length ≤ m) : LvInv D m (fun j => if j < D.pages then [D.page j] else Ls j) (fun j => if j < D.pages then [] else Ws j) := by
  refine ⟨fun k hk => ?_, fun k _ b hb => ?_, fun k => ?_⟩
  · simp only [if_pos hk]
    rw [hr.pg, hw]
    rfl
  · rw [hw] at hb; cases hb
  · by_cases hk : k < D.pages
    · simp only [if_pos hk]
      exact ⟨fun b hb => (by cases hb), Nat.zero_le _⟩
    · simp only [if_neg hk]
      exact hn k
/-- Each sector of a crash is found among what was noted. -/
theorem LvInv.found {D : Dk} {m : Nat} {Ls Ws : Nat → List (List UInt8)} (h : LvInv D m Ls Ws) (ok : DkOk D) (ps : List Int) {k : Nat} (hk : k < D.pages) {s : Nat} (hs : s < 4) : ∃ b, b ∈ Ls k ++ Ws k ∧ sect b s = sect ((D.crash ps).page k) s := by
  obtain ⟨_, h2⟩ := crash_leaf ok ps (k : Int)
  rcases h2 s hs with e | ⟨b, hb, e⟩
  · exact ⟨_, List.mem_append_left _ (by rw [h.l k hk]; exact List.mem_singleton.2 rfl), e.symm⟩
  · exact ⟨b, List.mem_append_right _ (h.w k hk b hb), e.symm⟩
theorem LvInv.len {D : Dk} {m : Nat} {Ls Ws : Nat → List (List UInt8)} (h : LvInv D m Ls Ws) (ok : DkOk D) {k : Nat} (hk : k < D.pages) : (∀ b ∈ Ls k ++ Ws k, b.length = 256) ∧ (Ls k).length = 1 ∧ (Ws k).length ≤ m := by
  refine ⟨fun b hb => ?_, by rw [h.l k hk]; rfl, (h.n k).2⟩
  rcases List.mem_append.1 hb with hb | hb
  · rw [h.l k hk] at hb
    obtain rfl := List.mem_singleton.1 hb
    cases hy : D.lasts (k : Int) with
    | none => exact nought_length
    | some b => exact (ok.l _ b hy).2.2
  · exact (h.n k).1 b hb
theorem crash_crash (D : Dk) (ps qs : List Int) : (D.crash ps).crash qs = D.crash ps := by
  have hw : (D.crash ps).waits = [] := rfl
  rw [crash_still hw]
  unfold Dk.crash
  generalize (secRun D.waits (secList D.waits) D.lasts ps).1 = M
  rfl
end Go.Proofs.Ytehlabdbbbbopaa
