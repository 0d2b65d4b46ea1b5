/- Package keys: one part, read; parts of the call's own. -/
import Derived.Test.YtckmlmedhchpaaaDoorPa22
import Derived.Test.YtckmlmedhchpaaaDoorPa23

namespace Go.Proofs.YtckmlmedhchpaaaDoor
open Go.RowKit

/-- A part out of bytes, by its kind. -/
def kRd (k : Nat) (l : List UInt8) : Option (KP × List UInt8) :=
  if k = 1 then (if 8 ≤ l.length then some (⟨1, (beN (l.take 8) : Int) - 9223372036854775808, 0, []⟩, l.drop 8) else none)
  else if k = 2 then (if 8 ≤ l.length ∧ kOf (wholeW (kWord (beN (l.take 8)))) = beN (l.take 8) then some (⟨2, 0, wholeW (kWord (beN (l.take 8))), []⟩, l.drop 8) else none)
  else (kUnesc l).map fun (s, t) => (⟨3, 0, 0, s⟩, t)
/-- What reading does. -/
def KRd (w : World) (b : Nat) (o : Option (KP × List UInt8)) (e : Ending) (w' : World) : Prop := Keeps w w' [b] ∧ match o with
  | none => e = kStop
  | some (p, t) => e = .returned (kpV p) ∧ Row w' b 9 #[strV t]
def kRdFn (k : Nat) : FuncId := if k = 1 then 38 else if k = 2 then 45 else 52
theorem kRd_any (k : Nat) (w : World) (b : Nat) (l : List UInt8) (hb : Row w b 9 #[strV l]) (hm : l.length ≤ 1000000) :
    Calls Tryd.prog (kRdFn k) #[.pointer (some ⟨b, 0, none⟩)] w (KRd w b (kRd k l)) := by
  unfold kRdFn kRd
  split
  · split
    · rename_i h8
      exact (kRdI_any w b l hb h8 hm).mono fun e w' ⟨h1, h2, h3⟩ => ⟨h3, h1, h2⟩
    · rename_i h8
      exact (kRdI_no w b l hb (by omega)).mono fun e w' ⟨h1, h3⟩ => ⟨h3, h1⟩
  · split
    · split
      · rename_i h8
        exact (kRdF_any w b l hb h8.1 hm h8.2).mono fun e w' ⟨h1, h2, h3⟩ => ⟨h3, h1, h2⟩
      · rename_i h8
        rcases Nat.lt_or_ge l.length 8 with h9 | h9
        · exact (kRdF_no w b l hb h9).mono fun e w' ⟨h1, h3⟩ => ⟨h3, h1⟩
        · exact (kRdF_bad w b l hb h9 hm (fun h => h8 ⟨h9, h⟩)).mono fun e w' ⟨h1, h3⟩ => ⟨h3, h1⟩
    · refine (kRdT_any w b l hb hm).mono fun e w' ⟨h1, h2⟩ => ⟨h1, ?_⟩
      cases hu : kUnesc l with
      | none => rw [hu] at h2; exact h2
      | some x => rw [hu] at h2; exact h2

theorem kRd_1 (w : World) (b : Nat) (l : List UInt8) (hb : Row w b 9 #[strV l]) (hm : l.length ≤ 1000000) : Calls Tryd.prog 38 #[.pointer (some ⟨b, 0, none⟩)] w (KRd w b (kRd 1 l)) := kRd_any 1 w b l hb hm
theorem kRd_2 (w : World) (b : Nat) (l : List UInt8) (hb : Row w b 9 #[strV l]) (hm : l.length ≤ 1000000) : Calls Tryd.prog 45 #[.pointer (some ⟨b, 0, none⟩)] w (KRd w b (kRd 2 l)) := kRd_any 2 w b l hb hm
theorem kRd_3 (w : World) (b : Nat) (l : List UInt8) (hb : Row w b 9 #[strV l]) (hm : l.length ≤ 1000000) : Calls Tryd.prog 52 #[.pointer (some ⟨b, 0, none⟩)] w (KRd w b (kRd 3 l)) := kRd_any 3 w b l hb hm
/-- Parts of the call's own. -/
abbrev OwnedP (w : World) (base : Nat) (v : Value) (l : List KP) : Prop := w.ownsRow base 34 4 v l.length (kFlat l)
theorem undParts : Tryd.prog.underlying 23 = some (.slice 34) := by kernel_rfl
theorem infoPart : (Tryd.prog.info? 34).map (fun i => (i.zero, i.size, i.bytes)) = some (some (.agg #[.int .i64 0, .int .i64 0, .float .f64 0, .string ⟨#[]⟩]), 4, 40) := by kernel_rfl
def kPs : Nat → List UInt8 → Option (List KP)
  | 0, _ => none
  | _ + 1, [] => some []
  | f + 1, b :: l => if kIs b.toNat = true then (match kRd b.toNat l with | none => none | some (p, t) => (kPs f t).map (p :: ·)) else none
/-- Bytes' parts, in the program's way. -/
def kPar (s : List UInt8) : Option (List KP) := kPs (s.length + 1) s

theorem ownP_slice {w : World} {base : Nat} {v : Value} {l : List KP} (h : OwnedP w base v l) : ∃ A c, v = .slice A l.length c ∧ Lies w w.heap.size A (kFlat l) := by
  rcases h.2 with ⟨rfl, h0⟩ | ⟨g, cap, cur, rfl, hg, hh, hnc, hcm, hsz, htk⟩
  · have : l = [] := List.eq_nil_of_length_eq_zero h0
    subst this
    exact ⟨none, 0, rfl, fun h => absurd h (by simp [kFlat])⟩
  · refine ⟨some ⟨g, 0, none⟩, cap, rfl, fun _ => ⟨g, 0, rfl, (Array.getElem?_eq_some_iff.1 hh).1, fun i u hu => ?_⟩⟩
    have hc : w.cell? ⟨g, i, none⟩ = cur[i]? := cell_of_row w g i cur _ (0, 0) hh
    rw [Nat.zero_add, hc, ← Array.getElem?_toList]
    rw [← htk, List.getElem?_take] at hu
    split at hu
    · exact hu
    · cases hu
theorem ownP_keep {w w' : World} {base : Nat} {v : Value} {l : List KP} {S : List Nat} (h : OwnedP w base v l) (hk : Keeps w w' S) (hs : ∀ g, v.ownBlock = some g → g ∉ S) : OwnedP w' base v l := by
  obtain ⟨h1, h2⟩ := h
  refine ⟨h1, ?_⟩
  rcases h2 with h2 | ⟨g, cap, cur, hv, hg, hh, r⟩
  · exact .inl h2
  · subst hv
    have hlt : g < w.heap.size := (Array.getElem?_eq_some_iff.1 hh).1
    exact .inr ⟨g, cap, cur, rfl, hg, (hk.block g hlt (hs g rfl)).trans hh, r⟩
theorem ownP_ne {w : World} {base : Nat} {v : Value} {l : List KP} {g : Nat} {t : TypeId} {cs : Array Value} (h : OwnedP w base v l) (hg : Row w g t cs) (hne : 34 ≠ t) : v.ownBlock ≠ some g := by
  rcases h.2 with ⟨rfl, _⟩ | ⟨g', cap, cur, rfl, _, hh, _⟩
  · simp [Value.ownBlock]
  · intro he
    have : g' = g := by simpa [Value.ownBlock] using he
    subst this
    exact Row.ne_type (t := 34) hh hg hne rfl


theorem kUnesc_len : ∀ {l s t : List UInt8}, kUnesc l = some (s, t) → s.length + t.length + 2 ≤ l.length
  | [], s, t, h => by cases h
  | [_], s, t, h => by cases h
  | b :: c :: r, s, t, h => by
    rw [kUnesc] at h
    split at h
    · split at h
      · injection h with h
        injection h with h1 h2
        subst h1 h2
        simp
      · split at h
        · cases hu : kUnesc r with
          | none => rw [hu] at h; cases h
          | some x =>
            obtain ⟨s', t'⟩ := x
            have := kUnesc_len hu
            rw [hu] at h
            simp only [Option.map_some, Option.some.injEq, Prod.mk.injEq] at h
            obtain ⟨rfl, rfl⟩ := h
            simp only [List.length_cons]
            omega
        · cases h
    · cases hu : kUnesc (c :: r) with
      | none => rw [hu] at h; cases h
      | some x =>
        obtain ⟨s', t'⟩ := x
        have := kUnesc_len hu
        rw [hu] at h
        simp only [Option.map_some, Option.some.injEq, Prod.mk.injEq] at h
        obtain ⟨rfl, rfl⟩ := h
        simp only [List.length_cons] at this ⊢
        omega
theorem kRd_len {k : Nat} {l t : List UInt8} {p : KP} (h : kRd k l = some (p, t)) : t.length ≤ l.length ∧ p.s.length ≤ l.length ∧ p.Ok := by
  have hb := beN8_lt l
  have hw := wholeW_lt _ (kWord_lt _ hb)
  unfold kRd at h
  split at h
  · split at h
    · injection h with h
      injection h with h1 h2
      subst h1 h2
      refine ⟨by simp, by simp, ?_⟩
      constructor <;> (dsimp only; omega)
    · cases h
  · split at h
    · split at h
      · injection h with h
        injection h with h1 h2
        subst h1 h2
        refine ⟨by simp, by simp, ?_⟩
        constructor <;> (dsimp only; omega)
      · cases h
    · cases hu : kUnesc l with
      | none => rw [hu] at h; cases h
      | some x =>
        obtain ⟨s', t'⟩ := x
        have := kUnesc_len hu
        rw [hu] at h
        simp only [Option.map_some, Option.some.injEq, Prod.mk.injEq] at h
        obtain ⟨rfl, rfl⟩ := h
        refine ⟨by omega, by dsimp only; omega, ?_⟩
        constructor <;> (dsimp only; omega)
theorem kPs_more : ∀ (f g : Nat) (l : List UInt8), l.length < f → l.length < g → kPs f l = kPs g l
  | 0, _, _, h, _ => by omega
  | _, 0, _, _, h => by omega
  | f + 1, g + 1, [], _, _ => rfl
  | f + 1, g + 1, b :: l, h1, h2 => by
    unfold kPs
    split
    · cases hr : kRd b.toNat l with
      | none => rfl
      | some x =>
        obtain ⟨p, t⟩ := x
        have := (kRd_len hr).1
        simp only [List.length_cons] at h1 h2
        show (kPs f t).map _ = (kPs g t).map _
        rw [kPs_more f g t (by omega) (by omega)]
    · rfl
theorem kPar_step {b : UInt8} {l t : List UInt8} {p : KP} (hk : kIs b.toNat = true) (h : kRd b.toNat l = some (p, t)) : kPar (b :: l) = (kPar t).map (p :: ·) := by
  have := (kRd_len h).1
  unfold kPar
  rw [kPs, if_pos hk, h]
  show (kPs _ t).map _ = _
  rw [kPs_more _ (t.length + 1) t (by simp only [List.length_cons]; omega) (by omega)]
theorem kPar_none {b : UInt8} {l : List UInt8} (h : kIs b.toNat = true → kRd b.toNat l = none) : kPar (b :: l) = none := by
  unfold kPar
  rw [kPs]
  split
  · rename_i hk
    rw [h hk]
  · rfl
theorem kPar_nil : kPar [] = some [] := rfl
end Go.Proofs.YtckmlmedhchpaaaDoor
