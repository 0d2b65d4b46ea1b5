/- Maps whose elements are any values: what is looked up is told by value. -/
import Derived.Test.YtfglgeoookbppaaGreatDoorPa7
import Derived.Maps.Own

namespace Go.Proofs.YtfglgeoookbppaaGreatDoor
open Go.RowKit Go.Maps
open Go.WideElems (Fit rd rg pl rd_val)

/-- An element as it is. -/
def heldR (v : Value) : Option (DataW Value × List MemPlace) := some (.held v, [])

section
variable {P : Program} {k e t : TypeId} {w w' : World} {b n : Nat} {D : DataW Value}
/-- Block b is a map of at most n entries whose elements D tells. -/
abbrev HMap (w : World) (P : Program) (k : TypeId) (b n : Nat) (D : DataW Value) : Prop := w.ownsMap P k heldR b n D
theorem HMap.keep {S : List Nat} (h : HMap w P k b n D) (hk : Keeps w w' S) (hb : b ∉ S) : HMap w' P k b n D := by
  have hlt := h.lt
  obtain ⟨es, clock, hb', F, hs, hD⟩ := h
  exact ⟨es, clock, (hk.block b hlt hb).trans hb', F, hs, hD⟩

/-- An element that is there. -/
theorem HMap.there (h : HMap w P k b n D) (K : Keyed P k) (ht : P.underlying t = some (.map k e)) {z : Value} (hz : (zeroValue e).run P w = .ok z w) {key v : Value} {kl : Lit} (hkey : keyOf P k key = some kl)
    (hat : ∀ zd, D.atKey kl zd = .held v) (c : Bool) : (Instr.lookup t (.map (some b)) key c).run P w = .ok (if c then .tuple #[v, .bool true] else v) w := by
  obtain ⟨es, clock, hb, F, _, rfl⟩ := h
  rcases fit_look c K ht hz hb F hkey with ⟨_, _, h2⟩ | ⟨e0, y, _, _, hrun, hR, h2, _⟩
  · have := h2 .nil
    rw [hat] at this
    cases this
  · have h3 := h2 .nil
    rw [hat] at h3
    simp only [heldR, Option.some.injEq] at hR
    subst hR
    injection h3 with h3
    rw [hrun, h3]
/-- One that is not there. -/
theorem HMap.missing (h : HMap w P k b n D) (K : Keyed P k) (ht : P.underlying t = some (.map k e)) {z : Value} (hz : (zeroValue e).run P w = .ok z w) {key : Value} {kl : Lit} (hkey : keyOf P k key = some kl)
    (hat : ∀ zd, D.atKey kl zd = zd) (c : Bool) : (Instr.lookup t (.map (some b)) key c).run P w = .ok (if c then .tuple #[z, .bool false] else z) w := by
  obtain ⟨es, clock, hb, F, _, rfl⟩ := h
  rcases fit_look c K ht hz hb F hkey with ⟨hrun, _, _⟩ | ⟨e0, y, _, _, hrun, hR, h2, _⟩
  · exact hrun
  · have h3 := h2 .nil
    rw [hat] at h3
    simp only [heldR, Option.some.injEq] at hR
    subst hR
    cases h3

/-- A composite literal's entry, laid. -/
theorem wpList_insert_held {ops : Array Oper} {rest : List Oper} {o : Oper} {a : Act} {Q : Exit → Act → World → Prop}
    (hg : o.guard = none) (m x v : Operand) (hop : o.op = Op.insert t m x v)
    (K : Keyed P k) (ht : P.underlying t = some (.map k e)) (hm : a.eval m = .map (some b)) (hown : HMap w P k b n D) (hn : n < maxLen) (key val : Value) (kl : Lit) (hx : a.eval x = key) (hv : a.eval v = val) (hkey : keyOf P k key = some kl)
    (hK : ∀ w', HMap w' P k b (n + 1) (D.put kl (.held val)) → w.grownBy w' (some b) → wpList P ops Q rest (a.put o.dst undef) w') :
    wpList P ops Q (o :: rest) a w := by
  refine wpList_plain hg fun K' hK' => ?_
  obtain ⟨w', hrun, r1, r2⟩ := hown.update (R := heldR) K ht hn hkey (d := .held val) (ps := []) rfl
  unfold Oper.wp
  simp [execOp, hop, hm, hx, hv, hrun, Result.andThen]
  exact hK' _ _ (hK w' r1 r2)
end
end Go.Proofs.YtfglgeoookbppaaGreatDoor
