/- All blocks of cells but one are as they were. -/
import Derived.Test.YtfglgeoookbppaaGreatDoorPa0

namespace Go.Proofs.YtfglgeoookbppaaGreatDoor
open Go.RowKit

/-- All blocks of cells but s are as they were. -/
def Apart (w w' : World) (s : Nat) : Prop := ∃ m, (∀ t cs, ¬ Row w m t cs) ∧ Keeps w w' [s, m]
theorem Apart.row {w w' : World} {s b : Nat} {t : TypeId} {cs : Array Value} (h : Apart w w' s) (hr : Row w b t cs) (hne : b ≠ s) : Row w' b t cs := by
  obtain ⟨m, h1, h2⟩ := h
  refine hr.keep h2 ?_
  rintro hm
  rcases List.mem_cons.1 hm with rfl | hm
  · exact hne rfl
  · obtain rfl := List.mem_singleton.1 hm
    exact h1 _ _ hr
theorem Apart.of_keeps {w w' : World} {s : Nat} (h : Keeps w w' []) : Apart w w' s := ⟨w.heap.size, fun t cs hr => Nat.lt_irrefl _ hr.lt, h.weaken (by simp)⟩
theorem Apart.size {w w' : World} {s : Nat} (h : Apart w w' s) : w.heap.size ≤ w'.heap.size := by
  obtain ⟨m, _, h⟩ := h
  exact h.size
/-- All blocks of cells but s are as they were (this can be chained). -/
structure RowsBut (s : Nat) (w w' : World) : Prop where
  size : w.heap.size ≤ w'.heap.size
  row : ∀ {b : Nat} {t : TypeId} {cs : Array Value}, b ≠ s → Row w b t cs → Row w' b t cs
section
variable {w w' w'' : World} {s : Nat}
theorem RowsBut.refl : RowsBut s w w := ⟨Nat.le_refl _, fun _ h => h⟩
theorem RowsBut.of_keeps (h : Keeps w w' []) : RowsBut s w w' := ⟨h.size, fun _ hr => hr.keep h (by simp)⟩
theorem RowsBut.of_apart (h : Apart w w' s) : RowsBut s w w' := ⟨h.size, fun hne hr => h.row hr hne⟩
theorem RowsBut.trans (h : RowsBut s w w') (h' : RowsBut s w' w'') : RowsBut s w w'' := ⟨Nat.le_trans h.size h'.size, fun hne hr => h'.row hne (h.row hne hr)⟩
theorem RowsBut.keeps (h : RowsBut s w w') (h' : Keeps w' w'' []) : RowsBut s w w'' := h.trans (.of_keeps h')
theorem RowsBut.set {b : Nat} {i : Nat} {v : Value} (h : RowsBut s w w') (hb : w.heap.size ≤ b) : RowsBut s w (w'.setCell ⟨b, i, none⟩ v) :=
  ⟨by simpa using h.size, fun hne hr => (h.row hne hr).keep (Keeps.setCell _ _ _) (by have := hr.lt; simp; omega)⟩
theorem own_rows {base size n : Nat} {e t : TypeId} {v : Value} {xs : List Value} {cs : Array Value} (h : w.ownsRow base e size v n xs) (ha : RowsBut s w w') (hs : Row w s t cs) (hne : e ≠ t) : w'.ownsRow base e size v n xs := by
  obtain ⟨h1, h2⟩ := h
  refine ⟨h1, ?_⟩
  rcases h2 with h2 | ⟨g, cap, cur, hv, hg, hh, hr⟩
  · exact .inl h2
  · exact .inr ⟨g, cap, cur, hv, hg, ha.row (Row.ne_type (show Row w g e cur from hh) hs hne) hh, hr⟩
end
end Go.Proofs.YtfglgeoookbppaaGreatDoor
