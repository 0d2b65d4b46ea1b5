/- A region that draws its order and fills one block that it makes itself: each operation met once. -/
import Derived.Test.YtfglgeoookbppaaGreatDoorPa6
import Derived.Laws.EntriesVeiled

namespace Go.Proofs.YtfglgeoookbppaaGreatDoor
open Go.RowKit

/-- All that was there stays, but that a block from B on may turn from O1 to O2. -/
structure KeepsF (B : Nat) (O1 O2 : Obj) (w w' : World) : Prop where
  os : w'.os = w.os
  tape : w'.tape = w.tape
  output : w'.output = w.output
  size : w.heap.size ≤ w'.heap.size
  block : ∀ k, k < w.heap.size → w'.heap[k]? = w.heap[k]? ∨ (B ≤ k ∧ w.heap[k]? = some O1 ∧ w'.heap[k]? = some O2)
section
variable {B : Nat} {O1 O2 : Obj} {w w' w'' : World}
theorem KeepsF.of (h : Keeps w w' []) : KeepsF B O1 O2 w w' := ⟨h.os, h.tape, h.output, h.size, fun k hk => .inl (h.block k hk (by simp))⟩
theorem KeepsF.refl (w : World) : KeepsF B O1 O2 w w := .of (Keeps.refl _ _)
theorem KeepsF.trans (h : KeepsF B O1 O2 w w') (k : KeepsF B O1 O2 w' w'') : KeepsF B O1 O2 w w'' :=
  ⟨k.os.trans h.os, k.tape.trans h.tape, k.output.trans h.output, Nat.le_trans h.size k.size, fun i hi => by
    rcases h.block i hi with h1 | ⟨h1, h2, h3⟩ <;> rcases k.block i (Nat.lt_of_lt_of_le hi h.size) with k1 | ⟨k1, k2, k3⟩
    · exact .inl (k1.trans h1)
    · exact .inr ⟨k1, h1 ▸ k2, k3⟩
    · exact .inr ⟨h1, h2, k1.trans h3⟩
    · exact .inr ⟨h1, h2, k3⟩⟩
theorem KeepsF.keeps (h : KeepsF w.heap.size O1 O2 w w') : Keeps w w' [] := ⟨h.os, h.tape, h.output, h.size, fun k hk _ => by
  rcases h.block k hk with h1 | ⟨h1, _, _⟩
  · exact h1
  · omega⟩
theorem KeepsF.slot (h : KeepsF B O1 O2 w w') {b : Nat} (hb : w.heap[b]? = some O1 ∨ w.heap[b]? = some O2) : w'.heap[b]? = some O1 ∨ w'.heap[b]? = some O2 := by
  have hlt : b < w.heap.size := by
    rcases hb with hb | hb <;> exact (Array.getElem?_eq_some_iff.1 hb).1
  rcases h.block b hlt with h1 | ⟨_, _, h1⟩
  · rw [h1]; exact hb
  · exact .inr h1
theorem KeepsF.full (h : KeepsF B O1 O2 w w') {b : Nat} (hb : w.heap[b]? = some O2) : w'.heap[b]? = some O2 := by
  rcases h.block b (Array.getElem?_eq_some_iff.1 hb).1 with h1 | ⟨_, _, h1⟩
  · rw [h1]; exact hb
  · exact h1
theorem KeepsF.other (h : KeepsF B O1 O2 w w') {b : Nat} {o : Obj} (hb : w.heap[b]? = some o) (hne : o ≠ O1) : w'.heap[b]? = some o := by
  rcases h.block b (Array.getElem?_eq_some_iff.1 hb).1 with h1 | ⟨_, h2, _⟩
  · rw [h1]; exact hb
  · rw [hb] at h2
    injection h2 with h2
    exact absurd h2 hne
theorem KeepsF.fill {b : Nat} (hk : Keeps w w' [b]) (hB : B ≤ b) (h1 : w.heap[b]? = some O1 ∨ w.heap[b]? = some O2) (h2 : w'.heap[b]? = some O2) : KeepsF B O1 O2 w w' :=
  ⟨hk.os, hk.tape, hk.output, hk.size, fun k hlt => by
    by_cases hkb : k = b
    · subst hkb
      rcases h1 with h1 | h1
      · exact .inr ⟨hB, h1, h2⟩
      · exact .inl (h2.trans h1.symm)
    · exact .inl (hk.block k hlt (by simpa using hkb))⟩
end
section
variable {P : Program} {B : Nat} {O1 O2 : Obj}
theorem loosef_calls {W : World} {φ : Value → World → Prop} {f : FuncId} {args : Array Value} (h : Calls P f args W (fun e w'' => ∃ v, e = .returned v ∧ Keeps W w'' [] ∧ φ v w'')) :
    looseUpon P (KeepsF B O1 O2) W φ (.ok (.enter f args) W) := ⟨KeepsF.refl _, h.mono fun _ _ ⟨v, he, hk, hv⟩ => ⟨v, he, .of hk, hv⟩⟩
theorem loosef_has {W : World} {φ φ' : Value → World → Prop} {f : FuncId} {args : Array Value} (hφ : Hid (∀ u w, φ u w → φ' u w)) (h : Calls P f args W (fun e w'' => ∃ v, e = .returned v ∧ Keeps W w'' [] ∧ φ v w'')) :
    looseUpon P (KeepsF B O1 O2) W φ' (.ok (.enter f args) W) := ⟨KeepsF.refl _, h.mono fun _ _ ⟨v, he, hk, hv⟩ => ⟨v, he, .of hk, hφ.out _ _ hv⟩⟩
theorem loosef_value {W W' : World} {φ φ' : Value → World → Prop} {v : Value} (hφ : Hid (∀ u w, φ u w → φ' u w)) (hk : KeepsF B O1 O2 W W') (h : φ v W') : looseUpon P (KeepsF B O1 O2) W φ' (.ok (.value v) W') := ⟨hk, hφ.out _ _ h⟩
theorem wp_region_fills {id : Nat} {Q : Exit → Act → World → Prop} {a : Act} {w : World} {l : List Oper} (O1 O2 : Obj) (n : Nat) (hm : P.follows .mixedOrders = true) (hn : a.tmps.size = n) (hB : looseB n l.toArray = true)
    (h : wpLoose P (KeepsF w.heap.size O1 O2) w l.toArray a (fun env => ∀ W vals, KeepsF w.heap.size O1 O2 w W → knowsAll (KeepsF w.heap.size O1 O2) w vals W env → Q .normal (fill vals env a) W) l []) : (Code.region id l.toArray true).wp P Q a w :=
  wp_region_loose (KeepsF w.heap.size O1 O2) w n hm hn hB (fun _ => KeepsF.refl _) (fun _ _ _ h k => h.trans k) (.of (Keeps.drew _)) h
end
end Go.Proofs.YtfglgeoookbppaaGreatDoor
