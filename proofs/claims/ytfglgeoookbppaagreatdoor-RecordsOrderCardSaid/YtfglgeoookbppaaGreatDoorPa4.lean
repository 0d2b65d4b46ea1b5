/- Small words: a callee that leaves the world as it was, met inside a region; what is kept over draws. -/
import Derived.Test.YtfglgeoookbppaaGreatDoorPa0
import Derived.StillTailTactics
import Derived.Deep.Quiet

namespace Go.Proofs.YtfglgeoookbppaaGreatDoor
open Go.RowKit

theorem Calls.quiet_same' {P : Program} {f : FuncId} {args : Array Value} {w : World} {n : Nat} {v : Value}
    (h : Calls P f args (w.drewN n) fun e w' => e = .returned v ∧ w.drewN n = w') : Calls P f args (w.drewN n) fun e w'' => e = .returned v ∧ ∃ m, w'' = w.drewN m :=
  h.mono fun _ _ ⟨he, hm⟩ => ⟨he, n, hm.symm⟩
theorem Keeps.then_alloc {w w' : World} {S : List Nat} (h : Keeps w w' S) (o : Obj) : Keeps w (w'.alloc o) S := h.trans (Keeps.alloc _ _) (by simp)
theorem Keeps.then_drew {w w' : World} {S : List Nat} (h : Keeps w w' S) : Keeps w w'.drew S := h.trans (Keeps.drew _) (by simp)
theorem Keeps.then_drewN {w w' : World} {S : List Nat} (h : Keeps w w' S) (n : Nat) : Keeps w (w'.drewN n) S := h.trans (Keeps.drewN _ _) (by simp)
theorem Keeps.then_set {w w' : World} {S : List Nat} (h : Keeps w w' S) (p : Addr) (u : Value) (hp : w.heap.size ≤ p.block) : Keeps w (w'.setCell p u) S :=
  h.trans (Keeps.setCell _ _ _) (fun x hx hl => by simp at hx; omega)
theorem Keeps.then_ {w w' w'' : World} {S : List Nat} (h : Keeps w w' S) (k : Keeps w' w'' []) : Keeps w w'' S := h.trans k (by simp)
/-- The size kept in mind as a bound. -/
theorem Keeps.le {w w' : World} {S : List Nat} (h : Keeps w w' S) {n : Nat} (hn : n ≤ w.heap.size) : n ≤ w'.heap.size := Nat.le_trans hn h.size

section
variable {P : Program}
/-- The region's law at whatever class of worlds, its operations written out. -/
theorem wp_region_mild {id : Nat} {Q : Exit → Act → World → Prop} {a : Act} {w : World} {l : List Oper} (C : World → Prop) (hm : P.follows .mixedOrders = true) (hB : Region.lexB .any l.toArray = true) (hC : C w.drew)
    (h : wpQuiet P l.toArray C (fun a' => ∀ w', C w' → Q .normal a' w') l a) : (Code.region id l.toArray true).wp P Q a w :=
  wp_region_quiet (C := C) hm hB hC (by simpa using h)
/-- The rest of a region, some of whose operations have come up. -/
theorem wpAny_mild {ops : Array Oper} {Q' : Exit → Act → World → Prop} {a : Act} {w : World} {listed : Array Bool} (C : World → Prop) (k : Nat) (l : List Oper) (hl : ∀ j, l[j]? = ops[k + j]?) (hs : Region.noSelect ops = true) (hB : Region.lexFrom .any ops l.length k listed = true) (hC : C w)
    (h : wpQuiet P ops C (fun a' => ∀ w', C w' → Q' .normal a' w') l a) : wpAny P .any ops Q' l.length listed a w :=
  wpAny_of_quiet (Q := fun a' => ∀ w', C w' → Q' .normal a' w') (fun _ w' hw' h => h w' hw') _ _ _ _ hC (wpAnyQ_lex hs l k listed a hl hB h)
/-- An operation that is wanted; one that is not. -/
theorem wpQuiet_want {ops : Array Oper} {C : World → Prop} {Q : Act → Prop} {a : Act} {o : Oper} {rest : List Oper} (hw : Region.wanted o (yielded ops a.tmps) = true)
    (h : ∀ K : Act → Prop, (∀ a, wpQuiet P ops C Q rest a → K a) → ∃ v, (∀ w, C w → o.quietAt P a C w v) ∧ K (a.put o.dst v)) : wpQuiet P ops C Q (o :: rest) a := by
  unfold wpQuiet
  rw [if_pos hw]
  exact h _ fun _ h => h
theorem wpQuiet_pass {ops : Array Oper} {C : World → Prop} {Q : Act → Prop} {a : Act} {o : Oper} {rest : List Oper} (hw : Region.wanted o (yielded ops a.tmps) = false)
    (h : wpQuiet P ops C Q rest (a.put o.dst undef)) : wpQuiet P ops C Q (o :: rest) a := by
  unfold wpQuiet
  rw [if_neg (by rw [hw]; simp)]
  exact h
end
end Go.Proofs.YtfglgeoookbppaaGreatDoor
