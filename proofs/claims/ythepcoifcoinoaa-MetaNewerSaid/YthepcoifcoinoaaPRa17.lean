/- A region that draws its order and may give up by a panic: the post may be turned into one that does not hang on the frame's own temporaries. -/
import Derived.Orders
import Derived.Calls

namespace Go.Proofs.Ythepcoifcoinoaa

section
variable {P : Program} {ops : Array Oper} {md : Region.Mode}

/-- a's temporaries are a₀'s, but for those of dsts. -/
def SameTmps (dsts : List Nat) (a₀ a : Act) : Prop := ∀ d, d ∉ dsts → a.tmps.getD d undef = a₀.tmps.getD d undef
def dstsIn (dsts : List Nat) (ops : Array Oper) : Bool := ops.all fun o => match o.dst with | some d => dsts.contains d | none => true

theorem SameTmps.put {dsts : List Nat} {a₀ a : Act} {dst : Option Tmp} {v : Value} (h : SameTmps dsts a₀ a) (hd : ∀ d, dst = some d → d ∈ dsts) : SameTmps dsts a₀ (a.put dst v) := by
  intro d hn
  cases dst with
  | none => exact h d hn
  | some x =>
    have hx := hd x rfl
    have hne : x ≠ d := fun e => hn (e ▸ hx)
    show (a.tmps.setIfInBounds x v).getD d undef = _
    rw [Array.getD_eq_getD_getElem?, Array.getElem?_setIfInBounds_ne hne, ← Array.getD_eq_getD_getElem?]
    exact h d hn

theorem wpAny_tmps {Q Q3 : Exit → Act → World → Prop} (a₀ : Act) (dsts : List Nat) (hd : dstsIn dsts ops = true)
    (hp : ∀ c a w, SameTmps dsts a₀ a → Q3 (.panic c) a w → Q (.panic c) a w) (hn : ∀ a w, SameTmps dsts a₀ a → Q3 .normal a w → Q .normal a w) (ho : LetsOut Q3 → LetsOut Q) :
    ∀ (fuel : Nat) (listed : Array Bool) (a : Act) (w : World), SameTmps dsts a₀ a → wpAny P md ops Q3 fuel listed a w → wpAny P md ops Q fuel listed a w
  | 0, _, _, _, hs, h => ⟨h.1, hn _ _ hs h.2⟩
  | fuel + 1, listed, a, w, hs, h => by
    refine ⟨fun h0 => hn _ _ hs (h.1 h0), fun i hi => ?_⟩
    have ih := fun a w hs => wpAny_tmps a₀ dsts hd hp hn ho fuel (listed.setIfInBounds i true) a w hs
    have h1 := h.2 i hi
    unfold wpOp at h1 ⊢
    split
    · rename_i ho'; simp only [ho'] at h1; exact ih _ _ hs h1
    · rename_i o ho'
      simp only [ho'] at h1
      have hdo : ∀ d, o.dst = some d → d ∈ dsts := by
        intro d hdd
        have := (Array.all_eq_true_iff_forall_mem.1 hd) o (Array.mem_of_getElem? ho')
        simp only [hdd] at this
        simpa using this
      split
      · rename_i hw
        simp only [hw, if_true] at h1
        rcases h1 with h1 | ⟨h1, h2⟩
        · left
          unfold Oper.wp at h1 ⊢
          generalize (execOp a.eval o).run P w = r at *
          cases r with
          | ok x w' =>
            cases x with
            | value v => exact ih _ _ (hs.put hdo) h1
            | skip => exact ih _ _ (hs.put hdo) h1
            | defer d => exact ih _ _ (SameTmps.put (a := { a with defers := d :: a.defers }) hs hdo) h1
            | enter f args =>
              refine Calls.mono h1 fun e w'' hh => ?_
              cases e with
              | returned v => exact ih _ _ (hs.put hdo) hh
              | panicked chain => exact hp _ _ _ hs hh
              | outgrown => exact ho hh
            | row row args => exact Rows.mono h1 fun v w'' hh => ih _ _ (hs.put hdo) hh
            | _ => exact h1
          | halt x w' =>
            cases x with
            | panic v => exact hp _ _ _ hs h1
            | _ => exact h1
        · exact .inr ⟨h1, ho h2⟩
      · rename_i hw
        simp only [hw] at h1
        exact ih _ _ (hs.put hdo) h1
end
end Go.Proofs.Ythepcoifcoinoaa
