/- Package keys: what Parse lays aside: the deferred closure. -/
import Derived.Test.YtckmlmedhchpaaaDoorPa15
import Derived.Test.YtckmlmedhchpaaaDoorPa16
import Derived.Test.YtckmlmedhchpaaaDoorPa21
import Derived.Defers
import Derived.Recover

namespace Go.Proofs.YtckmlmedhchpaaaDoor
open Go.RowKit

set_option maxRecDepth 100000 in
set_option maxHeartbeats 1000000 in
theorem kCatch_idle (p q : Addr) (w : World) :
    CallsD Tryd.prog 23 #[.pointer (some p), .pointer (some q)] .returning w fun e u' w' => e = .returned (.tuple #[]) ∧ u' = .returning ∧ w' = w := by
  refine callsD_of_wpS Tryd.func23 rfl fun c₀ cs hu => ?_
  apply wpS_seq
  apply wpS_region
  simp [wpOpsS, go_sem, recoverD, hu, Tryd.ntmps23, Exit.thenS]
  refine wpS_of_wp ?_
  go_wp2
  cases c₀
  simp_all [bodyPostS, results, Tryd.results23]

set_option maxRecDepth 100000 in
set_option maxHeartbeats 1000000 in
theorem kCatch_stop (p q : Addr) (w : World) (b1 b2 : Nat) (hp : p = ⟨b1, 0, none⟩) (hq : q = ⟨b2, 0, none⟩) (v1 v2 : Value) (h1 : Row w b1 23 #[v1]) (h2 : Row w b2 24 #[v2]) :
    CallsD Tryd.prog 23 #[.pointer (some p), .pointer (some q)] (.panicking [{ v := .iface 49 (.agg #[]), recovered := false }]) w fun e u' w' =>
      e = .returned (.tuple #[]) ∧ u' = .panicking [{ v := .iface 49 (.agg #[]), recovered := true }] ∧ Row w' b1 23 #[.slice none 0 0] ∧ Row w' b2 24 #[.int .i64 280] ∧ Keeps w w' [b1, b2] := by
  subst hp hq
  refine callsD_of_wpS Tryd.func23 rfl fun c₀ cs hu => ?_
  apply wpS_seq
  apply wpS_region
  simp [wpOpsS, go_sem, recoverD, hu, Tryd.ntmps23, Exit.thenS]
  refine wpS_of_wp ?_
  have hta : ∀ W : World, (Instr.typeAssert (.iface 49 (.agg #[])) 20 49 true).run Tryd.prog W = .ok (.tuple #[.agg #[], .bool true]) W := fun W => by kernel_rfl
  have hne : b1 ≠ b2 := h1.ne_type h2 (by decide)
  have a1 := h1.alloc (.cells #[] 49)
  have a2 := (h2.alloc (.cells #[] 49)).far (p := ⟨b1, 0, none⟩) (fun e => hne e.symm) (.slice none 0 0)
  have c1 := a1.cell 0
  have c2 := a2.cell 0
  have f1 := a1.frozen 0
  have f2 := a2.frozen 0
  simp only [List.getElem?_toArray, List.getElem?_cons_zero] at c1 c2
  have HH := Lib.hid (And.intro h1 (And.intro h2 (And.intro hne (And.intro a1 a2))))
  clear h1 h2 hne a1 a2
  rw [show (#[Value.pointer (some ⟨b1, 0, none⟩), Value.pointer (some ⟨b2, 0, none⟩)] ++ ((Array.replicate 9 undef).setIfInBounds 3 (Value.iface 49 (Value.agg #[]))) : Array Value) = #[Value.pointer (some ⟨b1, 0, none⟩), Value.pointer (some ⟨b2, 0, none⟩), undef, undef, undef, Value.iface 49 (Value.agg #[]), undef, undef, undef, undef, undef] from rfl]
  go_wp2
  have b1' := (HH.out.2.2.2.1.store 0 (.slice none 0 0)).far (p := ⟨b2, 0, none⟩) HH.out.2.2.1 (.int .i64 280)
  have b2' := HH.out.2.2.2.2.store 0 (.int .i64 280)
  have hk : Keeps w (((w.alloc (.cells #[] 49)).setCell ⟨b1, 0, none⟩ (.slice none 0 0)).setCell ⟨b2, 0, none⟩ (.int .i64 280)) [b1, b2] :=
    (((Keeps.alloc w _).weaken (T := [b1, b2]) (by simp)).trans (Keeps.setCell _ _ _) (by simp)).trans (Keeps.setCell _ _ _) (by simp)
  simp [bodyPostS, results, Tryd.results23]
  exact ⟨by simpa using b1', by simpa using b2', hk⟩
end Go.Proofs.YtckmlmedhchpaaaDoor
