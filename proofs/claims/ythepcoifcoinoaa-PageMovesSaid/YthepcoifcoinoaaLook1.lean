/- Walks over package page (layer 4): giving up, and what is deferred. -/
import Derived.Test.YthepcoifcoinoaaRaw
import Derived.Recover
import Derived.Defers
import Derived.BigRegion
namespace Go.Proofs.Ythepcoifcoinoaa
open Go.RowKit

/-- What is given up with. -/
def stopV (why : Int) : Value := .iface 69 (.agg #[.int .i64 why])

set_option maxRecDepth 100000 in
set_option maxHeartbeats 400000 in
theorem must_yes (why : Int) (w : World) :
    Calls Try.prog 36 #[.bool true, .int .i64 why] w fun e w' => e = .returned (.tuple #[]) ∧ w = w' := by
  go_enter Try.func36, Try.ntmps36
  go_wp2
  go_end0
  exact ⟨rfl, rfl⟩

set_option maxRecDepth 100000 in
set_option maxHeartbeats 400000 in
theorem must_no (why : Int) (w : World) :
    Calls Try.prog 36 #[.bool false, .int .i64 why] w fun e w' => e = .panicked [{ v := stopV why, recovered := false }] ∧ w = w' := by
  go_enter Try.func36, Try.ntmps36
  go_wp2
  exact ⟨rfl, rfl, rfl⟩

set_option maxRecDepth 100000 in
set_option maxHeartbeats 1000000 in
theorem lookDeferred_idle (a2 a3 a4 : Addr) (w : World) :
    CallsD Try.prog 35 #[.pointer (some a2), .pointer (some a3), .pointer (some a4)] .returning w fun e u' w' => e = .returned (.tuple #[]) ∧ u' = .returning ∧ w = w' := by
  refine callsD_of_wpS Try.func35 rfl fun c₀ cs hu => ?_
  apply wpS_seq
  apply wpS_region
  simp [wpOpsS, go_sem, recoverD, hu, Try.ntmps35, Exit.thenS]
  refine wpS_of_wp ?_
  go_wp2
  cases c₀
  simp_all [bodyPostS, results, Try.results35]

set_option maxRecDepth 100000 in
set_option maxHeartbeats 2000000 in
theorem lookDeferred_stop (b2 b3 b4 : Nat) (why : Int) (older : List PanicEntry) (w : World) (x2 x4 q0 q1 q2 q3 : Value)
    (h2 : Row w b2 2 #[x2]) (h3 : Row w b3 26 #[q0, q1, q2, q3]) (h4 : Row w b4 27 #[x4]) :
    CallsD Try.prog 35 #[.pointer (some ⟨b2, 0, none⟩), .pointer (some ⟨b3, 0, none⟩), .pointer (some ⟨b4, 0, none⟩)] (.panicking ({ v := stopV why, recovered := false } :: older)) w fun e u' w' =>
      e = .returned (.tuple #[]) ∧ u' = .panicking ({ v := stopV why, recovered := true } :: older) ∧ Keeps w w' [b2, b3, b4] ∧
        Row w' b2 2 #[.int .i64 0] ∧ Row w' b3 26 #[.int .i64 0, .int .i64 0, .int .i64 0, .slice none 0 0] ∧ Row w' b4 27 #[.int .i64 why] := by
  have c2 := h2.cell 0
  have f2 := h2.frozen 0
  have c4 := h4.cell 0
  have f4 := h4.frozen 0
  have hp0 : w.cell? ⟨b3, 0, none⟩ = some q0 := h3.cell 0
  have hp1 : w.cell? ⟨b3, 1, none⟩ = some q1 := h3.cell 1
  have hp2 : w.cell? ⟨b3, 2, none⟩ = some q2 := h3.cell 2
  have hp3 : w.cell? ⟨b3, 3, none⟩ = some q3 := h3.cell 3
  have g0 := h3.frozen 0
  have g1 := h3.frozen 1
  have g2 := h3.frozen 2
  have g3 := h3.frozen 3
  have l2 := h2.lt
  have l3 := h3.lt
  have l4 := h4.lt
  have n23 : b2 ≠ b3 := h2.ne_type h3 (by decide)
  have n24 : b2 ≠ b4 := h2.ne_type h4 (by decide)
  have n34 : b3 ≠ b4 := h3.ne_type h4 (by decide)
  have H := Lib.hid (And.intro h2 (And.intro h3 h4))
  clear h2 h3 h4
  refine callsD_of_wpS Try.func35 rfl fun c₀ cs hu => ?_
  apply wpS_seq
  apply wpS_region
  unfold stopV at hu
  simp [wpOpsS, go_sem, recoverD, hu, Try.ntmps35, Exit.thenS]
  refine wpS_of_wp ?_
  have hta : ∀ w : World, (Instr.typeAssert (.iface 69 (.agg #[.int .i64 why])) 20 69 true).run Try.prog w = .ok (.tuple #[.agg #[.int .i64 why], .bool true]) w := fun _ => by kernel_rfl
  simp only [Array.replicate_succ, Array.replicate_zero, List.push_toArray, List.nil_append, List.cons_append, List.setIfInBounds_toArray, List.set_cons_succ, List.set_cons_zero, List.append_toArray]
  go_wp2_with fail
  go_region
  go_wp2
  obtain ⟨h2, h3, h4⟩ := H.out
  have hrow3 : Row (((((w.setCell ⟨b2, 0, none⟩ (.int .i64 0)).setCell ⟨b3, 0, none⟩ (.int .i64 0)).setCell ⟨b3, 1, none⟩ (.int .i64 0)).setCell ⟨b3, 2, none⟩ (.int .i64 0)).setCell ⟨b3, 3, none⟩ (.slice none 0 0)) b3 26 #[.int .i64 0, .int .i64 0, .int .i64 0, .slice none 0 0] := by
    exact ((((h3.far (p := ⟨b2, 0, none⟩) (Ne.symm n23) (.int .i64 0)).store 0 (.int .i64 0)).store 1 (.int .i64 0)).store 2 (.int .i64 0)).store 3 (.slice none 0 0)
  have hrow2 : Row (((((w.setCell ⟨b2, 0, none⟩ (.int .i64 0)).setCell ⟨b3, 0, none⟩ (.int .i64 0)).setCell ⟨b3, 1, none⟩ (.int .i64 0)).setCell ⟨b3, 2, none⟩ (.int .i64 0)).setCell ⟨b3, 3, none⟩ (.slice none 0 0)) b2 2 #[.int .i64 0] :=
    ((((h2.store 0 (.int .i64 0)).far (p := ⟨b3, 0, none⟩) n23 _).far (p := ⟨b3, 1, none⟩) n23 _).far (p := ⟨b3, 2, none⟩) n23 _).far (p := ⟨b3, 3, none⟩) n23 _
  have hrow4 : Row (((((w.setCell ⟨b2, 0, none⟩ (.int .i64 0)).setCell ⟨b3, 0, none⟩ (.int .i64 0)).setCell ⟨b3, 1, none⟩ (.int .i64 0)).setCell ⟨b3, 2, none⟩ (.int .i64 0)).setCell ⟨b3, 3, none⟩ (.slice none 0 0)) b4 27 #[x4] :=
    ((((h4.far (p := ⟨b2, 0, none⟩) (Ne.symm n24) _).far (p := ⟨b3, 0, none⟩) (Ne.symm n34) _).far (p := ⟨b3, 1, none⟩) (Ne.symm n34) _).far (p := ⟨b3, 2, none⟩) (Ne.symm n34) _).far (p := ⟨b3, 3, none⟩) (Ne.symm n34) _
  have hk : Keeps w (((((w.setCell ⟨b2, 0, none⟩ (.int .i64 0)).setCell ⟨b3, 0, none⟩ (.int .i64 0)).setCell ⟨b3, 1, none⟩ (.int .i64 0)).setCell ⟨b3, 2, none⟩ (.int .i64 0)).setCell ⟨b3, 3, none⟩ (.slice none 0 0)) [b2, b3, b4] :=
    ((((((Keeps.setCell w ⟨b2, 0, none⟩ _).weaken (T := [b2, b3, b4]) (by simp)).trans (Keeps.setCell _ ⟨b3, 0, none⟩ _) (by simp)).trans (Keeps.setCell _ ⟨b3, 1, none⟩ _) (by simp)).trans (Keeps.setCell _ ⟨b3, 2, none⟩ _) (by simp)).trans (Keeps.setCell _ ⟨b3, 3, none⟩ _) (by simp))
  generalize (((((w.setCell ⟨b2, 0, none⟩ (.int .i64 0)).setCell ⟨b3, 0, none⟩ (.int .i64 0)).setCell ⟨b3, 1, none⟩ (.int .i64 0)).setCell ⟨b3, 2, none⟩ (.int .i64 0)).setCell ⟨b3, 3, none⟩ (.slice none 0 0)) = W at *
  have hlW := hk.size
  refine ⟨rfl, _, rfl, .tuple #[], by simp [results, Try.results35], rfl, rfl, ?_, ?_, ?_, ?_⟩
  · exact ((hk.trans (Keeps.setCell _ ⟨b4, 0, none⟩ _) (by simp)).trans (Keeps.alloc _ _) (by simp)).trans (Keeps.drew _) (by simp)
  · exact ((hrow2.far (p := ⟨b4, 0, none⟩) n24 _).alloc _)
  · exact ((hrow3.far (p := ⟨b4, 0, none⟩) n34 _).alloc _)
  · exact ((hrow4.store 0 _).alloc _)
end Go.Proofs.Ythepcoifcoinoaa
