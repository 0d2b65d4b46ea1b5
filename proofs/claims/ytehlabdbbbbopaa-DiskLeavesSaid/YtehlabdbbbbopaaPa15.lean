/- Package disk: a write that waits is built. -/
import Derived.Test.YtehlabdbbbbopaaPa14
import Derived.Great.FillDense

namespace Go.Proofs.Ytehlabdbbbbopaa
open Go.RowKit Go.Maps

/-- An operation whose run is known. -/
theorem opOk_value {P : Program} {R : World → World → Prop} {ops : Array Oper} {a : Act} {o : Oper} {W W' : World} {φ : Value → World → Prop} (hgd : o.guard = none) {v : Value} (hrun : (execOp a.eval o).run P W = .ok (.value v) W') (hR : R W W') (hφ : φ v W') : opOk P R ops a o φ W := by
  refine ⟨?_⟩
  rw [if_pos (by simp [Region.wanted, hgd]), hrun]
  exact ⟨hR, hφ⟩
theorem exec_build {P : Program} {ρ : Operand → Value} {o : Oper} {t : TypeId} {parts : Array (Nat × Operand)} {vals : Array (Nat × Value)} {W W' : World} {v : Value} (ho : o.op = .build t parts) (hv : (parts.map fun (i, x) => (i, ρ x)) = vals) (hrun : (Instr.build t vals).run P W = .ok v W') : (execOp ρ o).run P W = .ok (.value v) W' := by
  unfold execOp
  simp only [ho, hv, Sem.run_bind, hrun, Result.andThen_ok, Sem.run_pure]
theorem exec_buildSlice {P : Program} {ρ : Operand → Value} {o : Oper} {t : TypeId} {n : Nat} {parts : Array (Nat × Operand)} {vals : Array (Nat × Value)} {W W' : World} {v : Value} (ho : o.op = .buildSlice t n parts) (hv : (parts.map fun (i, x) => (i, ρ x)) = vals) (hrun : (Instr.buildSlice t n vals).run P W = .ok v W') : (execOp ρ o).run P W = .ok (.value v) W' := by
  unfold execOp
  simp only [ho, hv, Sem.run_bind, hrun, Result.andThen_ok, Sem.run_pure]
theorem exec_append {P : Program} {ρ : Operand → Value} {o : Oper} {t : TypeId} {s x : Operand} {W W' : World} {v : Value} (ho : o.op = .call { callee := .builtin .append, args := #[s, x], argTypes := #[t, t] }) (hrun : (Builtin.append_ #[t, t] o.type #[ρ s, ρ x]).run P W = .ok v W') : (execOp ρ o).run P W = .ok (.value v) W' := by
  unfold execOp
  simp only [ho, resolve, invoke, builtin, Sem.run_bind, Sem.run_pure, Result.andThen_ok, List.map_toArray, List.map_cons, List.map_nil, hrun]
theorem exec_append2 {P : Program} {ρ : Operand → Value} {o : Oper} {t : TypeId} {s x : Operand} {W W' : World} {v a b : Value} (ho : o.op = .call { callee := .builtin .append, args := #[s, x], argTypes := #[t, t] }) (hs : ρ s = a) (hx : ρ x = b) (hrun : (Builtin.append_ #[t, t] o.type #[a, b]).run P W = .ok v W') : (execOp ρ o).run P W = .ok (.value v) W' := by
  subst hs hx
  exact exec_append ho hrun
def waitA (p : Int) (X : Array Value) : Array Value := #[.int .i64 p] ++ X
theorem waitA_size {p : Int} {X : Array Value} (h : X.size = 256) : (waitA p X).size = 257 := by
  unfold waitA
  rw [Array.size_append, h]
  rfl
theorem waitA_list (p : Int) (b : List UInt8) : (waitA p (leafC b)).toList = waitC (p, b) := by
  unfold waitA waitC
  rw [Array.toList_append, leafC_list]
  rfl
theorem placesWait : ((Try.prog.underlying 75).bind fun d => match d with | .struct fs => fs.toList.mapM (fun f => (Try.prog.info? f.type).map fun i => (f.offset, i.size)) | _ => none) = some [(0, 1), (1, 256)] := by kernel_rfl
set_option maxRecDepth 100000 in
theorem built_wait (p : Int) {X : Array Value} (hX : X.size = 256) : Try.prog.built 75 [(0, .int .i64 p), (1, .agg X)] = some (waitA p X) := by
  obtain ⟨it, hi, hz, _, _⟩ := partsWait
  have hp := placesWait
  cases hu : Try.prog.underlying 75 with
  | none => rw [hu] at hp; cases hp
  | some d =>
    rw [hu] at hp
    cases d with
    | struct fs =>
      have hp : fs.toList.mapM (fun f => (Try.prog.info? f.type).map fun i => (f.offset, i.size)) = some [(0, 1), (1, 256)] := hp
      unfold Program.built
      rw [hi, hu]
      simp only [hz, hp]
      obtain ⟨Z, hZ⟩ : ∃ Z, (Value.agg (waitC (0, nought)).toArray).cells = Z := ⟨_, rfl⟩
      have hZs : Z.size = 257 := by rw [← hZ]; exact zeroWait_size
      rw [hZ]
      have e0 : (Value.int .i64 p).cells = #[.int .i64 p] := rfl
      have e1 : (Value.agg X).cells = X := rfl
      simp only [Instr.fill, e0, e1, List.getElem?_toArray, List.getElem?_cons_zero, List.getElem?_cons_succ]
      rw [if_neg (by simp [hZs])]
      rw [if_neg (by simp [hX, hZs])]
      congr 1
      have hf := fun (cs : Array Value) => Go.Great.foldl_set 1 X.toList 0 cs
      have ez : ∀ cs : Array Value, X.zipIdx.foldl (fun cs (c, j) => cs.setIfInBounds (1 + j) c) cs = (X.toList.zipIdx 0).foldl (fun cs (x : Value × Nat) => cs.setIfInBounds (1 + x.2) x.1) cs := fun cs => by
        rw [← Array.foldl_toList, Array.toList_zipIdx]
      rw [ez]
      have e2 : (#[Value.int .i64 p] : Array Value).zipIdx.foldl (fun cs (c, j) => cs.setIfInBounds (0 + j) c) Z = Z.setIfInBounds 0 (.int .i64 p) := rfl
      rw [e2]
      obtain ⟨s1, s2⟩ := hf (Z.setIfInBounds 0 (.int .i64 p))
      refine Array.ext_getElem? fun k => ?_
      rw [s2 k]
      unfold waitA
      simp only [Array.size_setIfInBounds, Array.length_toList, hX, hZs, Nat.add_zero]
      by_cases hk0 : k = 0
      · subst hk0
        rw [if_neg (by omega), Array.getElem?_append_left (by show 0 < 1; omega)]
        simp [hZs]
      · by_cases hk : k < 257
        · rw [if_pos (by omega), Array.getElem?_append_right (by show 1 ≤ k; omega), Array.getElem?_toList]
          rfl
        · rw [if_neg (by omega), Array.getElem?_eq_none (by simp [hZs]; omega), Array.getElem?_eq_none (by rw [Array.size_append, hX]; show 1 + 256 ≤ k; omega)]
    | _ => cases hp
theorem run_buildWait (w : World) (p : Int) {X : Array Value} (hX : X.size = 256) : (Instr.build 75 #[(0, .int .i64 p), (1, .agg X)]).run Try.prog w = .ok (.agg (waitA p X)) w := run_build w _ _ _ (built_wait p hX)
set_option maxRecDepth 100000 in
theorem run_sliceWait (w : World) {C : Array Value} (hC : C.size = 257) : (Instr.buildSlice 65 1 #[(0, .agg C)]).run Try.prog w = .ok (.slice (some ⟨w.heap.size, 0, none⟩) 1 1) (w.alloc (.cells C 75)) := by
  obtain ⟨it, hi, hz, hs, _⟩ := partsWait
  have hw := Go.Great.fill_whole (s := 257) (by omega) [.agg C] ((Array.range (1 * 257)).map ((Value.agg (waitC (0, nought)).toArray).cells[· % (Value.agg (waitC (0, nought)).toArray).cells.size]!)) (by intro v hv; obtain rfl := List.mem_singleton.1 hv; exact hC) (by rw [Array.size_map, Array.size_range]; rfl)
  have e : (([Value.agg C].flatMap fun v => v.cells.toList).toArray) = C := by simp [Value.cells]
  rw [e] at hw
  have hw : Instr.fill (fun i => some (i * 257, 257)) ((Array.range (1 * 257)).map ((Value.agg (waitC (0, nought)).toArray).cells[· % (Value.agg (waitC (0, nought)).toArray).cells.size]!)) [(0, .agg C)] = some C := hw
  obtain ⟨Z, hZ⟩ : ∃ Z, waitC (0, nought) = Z := ⟨_, rfl⟩
  rw [hZ] at hw hz
  have h1 : (underlying 65).run Try.prog w = .ok (.slice 75) w := run_underlying undWaits w
  have h2 : (sizeOf 75).run Try.prog w = .ok 257 w := by simp [sizeOf, typeInfo, hi, hs]
  have h3 : (zeroValue 75).run Try.prog w = .ok (.agg Z.toArray) w := by simp [zeroValue, typeInfo, hi, hz]
  have h4 : (newRow 75 C).run Try.prog w = .ok ⟨w.heap.size, 0, none⟩ (w.alloc (.cells C 75)) := by simp [go_sem]
  unfold Instr.buildSlice
  simp only [Sem.run_bind, h1, h2, Result.andThen_ok]
  rw [if_neg (by omega)]
  simp only [Nat.reduceMul]
  rw [if_neg (by decide)]
  have hw : Instr.fill (fun i => some (i * 257, 257)) (Array.map (fun x => (Value.agg Z.toArray).cells[x % (Value.agg Z.toArray).cells.size]!) (Array.range 257)) [(0, .agg C)] = some C := hw
  simp only [Sem.run_bind, h3, Result.andThen_ok, Sem.run_pure, hw, h4]
end Go.Proofs.Ytehlabdbbbbopaa
