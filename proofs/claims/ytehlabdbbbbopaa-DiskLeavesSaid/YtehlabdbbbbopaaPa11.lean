/- Package disk: pages by value; what lies in memory. Package disk: slices.Clone of what waits. -/
import Derived.Test.YtehlabdbbbbopaaPa4
import Derived.Test.YtehlabdbbbbopaaPa0
import Derived.Test.YtehlabdbbbbopaaPa10
import Derived.Deep.WholeRow
import Derived.Deep.MidRow
import Derived.Laws.Cover3

namespace Go.Proofs.Ytehlabdbbbbopaa
open Go.RowKit Go.Maps

/-- A page by value. -/
def leafC (b : List UInt8) : Array Value := (b.map byteV).toArray
abbrev leafV (b : List UInt8) : Value := .agg (leafC b)
theorem leafC_size (b : List UInt8) : (leafC b).size = b.length := by simp [leafC]
theorem leafC_one (b : List UInt8) : (leafC b).all (·.oneCell') = true := by
  unfold leafC
  exact all_oneCell_toArray fun v hv => by obtain ⟨x, _, rfl⟩ := List.mem_map.1 hv; rfl
theorem leafC_list (b : List UInt8) : (leafC b).toList = b.map byteV := by simp [leafC]
def nought : List UInt8 := List.replicate 256 0
theorem nought_length : nought.length = 256 := List.length_replicate ..
theorem undLeaf : Try.prog.underlying 72 = some (.array 256 5) := by kernel_rfl
theorem infoLeaf : (Try.prog.info? 72).map (fun i => (i.zero, i.size)) = some (some (leafV nought), 256) := by kernel_rfl
theorem zeroLeaf (w : World) : (zeroValue 72).run Try.prog w = .ok (leafV nought) w := (zero_of_info infoLeaf).1 w
theorem sizeLeaf {b : List UInt8} (hb : b.length = 256) : (Try.prog.info? 72).map (·.size) = some (leafC b).size := by rw [leafC_size, hb]; exact (zero_of_info infoLeaf).2
theorem loadLeaf {w : World} {g o : Nat} {b : List UInt8} (hb : b.length = 256) (h : w.rangeAt g o (b.map byteV)) : (Instr.loadAt 72 (.pointer (some ⟨g, o, none⟩))).run Try.prog w = .ok (leafV b) w :=
  run_loadAt_mid w g o _ _ _ h undLeaf rfl (by rw [List.length_map, hb]; exact (zero_of_info infoLeaf).2)
theorem storeLeaf (w : World) {b c : List UInt8} (hb : b.length = 256) (hc : c.length = 256) : (Instr.storeAt 72 (.pointer (some ⟨w.heap.size, 0, none⟩)) (leafV b)).run Try.prog (w.alloc (.cells (leafC c) 72)) = .ok () (w.alloc (.cells (leafC b) 72)) :=
  run_storeAt_new w _ _ _ (sizeLeaf hb) (by rw [leafC_size, leafC_size, hb, hc]) (leafC_one b)
theorem undDisk : Try.prog.underlying 64 = some (.map 3 72) := by kernel_rfl
theorem undIntD : Try.prog.underlying 3 = some (.int .i64) := by kernel_rfl
section
variable {ops : Array Oper} {rest : List Oper} {op : Oper} {a : Act} {w : World} {Q : Exit → Act → World → Prop}
/-- A page is read, in a row of operations. -/
theorem wpList_loadLeaf (hgd : op.guard = none) (x : Operand) (ho : op.op = .load 72 x) (g o : Nat) (X : Array Value) (hX : X.size = 256) (hx : a.eval x = .pointer (some ⟨g, o, none⟩)) (hc : w.rangeAt g o X.toList)
    (h : wpList Try.prog ops Q rest (a.put op.dst (.agg X)) w) : wpList Try.prog ops Q (op :: rest) a w :=
  wpList_load_mid hgd _ x ho g o hx X.toList _ hc undLeaf rfl (by rw [Array.length_toList, hX]; exact (zero_of_info infoLeaf).2) (by simpa using h)
set_option maxRecDepth 100000 in
/-- A page is laid into the box that was made last. -/
theorem wpList_storeLeaf_new (hgd : op.guard = none) (x y : Operand) (ho : op.op = .store 72 x y) (X Z : Array Value) (w1 : World) (hw : w = w1.alloc (.cells Z 72)) (hX : X.size = 256) (hZ : Z.size = 256) (h1 : X.all (·.oneCell') = true)
    (hx : a.eval x = .pointer (some ⟨w1.heap.size, 0, none⟩)) (hy : a.eval y = .agg X)
    (h : wpList Try.prog ops Q rest (a.put op.dst undef) (w1.alloc (.cells X 72))) : wpList Try.prog ops Q (op :: rest) a w := by
  subst hw
  refine wpList_plain hgd fun _ hK => ?_
  unfold Oper.wp execOp
  have hrun := run_storeAt_new (P := Try.prog) w1 72 Z X (by rw [hX]; exact (zero_of_info infoLeaf).2) (by rw [hX, hZ]) h1
  simp only [ho, hx, hy, Sem.run_bind, hrun, Result.andThen_ok, Sem.run_pure]
  exact hK _ _ h
end
/-- A write that waits. -/
def waitC (p : Int × List UInt8) : List Value := .int .i64 p.1 :: p.2.map byteV
def waitsC (l : List (Int × List UInt8)) : List Value := l.flatMap waitC
theorem waitC_length {p : Int × List UInt8} (h : p.2.length = 256) : (waitC p).length = 257 := by simp [waitC, h]
theorem waitC_one (p : Int × List UInt8) : ∀ u ∈ waitC p, u.oneCell' = true := fun u hu => by
  rcases List.mem_cons.1 hu with rfl | hu
  · rfl
  · exact byteV_one _ u hu
theorem waitsC_one (l : List (Int × List UInt8)) : ∀ u ∈ waitsC l, u.oneCell' = true := fun u hu => by
  obtain ⟨p, _, hp⟩ := List.mem_flatMap.1 hu
  exact waitC_one p u hp
theorem waitsC_length : ∀ {l : List (Int × List UInt8)}, (∀ p ∈ l, p.2.length = 256) → (waitsC l).length = l.length * 257
  | [], _ => rfl
  | p :: l, h => by
    unfold waitsC
    rw [List.flatMap_cons, List.length_append, waitC_length (h p (by simp)), List.length_cons]
    have := waitsC_length (l := l) fun q hq => h q (by simp [hq])
    unfold waitsC at this
    rw [this]
    omega
theorem waitsC_append (l m : List (Int × List UInt8)) : waitsC (l ++ m) = waitsC l ++ waitsC m := List.flatMap_append ..
theorem waitsC_one_of (p : Int × List UInt8) : waitsC [p] = waitC p := by simp [waitsC]
theorem undWaits : Try.prog.underlying 65 = some (.slice 75) := by kernel_rfl
theorem infoWait : (Try.prog.info? 75).map (fun i => (i.zero, i.size, i.bytes)) = some (some (.agg (waitC (0, nought)).toArray), 257, 264) := by kernel_rfl
theorem partsWait : ∃ i, Try.prog.info? 75 = some i ∧ i.zero = some (.agg (waitC (0, nought)).toArray) ∧ i.size = 257 ∧ i.bytes = 264 := info_parts infoWait
theorem zeroWait_size : (Value.agg (waitC (0, nought)).toArray).cells.size = 257 := by
  show (waitC (0, nought)).toArray.size = 257
  rw [List.size_toArray]
  exact waitC_length nought_length
/-- The writes that wait, in memory. -/
def WaitsAt (w : World) (B : Nat) (v : Value) (l : List (Int × List UInt8)) : Prop := w.ownsRow B 75 257 v l.length (waitsC l)
section
variable {w w' : World} {B : Nat} {v : Value} {l : List (Int × List UInt8)}
theorem WaitsAt.keep {S : List Nat} (h : WaitsAt w B v l) (hk : Keeps w w' S) (hS : ∀ x ∈ S, ∀ cs, ¬ Row w x 75 cs) : WaitsAt w' B v l := ownN_keep h hk fun g hg hm => by
  obtain ⟨_, cs, hr⟩ := ownN_row h g hg
  exact hS g hm cs hr
theorem WaitsAt.keeps (h : WaitsAt w B v l) (hk : Keeps w w' []) : WaitsAt w' B v l := h.keep hk (by simp)
theorem WaitsAt.base {B' : Nat} (h : WaitsAt w B v l) (hB : B' ≤ B) : WaitsAt w B' v l := ownN_base h hB
theorem WaitsAt.nil (w : World) (B : Nat) : WaitsAt w B (.slice none 0 0) [] := ⟨rfl, .inl ⟨rfl, rfl⟩⟩
theorem WaitsAt.slice (h : WaitsAt w B v l) : ∃ A c, v = .slice A l.length c ∧ (A = none → l = []) := by
  rcases h.2 with ⟨rfl, h0⟩ | ⟨g, cap, cur, rfl, _⟩
  · exact ⟨none, 0, by rw [h0], fun _ => List.eq_nil_of_length_eq_zero h0⟩
  · exact ⟨_, cap, rfl, fun h => by cases h⟩
theorem WaitsAt.lies {A : Option Addr} {c : Nat} (h : WaitsAt w B (.slice A l.length c) l) : Lies w w.heap.size A (waitsC l) := liesN_of_own (by omega) h
end
end Go.Proofs.Ytehlabdbbbbopaa

namespace Go.Proofs.Ytehlabdbbbbopaa
open Go.RowKit Go.Maps

theorem waits_empty_own (w : World) : (w.alloc (.cells #[] 75)).ownsRow w.heap.size 75 257 (.slice (some ⟨w.heap.size, 0, none⟩) 0 0) 0 [] :=
  ⟨rfl, .inr ⟨w.heap.size, 0, #[], rfl, Nat.le_refl _, heap_alloc_new w _, Nat.le_refl _, by simp [maxLen], rfl, rfl⟩⟩
set_option maxRecDepth 100000 in
set_option maxHeartbeats 1000000 in
theorem cloneW_some (w : World) (ad : Addr) (c n : Nat) (xs : List Value) (hx : xs.length = n * 257) (h1 : ∀ u ∈ xs, u.oneCell' = true) (hlen : n ≤ 1000000) (hL : Lies w w.heap.size (some ad) xs) :
    Calls Try.prog 33 #[.slice (some ad) n c] w fun e w' => ∃ v, e = .returned v ∧ w'.ownsRow w.heap.size 75 257 v n xs ∧ Keeps w w' [] := by
  have HL := Lib.hid (And.intro hL (And.intro hx h1))
  clear hL hx h1
  obtain ⟨i0, hi, hz0, hz1, hz2⟩ := partsWait
  go_enter Try.func33, Try.ntmps33
  have hnil : ∀ w : World, (binOp .eql 65 (.slice (some ad) n c) (.slice none 0 0)).run Try.prog w = .ok (.bool false) w := fun w => Lib.run_eql_slice_nil w _ _ _ _ _ _ _ undWaits
  go_wp2_with (at_builtin; refine wpList_append_liesN rfl (.tmp 5) (.tmp 6) 65 rfl w.heap.size 75 i0 _ 257 264 undWaits hi hz0 hz1 hz2 zeroWait_size (by omega) (.slice (some ⟨w.heap.size, 0, none⟩) 0 0) 0 [] rfl (waits_empty_own w) w.heap.size (some ad) n c xs rfl HL.out.2.1 (HL.out.1.below ((Below.refl _ _).alloc (Nat.le_refl _) _)) HL.out.2.2 (by simp [maxLen]; omega) (by omega) (by simp) ?_; intro v' w1 hown hg hb)
  have HO := Lib.hid (And.intro hown hg)
  clear hown hg
  go_wp2
  go_ret
  refine ⟨v', rfl, by simpa using HO.out.1, (Keeps.alloc _ _).trans (Keeps.of_grown HO.out.2) (by simp [Value.ownBlock])⟩
set_option maxRecDepth 100000 in
theorem cloneW_nil (w : World) :
    Calls Try.prog 33 #[.slice none 0 0] w fun e w' => e = .returned (.slice none 0 0) ∧ w = w' := by
  have hnil : ∀ w : World, (binOp .eql 65 (.slice none 0 0) (.slice none 0 0)).run Try.prog w = .ok (.bool true) w := fun w => Lib.run_eql_slice_nil w _ _ _ _ _ _ _ undWaits
  go_enter Try.func33, Try.ntmps33
  go_wp2
  go_ret
  exact ⟨rfl, rfl⟩
theorem cloneW_any (w : World) (B : Nat) (v : Value) (l : List (Int × List UInt8)) (h : WaitsAt w B v l) (hl : l.length ≤ 1000000) :
    Calls Try.prog 33 #[v] w fun e w' => ∃ v', e = .returned v' ∧ WaitsAt w' w.heap.size v' l ∧ Keeps w w' [] := by
  rcases h.2 with ⟨rfl, h0⟩ | ⟨g, cap, cur, rfl, hr⟩
  · obtain rfl : l = [] := List.eq_nil_of_length_eq_zero h0
    refine (cloneW_nil w).mono ?_
    rintro e w' ⟨rfl, rfl⟩
    exact ⟨_, rfl, WaitsAt.nil _ _, Keeps.refl _ _⟩
  · exact cloneW_some w ⟨g, 0, none⟩ cap l.length (waitsC l) h.1 (waitsC_one l) hl (WaitsAt.lies h)
end Go.Proofs.Ytehlabdbbbbopaa
