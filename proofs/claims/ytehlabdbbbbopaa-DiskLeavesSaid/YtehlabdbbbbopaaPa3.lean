/- Arguments opened: whole numbers, truth values. -/
import Derived.Test.YtehlabdbbbbopaaPa2
import Derived.Test.YtehlabdbbbbopaaPa0
import Derived.ProofKit
import Derived.OpenShut
import Derived.Deep.Slices
import Derived.Deep.Grids
import Derived.Lib.SmallJoins

namespace Go.Proofs.Ytehlabdbbbbopaa
open Go.ChangeShapes Go.WideShapes Go.RowKit Go.Joins Go.Deep

/-- Whole numbers that came in. -/
structure CameI (W : World) (A : Option Addr) (c : Nat) (l : List Int) : Prop where
  nil : A = none → c = 0
  le : l.length ≤ c
  cap : c ≤ maxLen
  lies : Lies W W.heap.size A (l.map (Value.int .i64))
  r : ∀ x ∈ l, -9223372036854775808 ≤ x ∧ x ≤ 9223372036854775807
theorem i64_bounds {n : Int} (h : (Lit.int .i64 n).wf = true) : -9223372036854775808 ≤ n ∧ n ≤ 9223372036854775807 := by
  have := range_i64 (zs := [n]) (by simpa using h) 0
  simpa using this
/-- Truth values that came in. -/
structure CameB (W : World) (A : Option Addr) (c : Nat) (l : List Bool) : Prop where
  nil : A = none → c = 0
  le : l.length ≤ c
  cap : c ≤ maxLen
  lies : Lies W W.heap.size A (l.map Value.bool)
section
variable {H : Type} {enc : TypeId × Value → H} {W : World}
theorem undIntS : Try.prog.underlying 3 = some (.int .i64) := by kernel_rfl
theorem cellsIntS : Try.prog.cellsOf 3 = 1 := by kernel_rfl
theorem block_lt {a : Addr} {u : Value} (h : W.cell? a = some u) : a.block < W.heap.size := by
  rcases Nat.lt_or_ge a.block W.heap.size with h1 | h1
  · exact h1
  · exfalso
    simp [World.cell?, Array.getElem?_eq_none h1] at h
theorem cameI_of_trod {t e : TypeId} (ht : Try.prog.underlying t = some (.slice e)) (he : Try.prog.underlying e = some (.int .i64)) (hc : Try.prog.cellsOf e = 1) {fuel : Nat} {v : Value} {x : DataW H × List MemPlace}
    (hf : DataW.trod enc Try.prog W 0 (fun _ => true) true fuel t [v] = some x) : ∃ A c l, v = .slice A l.length c ∧ CameI W A c l := by
  rcases open_ints ht he hc hf with ⟨hcs, hx⟩ | ⟨a, len, cap, zs, hcs, _, hl, hm, hz, hx, hcell, hwz⟩
  · injection hcs with e
    subst e
    exact ⟨none, 0, [], rfl, fun _ => rfl, Nat.le_refl _, by simp [maxLen], Lies.nil _ _ _, by simp⟩
  · injection hcs with e
    subst e
    simp only [if_true] at hz
    have hlen : (zs.take len).length = len := by simp; omega
    refine ⟨some a, cap, zs.take len, by rw [hlen], ⟨(fun h => by cases h), by rw [hlen]; exact hl, hm, fun hpos => ?_, fun x hx => i64_bounds (hwz x (List.mem_of_mem_take hx))⟩⟩
    rw [List.length_map, hlen] at hpos
    obtain ⟨ab, ao, spot⟩ := a
    have hc0 := hcell 0 (by omega)
    have hspot : spot = none := by simpa [Addr.add] using World.cell?_spot hc0
    subst hspot
    rw [Addr.add_lit] at hc0
    refine ⟨ab, ao, rfl, block_lt hc0, fun i u hu => ?_⟩
    have hi : i < len := by
      rcases Nat.lt_or_ge i len with h | h
      · exact h
      · rw [List.getElem?_eq_none (by simp; omega)] at hu; cases hu
    have hcj := hcell i (by omega)
    rw [Addr.add_lit] at hcj
    rw [hcj, ← hu]
    simp only [List.getElem?_map, List.getElem?_take, hi, if_true]
    have e : zs[i]? = some (zs[i]'(by omega)) := List.getElem?_eq_getElem (by omega)
    rw [List.getD_eq_getElem?_getD, e]
    rfl
theorem cameB_of_trod {t e : TypeId} (ht : Try.prog.underlying t = some (.slice e)) (he : Try.prog.underlying e = some .bool) (hc : Try.prog.cellsOf e = 1) {fuel : Nat} {v : Value} {x : DataW H × List MemPlace}
    (hf : DataW.trod enc Try.prog W 0 (fun _ => true) true fuel t [v] = some x) : ∃ A c l, v = .slice A l.length c ∧ CameB W A c l := by
  rcases open_bools ht he hc hf with ⟨hcs, hx⟩ | ⟨a, len, cap, B, hcs, _, hl, hm, hx, hcell⟩
  · injection hcs with e
    subst e
    exact ⟨none, 0, [], rfl, fun _ => rfl, Nat.le_refl _, by simp [maxLen], Lies.nil _ _ _⟩
  · injection hcs with e
    subst e
    have hlen : ((List.range len).map B).length = len := by simp
    refine ⟨some a, cap, (List.range len).map B, by rw [hlen], ⟨(fun h => by cases h), by rw [hlen]; exact hl, hm, fun hpos => ?_⟩⟩
    rw [List.length_map, hlen] at hpos
    obtain ⟨ab, ao, spot⟩ := a
    have hc0 := hcell 0 (by omega)
    have hspot : spot = none := by simpa [Addr.add] using World.cell?_spot hc0
    subst hspot
    rw [Addr.add_lit] at hc0
    refine ⟨ab, ao, rfl, block_lt hc0, fun i u hu => ?_⟩
    have hi : i < len := by
      rcases Nat.lt_or_ge i len with h | h
      · exact h
      · rw [List.getElem?_eq_none (by simp; omega)] at hu; cases hu
    have hcj := hcell i (by omega)
    rw [Addr.add_lit] at hcj
    rw [hcj, ← hu]
    simp [hi]
theorem undBoolsS : Try.prog.underlying 22 = some (.slice 4) := by kernel_rfl
theorem cellsBoolS : Try.prog.cellsOf 4 = 1 := by kernel_rfl
set_option maxRecDepth 100000 in
theorem open_boolsS {base : Nat} {v : Value} {d : DataW H} {p : List MemPlace} (hv : Value.okWide Try.prog W .any base 22 v) (h : DataW.Trod enc Try.prog W 0 (fun _ => true) true 22 v d p) : ∃ A c l, v = .slice A l.length c ∧ CameB W A c l := by
  obtain ⟨a, len, cap, rfl⟩ := okWide_slice undBoolsS hv
  obtain ⟨fuel, hf⟩ := h
  exact cameB_of_trod undBoolsS undBool cellsBoolS hf
theorem undIntsS : Try.prog.underlying 37 = some (.slice 3) := by kernel_rfl
set_option maxRecDepth 100000 in
theorem open_intsS {base : Nat} {v : Value} {d : DataW H} {p : List MemPlace} (hv : Value.okWide Try.prog W .any base 37 v) (h : DataW.Trod enc Try.prog W 0 (fun _ => true) true 37 v d p) : ∃ A c l, v = .slice A l.length c ∧ CameI W A c l := by
  obtain ⟨a, len, cap, rfl⟩ := okWide_slice undIntsS hv
  obtain ⟨fuel, hf⟩ := h
  exact cameI_of_trod undIntsS undIntS cellsIntS hf
end
end Go.Proofs.Ytehlabdbbbbopaa
