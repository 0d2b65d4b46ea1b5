/- Arguments opened: numbers, calls, pairs of them. -/
import Derived.Test.YtanbdkfkkochgaaPa2
import Derived.Test.YtanbdkfkkochgaaPa17
import Derived.ProofKit
import Derived.OpenShut
import Derived.Deep.Slices
import Derived.Lib.SmallJoins

namespace Go.Proofs.Ytanbdkfkkochgaa
open Go.ChangeShapes Go.WideShapes Go.RowKit Go.Joins Go.Deep

/-- Whole numbers that came in. -/
structure CameI (W : World) (A : Option Addr) (c : Nat) (l : List Int) : Prop where
  nil : A = none → c = 0
  le : l.length ≤ c
  cap : c ≤ maxLen
  lies : Lies W W.heap.size A (l.map (Value.int .i64))
  r : ∀ x ∈ l, -9223372036854775808 ≤ x ∧ x ≤ 9223372036854775807
/-- Calls that came in. -/
structure CameA (W : World) (A : Option Addr) (c : Nat) (l : List (Int × Int)) : Prop where
  nil : A = none → c = 0
  le : l.length ≤ c
  cap : c ≤ maxLen
  lies : 0 < l.length → ∃ b o, A = some ⟨b, o, none⟩ ∧ b < W.heap.size ∧ ∀ i (h : i < l.length), W.cell? ⟨b, o + i * 2, none⟩ = some (.int .i64 l[i].1) ∧ W.cell? ⟨b, o + i * 2 + 1, none⟩ = some (.int .i64 l[i].2)
  r : ∀ x ∈ l, -9223372036854775808 ≤ x.2 ∧ x.2 ≤ 9223372036854775807
theorem i64_bounds {n : Int} (h : (Lit.int .i64 n).wf = true) : -9223372036854775808 ≤ n ∧ n ≤ 9223372036854775807 := by
  have := range_i64 (zs := [n]) (by simpa using h) 0
  simpa using this
section
variable {H : Type} {enc : TypeId × Value → H} {W : World}
theorem undI64S : Try.prog.underlying 2 = some (.int .i64) := by kernel_rfl
theorem undIntS : Try.prog.underlying 3 = some (.int .i64) := by kernel_rfl
theorem cellsI64S : Try.prog.cellsOf 2 = 1 := by kernel_rfl
theorem cellsIntS : Try.prog.cellsOf 3 = 1 := by kernel_rfl
theorem undI64sS : Try.prog.underlying 23 = some (.slice 2) := by kernel_rfl
theorem undIntsS : Try.prog.underlying 24 = some (.slice 3) := by kernel_rfl
theorem undTwoS : Try.prog.underlying 22 = some (.array 2 2) := by kernel_rfl
theorem cellsTwoS : Try.prog.cellsOf 22 = 2 := by kernel_rfl
theorem undActsS : Try.prog.underlying 37 = some (.slice 44) := by kernel_rfl
theorem cellsActS : Try.prog.cellsOf 44 = 2 := by kernel_rfl
theorem undTwoActsS : Try.prog.underlying 50 = some (.array 2 37) := by kernel_rfl
theorem cellsTwoActsS : Try.prog.cellsOf 50 = 2 := by kernel_rfl
theorem cellsActsS : Try.prog.cellsOf 37 = 1 := by kernel_rfl

theorem block_lt {a : Addr} {u : Value} (h : W.cell? a = some u) : a.block < W.heap.size := by
  rcases Nat.lt_or_ge a.block W.heap.size with h1 | h1
  · exact h1
  · exfalso
    simp [World.cell?, Array.getElem?_eq_none h1] at h
theorem cameI_of_trod {t e : TypeId} (ht : Try.prog.underlying t = some (.slice e)) (he : Try.prog.underlying e = some (.int .i64)) (hc : Try.prog.cellsOf e = 1) {fuel : Nat} {v : Value} {x : DataW H × List MemPlace}
    (hf : DataW.trod enc Try.prog W 0 (fun _ => true) true fuel t [v] = some x) : ∃ A c l, v = .slice A l.length c ∧ CameI W A c l := by
  rcases open_ints ht he hc hf with ⟨hcs, hx⟩ | ⟨a, len, cap, zs, hcs, _, hl, hm, hz, hx, hcell, hwz⟩
  · injection hcs with e
    subst e
    exact ⟨none, 0, [], rfl, fun _ => rfl, Nat.le_refl _, by simp [maxLen], Lies.nil _ _ _, by simp⟩
  · injection hcs with e
    subst e
    simp only [if_true] at hz
    have hlen : (zs.take len).length = len := by simp; omega
    refine ⟨some a, cap, zs.take len, by rw [hlen], ⟨(fun h => by cases h), by rw [hlen]; exact hl, hm, fun hpos => ?_, fun x hx => i64_bounds (hwz x (List.mem_of_mem_take hx))⟩⟩
    rw [List.length_map, hlen] at hpos
    obtain ⟨ab, ao, spot⟩ := a
    have hc0 := hcell 0 (by omega)
    have hspot : spot = none := by simpa [Addr.add] using World.cell?_spot hc0
    subst hspot
    rw [Addr.add_lit] at hc0
    refine ⟨ab, ao, rfl, block_lt hc0, fun i u hu => ?_⟩
    have hi : i < len := by
      rcases Nat.lt_or_ge i len with h | h
      · exact h
      · rw [List.getElem?_eq_none (by simp; omega)] at hu; cases hu
    have hcj := hcell i (by omega)
    rw [Addr.add_lit] at hcj
    rw [hcj, ← hu]
    simp only [List.getElem?_map, List.getElem?_take, hi, if_true]
    have e : zs[i]? = some (zs[i]'(by omega)) := List.getElem?_eq_getElem (by omega)
    rw [List.getD_eq_getElem?_getD, e]
    rfl
set_option maxRecDepth 100000 in
theorem open_i64s {base : Nat} {v : Value} {d : DataW H} {p : List MemPlace} (hv : Value.okWide Try.prog W .any base 23 v) (h : DataW.Trod enc Try.prog W 0 (fun _ => true) true 23 v d p) : ∃ A c l, v = .slice A l.length c ∧ CameI W A c l := by
  obtain ⟨a, len, cap, rfl⟩ := okWide_slice undI64sS hv
  obtain ⟨fuel, hf⟩ := h
  exact cameI_of_trod undI64sS undI64S cellsI64S hf
set_option maxRecDepth 100000 in
theorem open_intsS {base : Nat} {v : Value} {d : DataW H} {p : List MemPlace} (hv : Value.okWide Try.prog W .any base 24 v) (h : DataW.Trod enc Try.prog W 0 (fun _ => true) true 24 v d p) : ∃ A c l, v = .slice A l.length c ∧ CameI W A c l := by
  obtain ⟨a, len, cap, rfl⟩ := okWide_slice undIntsS hv
  obtain ⟨fuel, hf⟩ := h
  exact cameI_of_trod undIntsS undIntS cellsIntS hf
set_option maxRecDepth 100000 in
theorem open_twoI {base : Nat} {v : Value} {d : DataW H} {p : List MemPlace} (hv : Value.okWide Try.prog W .any base 22 v) (h : DataW.Trod enc Try.prog W 0 (fun _ => true) true 22 v d p) :
    ∃ x0 x1, v = .agg #[.int .i64 x0, .int .i64 x1] ∧ (-9223372036854775808 ≤ x0 ∧ x0 ≤ 9223372036854775807) ∧ -9223372036854775808 ≤ x1 ∧ x1 ≤ 9223372036854775807 := by
  unfold Value.okWide at hv
  rw [undTwoS] at hv
  obtain ⟨⟨cs⟩, rfl, hsz, _⟩ := hv
  rw [cellsTwoS] at hsz
  obtain ⟨fuel, hf⟩ := h
  match cs, hsz with
  | [c0, c1], _ =>
    obtain ⟨xs, m, _, _, _, hlen, hg⟩ := DataW.trod_array undTwoS hf
    have g : ∀ i c, i < 2 → ((Value.agg #[c0, c1]).cells.toList.drop i).take 1 = [c] → ∃ x, c = .int .i64 x ∧ -9223372036854775808 ≤ x ∧ x ≤ 9223372036854775807 := fun i c hi he => by
      have h1 := hg i hi
      rw [cellsI64S, Nat.mul_one, he, List.getElem?_eq_getElem (by omega)] at h1
      obtain ⟨x, e, _, hw⟩ := DataW.trod_int undI64S h1
      injection e with e
      exact ⟨x, e, i64_bounds hw⟩
    obtain ⟨x0, rfl, b0⟩ := g 0 c0 (by omega) rfl
    obtain ⟨x1, rfl, b1⟩ := g 1 c1 (by omega) rfl
    exact ⟨x0, x1, rfl, b0, b1⟩
set_option maxRecDepth 100000 in
theorem act_of_trod {fuel : Nat} {cs : List Value} {x : DataW H × List MemPlace} (hf : DataW.trod enc Try.prog W 0 (fun _ => true) true fuel 44 cs = some x) :
    ∃ k n : Int, cs = [.int .i64 k, .int .i64 n] ∧ -9223372036854775808 ≤ n ∧ n ≤ 9223372036854775807 := by
  obtain ⟨xs, m, _, _, hl, hlen, hg⟩ := DataW.trod_struct Try.underlying44 hf
  rw [cellsActS] at hl
  match cs, hl with
  | [c0, c1], _ =>
    have h0 : DataW.trod enc Try.prog W 0 (fun _ => true) true m 3 (([c0, c1].drop 0).take (Try.prog.cellsOf 3)) = xs[0]? := hg 0 _ rfl
    have h1 : DataW.trod enc Try.prog W 0 (fun _ => true) true m 2 (([c0, c1].drop 1).take (Try.prog.cellsOf 2)) = xs[1]? := hg 1 _ rfl
    have hx : xs.length = 2 := hlen
    rw [cellsIntS, List.getElem?_eq_getElem (by omega)] at h0
    rw [cellsI64S, List.getElem?_eq_getElem (by omega)] at h1
    obtain ⟨k, e0, _, _⟩ := DataW.trod_int undIntS h0
    obtain ⟨n, e1, _, hw⟩ := DataW.trod_int undI64S h1
    simp at e0 e1
    subst e0 e1
    exact ⟨k, n, rfl, i64_bounds hw⟩
set_option maxRecDepth 100000 in
theorem cameA_of_trod {fuel : Nat} {v : Value} {x : DataW H × List MemPlace} (hf : DataW.trod enc Try.prog W 0 (fun _ => true) true fuel 37 [v] = some x) : ∃ A c l, v = .slice A l.length c ∧ CameA W A c l := by
  rcases open_slice undActsS hf with ⟨hcs, hx⟩ | ⟨a, len, cap, m, n, D, Pl, hcs, _, hl, hm, hmm, _, hx⟩
  · injection hcs with e
    subst e
    exact ⟨none, 0, [], rfl, fun _ => rfl, Nat.le_refl _, by simp [maxLen], fun h => absurd h (by simp), by simp⟩
  · injection hcs with e
    subst e
    simp only [if_true] at hmm
    subst hmm
    have hp : ∀ i, i < len → ∃ y : Int × Int, W.cell? (a.add (i * 2)) = some (.int .i64 y.1) ∧ W.cell? (a.add (i * 2 + 1)) = some (.int .i64 y.2) ∧ -9223372036854775808 ≤ y.2 ∧ y.2 ≤ 9223372036854775807 := fun i hi => by
      obtain ⟨cs, h1, h2⟩ := hx i (by omega)
      rw [cellsActS] at h1
      obtain ⟨k, y, rfl, hb⟩ := act_of_trod h2
      obtain ⟨_, _, hc⟩ := World.cells?_some h1
      have g0 := hc 0 (by omega)
      have g1 := hc 1 (by omega)
      rw [Addr.add_add] at g0 g1
      exact ⟨(k, y), g0, g1, hb⟩
    obtain ⟨Y, hY⟩ := choose_lt (α := Int × Int) hp
    have hlen : ((List.range len).map Y).length = len := by simp
    refine ⟨some a, m, (List.range len).map Y, by rw [hlen], ⟨(fun h => by cases h), by rw [hlen]; exact hl, hm, fun hpos => ?_, fun y hy => ?_⟩⟩
    · rw [hlen] at hpos
      obtain ⟨ab, ao, spot⟩ := a
      have hc0 := (hY 0 hpos).1
      have hspot : spot = none := by simpa [Addr.add] using World.cell?_spot hc0
      subst hspot
      rw [Addr.add_lit] at hc0
      refine ⟨ab, ao, rfl, block_lt hc0, fun i hi => ?_⟩
      rw [hlen] at hi
      have h := hY i hi
      rw [Addr.add_lit, Addr.add_lit, ← Nat.add_assoc] at h
      simp only [List.getElem_map, List.getElem_range]
      exact ⟨h.1, h.2.1⟩
    · obtain ⟨i, hi, rfl⟩ := List.mem_map.1 hy
      exact (hY i (by simpa using hi)).2.2
set_option maxRecDepth 100000 in
theorem open_actsS {base : Nat} {v : Value} {d : DataW H} {p : List MemPlace} (hv : Value.okWide Try.prog W .any base 37 v) (h : DataW.Trod enc Try.prog W 0 (fun _ => true) true 37 v d p) : ∃ A c l, v = .slice A l.length c ∧ CameA W A c l := by
  obtain ⟨a, len, cap, rfl⟩ := okWide_slice undActsS hv
  obtain ⟨fuel, hf⟩ := h
  exact cameA_of_trod hf
set_option maxRecDepth 100000 in
theorem open_twoActs {base : Nat} {v : Value} {d : DataW H} {p : List MemPlace} (hv : Value.okWide Try.prog W .any base 50 v) (h : DataW.Trod enc Try.prog W 0 (fun _ => true) true 50 v d p) :
    ∃ A0 c0 l0 A1 c1 l1, v = .agg #[.slice A0 l0.length c0, .slice A1 l1.length c1] ∧ CameA W A0 c0 l0 ∧ CameA W A1 c1 l1 := by
  unfold Value.okWide at hv
  rw [undTwoActsS] at hv
  obtain ⟨⟨cs⟩, rfl, hsz, _⟩ := hv
  rw [cellsTwoActsS] at hsz
  obtain ⟨fuel, hf⟩ := h
  match cs, hsz with
  | [c0, c1], _ =>
    obtain ⟨xs, m, _, _, _, hlen, hg⟩ := DataW.trod_array undTwoActsS hf
    have g : ∀ i c, i < 2 → ((Value.agg #[c0, c1]).cells.toList.drop i).take 1 = [c] → ∃ A k l, c = .slice A l.length k ∧ CameA W A k l := fun i c hi he => by
      have h1 := hg i hi
      rw [cellsActsS, Nat.mul_one, he, List.getElem?_eq_getElem (by omega)] at h1
      exact cameA_of_trod h1
    obtain ⟨A0, k0, l0, rfl, b0⟩ := g 0 c0 (by omega) rfl
    obtain ⟨A1, k1, l1, rfl, b1⟩ := g 1 c1 (by omega) rfl
    exact ⟨A0, k0, l0, A1, k1, l1, rfl, b0, b1⟩
end
end Go.Proofs.Ytanbdkfkkochgaa
