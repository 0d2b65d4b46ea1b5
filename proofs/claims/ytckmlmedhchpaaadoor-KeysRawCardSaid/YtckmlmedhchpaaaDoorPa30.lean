/- Layer 18: parts that came in, opened. -/
import Derived.Test.YtckmlmedhchpaaaDoorPa21
import Derived.Test.YtckmlmedhchpaaaDoorPa1
import Derived.ProofKit
import Derived.Deep.Slices
import Derived.Deep.Fields
import Derived.ChangeSame

namespace Go.Proofs.YtckmlmedhchpaaaDoor
open Go.ChangeShapes Go.WideShapes Go.RowKit Go.Deep

section
variable {H : Type} {enc : TypeId × Value → H} {W : World}
theorem kUndKind : Tryd.prog.underlying 31 = some (.int .i64) := by kernel_rfl
theorem kUndInt : Tryd.prog.underlying 2 = some (.int .i64) := by kernel_rfl
theorem kUndFloat : Tryd.prog.underlying 32 = some (.float .f64) := by kernel_rfl
theorem kUndStr : Tryd.prog.underlying 9 = some .string := by kernel_rfl
theorem trod_f64 {base fuel : Nat} {sp : Nat → Bool} {held : Bool} {t : TypeId} {cs : List Value} {x : DataW H × List MemPlace} (ht : Tryd.prog.underlying t = some (.float .f64)) (h : DataW.trod enc Tryd.prog W base sp held fuel t cs = some x) :
    ∃ b, cs = [.float .f64 b] ∧ b < 18446744073709551616 := by
  cases fuel with
  | zero => simp [DataW.trod] at h
  | succ n =>
    unfold DataW.trod at h
    rw [ht] at h
    split at h
    all_goals first | (exfalso; simp_all; done) | skip
    rename_i k k' b heq
    injection heq with heq
    injection heq with heq
    subst heq
    split at h
    · rename_i hw
      obtain ⟨rfl, hw⟩ := hw
      exact ⟨b, rfl, by simpa [Lit.wf] using hw⟩
    · cases h
theorem wf_i64 {n : Int} (h : (Lit.int .i64 n).wf = true) : -9223372036854775808 ≤ n ∧ n ≤ 9223372036854775807 := by
  have h2 : (decide ((-9223372036854775808 : Int) ≤ n) && decide (n ≤ 9223372036854775807)) = true := h
  simpa using h2
set_option maxRecDepth 100000 in
theorem open_part {base fuel : Nat} {sp : Nat → Bool} {held : Bool} {cs : List Value} {x : DataW H × List MemPlace} (h : DataW.trod enc Tryd.prog W base sp held fuel 34 cs = some x) :
    ∃ p : KP, cs = kpCells p ∧ p.Ok := by
  obtain ⟨ys, n, _, _, hlen, hyl, hf⟩ := DataW.trod_struct Tryd.underlying34 h
  have hl4 : cs.length = 4 := hlen.trans (by kernel_rfl)
  match cs, hl4 with
  | [c0, c1, c2, c3], _ =>
    have hy : ∀ i, i < 4 → ∃ y, ys[i]? = some y := fun i hi => ⟨_, List.getElem?_eq_getElem (by rw [hyl]; exact hi)⟩
    obtain ⟨y0, e0⟩ := hy 0 (by decide)
    obtain ⟨y1, e1⟩ := hy 1 (by decide)
    obtain ⟨y2, e2⟩ := hy 2 (by decide)
    obtain ⟨y3, e3⟩ := hy 3 (by decide)
    have g0 := (hf 0 _ rfl).trans e0
    have g1 := (hf 1 _ rfl).trans e1
    have g2 := (hf 2 _ rfl).trans e2
    have g3 := (hf 3 _ rfl).trans e3
    replace g0 : DataW.trod enc Tryd.prog W base sp held n 31 [c0] = some y0 := g0
    replace g1 : DataW.trod enc Tryd.prog W base sp held n 2 [c1] = some y1 := g1
    replace g2 : DataW.trod enc Tryd.prog W base sp held n 32 [c2] = some y2 := g2
    replace g3 : DataW.trod enc Tryd.prog W base sp held n 9 [c3] = some y3 := g3
    obtain ⟨k, k0, _, k1⟩ := DataW.trod_int kUndKind g0
    obtain ⟨m, m0, _, m1⟩ := DataW.trod_int kUndInt g1
    obtain ⟨f, f0, f1⟩ := trod_f64 kUndFloat g2
    obtain ⟨s, s0, _, _⟩ := DataW.trod_string kUndStr g3
    injection k0 with k0
    injection m0 with m0
    injection f0 with f0
    injection s0 with s0
    subst k0 m0 f0 s0
    refine ⟨⟨k, m, f, s.data.toList⟩, ?_, ⟨(wf_i64 k1).1, (wf_i64 k1).2, (wf_i64 m1).1, (wf_i64 m1).2, f1⟩⟩
    simp [kpCells, strV]
set_option maxRecDepth 100000 in
/-- Parts that came in. -/
theorem open_parts {base : Nat} {v : Value} {d : DataW H} {p : List MemPlace} (h : DataW.Trod enc Tryd.prog W 0 (fun _ => true) true 23 v d p) (hv : Value.okWide Tryd.prog W .any base 23 v) :
    ∃ (A : Option Addr) (c : Nat) (l : List KP), v = .slice A l.length c ∧ (∀ q ∈ l, q.Ok) ∧ Lies W W.heap.size A (kFlat l) ∧ l.length ≤ c := by
  obtain ⟨A, n, c, rfl⟩ := okWide_slice (by kernel_rfl : Tryd.prog.underlying 23 = some (.slice 34)) hv
  obtain ⟨fuel, hf⟩ := h
  rcases open_slice (by kernel_rfl : Tryd.prog.underlying 23 = some (.slice 34)) hf with ⟨hcs, _⟩ | ⟨a, len, cap, m, n', D, Pl, hcs, _, hl, _, hm, _, hi⟩
  · injection hcs with e
    injection e with e1 e2 e3
    subst e1 e2 e3
    exact ⟨none, 0, [], rfl, fun _ h => (by cases h), Lies.nil _ _ _, Nat.le_refl _⟩
  · injection hcs with e
    injection e with e1 e2 e3
    subst e1 e2 e3
    rw [if_pos rfl] at hm
    have hc4 : Tryd.prog.cellsOf 34 = 4 := by kernel_rfl
    rw [hc4] at hi
    have each : ∀ i, ∃ q : KP, i < n → q.Ok ∧ ∀ j, j < 4 → W.cell? (a.add (i * 4 + j)) = (kpCells q)[j]? := by
      intro i
      by_cases hin : i < n
      · obtain ⟨cs', h1, h2⟩ := hi i (by omega)
        obtain ⟨q, rfl, hq⟩ := open_part h2
        obtain ⟨_, _, hat⟩ := World.cells?_some h1
        exact ⟨q, fun _ => ⟨hq, fun j hj => by rw [← hat j hj, ← Go.Deep.add_add]⟩⟩
      · exact ⟨⟨0, 0, 0, []⟩, fun h => absurd h hin⟩
    obtain ⟨Q, hQ⟩ := Classical.axiomOfChoice each
    refine ⟨some a, c, (List.range n).map Q, by simp, ?_, ?_, by simpa using hl⟩
    · intro q hq
      obtain ⟨i, hi', rfl⟩ := List.mem_map.1 hq
      exact (hQ i (List.mem_range.1 hi')).1
    · intro hpos
      rw [kFlat_length, List.length_map, List.length_range] at hpos
      obtain ⟨ab, ao, spot⟩ := a
      have hc0 := (hQ 0 (by omega)).2 0 (by decide)
      have hc0' : W.cell? ((⟨ab, ao, spot⟩ : Addr).add (0 * 4 + 0)) = some (.int .i64 (Q 0).k) := hc0
      have hspot : spot = none := by simpa [Addr.add] using World.cell?_spot hc0'
      subst hspot
      have hlt : ab < W.heap.size := by
        rcases Nat.lt_or_ge ab W.heap.size with h | h
        · exact h
        · exfalso
          rw [Addr.add_lit] at hc0'
          simp [World.cell?, Array.getElem?_eq_none h] at hc0'
      refine ⟨ab, ao, rfl, hlt, fun i u hu => ?_⟩
      have hil : i < 4 * n := by
        rcases Nat.lt_or_ge i (4 * n) with h | h
        · exact h
        · rw [List.getElem?_eq_none (by rw [kFlat_length, List.length_map, List.length_range]; exact h)] at hu; cases hu
      have hj : i / 4 < ((List.range n).map Q).length := by simp; omega
      have hg := kFlat_get ((List.range n).map Q) (i / 4) (i % 4) hj (Nat.mod_lt _ (by decide))
      rw [show 4 * (i / 4) + i % 4 = i from Nat.div_add_mod i 4, hu] at hg
      have hcell := (hQ (i / 4) (by omega)).2 (i % 4) (Nat.mod_lt _ (by decide))
      rw [Addr.add_lit, show i / 4 * 4 + i % 4 = i by omega] at hcell
      rw [hcell, hg]
      congr 2
      simp
end
end Go.Proofs.YtckmlmedhchpaaaDoor
