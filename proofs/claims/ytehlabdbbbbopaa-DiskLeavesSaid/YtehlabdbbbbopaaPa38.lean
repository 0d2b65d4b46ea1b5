/- Arguments opened: calls of layer 2. -/
import Derived.Test.YtehlabdbbbbopaaPa3
import Derived.Test.YtehlabdbbbbopaaPa36

namespace Go.Proofs.Ytehlabdbbbbopaa
open Go.ChangeShapes Go.WideShapes Go.RowKit Go.Joins Go.Deep

/-- Calls that came in. -/
structure CameD (W : World) (A : Option Addr) (c : Nat) (l : List ActV) : Prop where
  lies : 0 < l.length → ∃ b o, A = some ⟨b, o, none⟩ ∧ b < W.heap.size ∧ ∀ i (h : i < l.length), W.cell? ⟨b, o + i * 4, none⟩ = some (.int .i64 l[i].k) ∧ W.cell? ⟨b, o + i * 4 + 1, none⟩ = some (.int .i64 l[i].page) ∧ W.cell? ⟨b, o + i * 4 + 2, none⟩ = some (byteV l[i].byte) ∧ W.cell? ⟨b, o + i * 4 + 3, none⟩ = some (.int .i64 l[i].arm)
  r : ∀ x ∈ l, x.ok
section
variable {H : Type} {enc : TypeId × Value → H} {W : World}
theorem undByteD : Try.prog.underlying 5 = some (.int .u8) := by kernel_rfl
theorem cellsByteD : Try.prog.cellsOf 5 = 1 := by kernel_rfl
theorem undArmD : Try.prog.underlying 28 = some (.int .i64) := by kernel_rfl
theorem cellsArmD : Try.prog.cellsOf 28 = 1 := by kernel_rfl
theorem undActsD : Try.prog.underlying 36 = some (.slice 39) := by kernel_rfl
theorem cellsActD : Try.prog.cellsOf 39 = 4 := by kernel_rfl
theorem byte_of_wf {n : Int} (h : (Lit.int .u8 n).wf = true) : ∃ b : UInt8, (Value.int .u8 n) = byteV b := by
  have := range_u8 (zs := [n]) (by simpa using h) 0
  simp at this
  refine ⟨UInt8.ofNat n.toNat, ?_⟩
  unfold byteV
  rw [UInt8.toNat_ofNat']
  congr 1
  omega
set_option maxRecDepth 100000 in
theorem actD_of_trod {fuel : Nat} {cs : List Value} {x : DataW H × List MemPlace} (hf : DataW.trod enc Try.prog W 0 (fun _ => true) true fuel 39 cs = some x) :
    ∃ a : ActV, cs = [.int .i64 a.k, .int .i64 a.page, byteV a.byte, .int .i64 a.arm] ∧ a.ok := by
  obtain ⟨xs, m, _, _, hl, hlen, hg⟩ := DataW.trod_struct Try.underlying39 hf
  rw [cellsActD] at hl
  match cs, hl with
  | [c0, c1, c2, c3], _ =>
    have h0 : DataW.trod enc Try.prog W 0 (fun _ => true) true m 3 (([c0, c1, c2, c3].drop 0).take (Try.prog.cellsOf 3)) = xs[0]? := hg 0 _ rfl
    have h1 : DataW.trod enc Try.prog W 0 (fun _ => true) true m 3 (([c0, c1, c2, c3].drop 1).take (Try.prog.cellsOf 3)) = xs[1]? := hg 1 _ rfl
    have h2 : DataW.trod enc Try.prog W 0 (fun _ => true) true m 5 (([c0, c1, c2, c3].drop 2).take (Try.prog.cellsOf 5)) = xs[2]? := hg 2 _ rfl
    have h3 : DataW.trod enc Try.prog W 0 (fun _ => true) true m 28 (([c0, c1, c2, c3].drop 3).take (Try.prog.cellsOf 28)) = xs[3]? := hg 3 _ rfl
    have hx : xs.length = 4 := hlen
    rw [cellsIntS, List.getElem?_eq_getElem (by omega)] at h0 h1
    rw [cellsByteD, List.getElem?_eq_getElem (by omega)] at h2
    rw [cellsArmD, List.getElem?_eq_getElem (by omega)] at h3
    obtain ⟨k, e0, _, _⟩ := DataW.trod_int undIntS h0
    obtain ⟨p, e1, _, hw⟩ := DataW.trod_int undIntS h1
    obtain ⟨y, e2, _, hw2⟩ := DataW.trod_int undByteD h2
    obtain ⟨z, e3, _, _⟩ := DataW.trod_int undArmD h3
    simp at e0 e1 e2 e3
    subst e0 e1 e2 e3
    obtain ⟨b, hb⟩ := byte_of_wf hw2
    exact ⟨⟨k, p, b, z⟩, by rw [hb], i64_bounds hw⟩
set_option maxRecDepth 100000 in
theorem cameD_of_trod {fuel : Nat} {v : Value} {x : DataW H × List MemPlace} (hf : DataW.trod enc Try.prog W 0 (fun _ => true) true fuel 36 [v] = some x) : ∃ A c l, v = .slice A l.length c ∧ CameD W A c l := by
  rcases open_slice undActsD hf with ⟨hcs, hx⟩ | ⟨a, len, cap, m, n, D, Pl, hcs, _, hl, hm, hmm, _, hx⟩
  · injection hcs with e
    subst e
    exact ⟨none, 0, [], rfl, fun h => absurd h (by simp), by simp⟩
  · injection hcs with e
    subst e
    simp only [if_true] at hmm
    subst hmm
    have hp : ∀ i, i < len → ∃ y : ActV, (W.cell? (a.add (i * 4)) = some (.int .i64 y.k) ∧ W.cell? (a.add (i * 4 + 1)) = some (.int .i64 y.page) ∧ W.cell? (a.add (i * 4 + 2)) = some (byteV y.byte) ∧ W.cell? (a.add (i * 4 + 3)) = some (.int .i64 y.arm)) ∧ y.ok := fun i hi => by
      obtain ⟨cs, h1, h2⟩ := hx i (by omega)
      rw [cellsActD] at h1
      obtain ⟨y, rfl, hb⟩ := actD_of_trod h2
      obtain ⟨_, _, hc⟩ := World.cells?_some h1
      have g0 := hc 0 (by omega)
      have g1 := hc 1 (by omega)
      have g2 := hc 2 (by omega)
      have g3 := hc 3 (by omega)
      rw [Addr.add_add] at g0 g1 g2 g3
      exact ⟨y, ⟨g0, g1, g2, g3⟩, hb⟩
    haveI : Inhabited ActV := ⟨⟨0, 0, 0, 0⟩⟩
    obtain ⟨Y, hY⟩ := choose_lt (α := ActV) hp
    have hlen : ((List.range len).map Y).length = len := by simp
    refine ⟨some a, m, (List.range len).map Y, by rw [hlen], ⟨fun hpos => ?_, fun y hy => ?_⟩⟩
    · rw [hlen] at hpos
      obtain ⟨ab, ao, spot⟩ := a
      have hc0 := (hY 0 hpos).1.1
      have hspot : spot = none := by simpa [Addr.add] using World.cell?_spot hc0
      subst hspot
      rw [Addr.add_lit] at hc0
      refine ⟨ab, ao, rfl, block_lt hc0, fun i hi => ?_⟩
      rw [hlen] at hi
      have h := (hY i hi).1
      simp only [Addr.add_lit, ← Nat.add_assoc] at h
      simp only [List.getElem_map, List.getElem_range]
      exact h
    · obtain ⟨i, hi, rfl⟩ := List.mem_map.1 hy
      exact (hY i (by simpa using hi)).2
set_option maxRecDepth 100000 in
theorem open_actsD {base : Nat} {v : Value} {d : DataW H} {p : List MemPlace} (hv : Value.okWide Try.prog W .any base 36 v) (h : DataW.Trod enc Try.prog W 0 (fun _ => true) true 36 v d p) : ∃ A c l, v = .slice A l.length c ∧ CameD W A c l := by
  obtain ⟨a, len, cap, rfl⟩ := okWide_slice undActsD hv
  obtain ⟨fuel, hf⟩ := h
  exact cameD_of_trod hf
end
end Go.Proofs.Ytehlabdbbbbopaa
