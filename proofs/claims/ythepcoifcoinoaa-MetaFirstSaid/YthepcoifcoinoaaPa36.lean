/- Arguments opened: three numbers. -/
import Derived.Test.YthepcoifcoinoaaPRa4
import Derived.OpenShut

namespace Go.Proofs.Ythepcoifcoinoaa
open Go.ChangeShapes Go.WideShapes Go.RowKit Go.Joins

section
variable {H : Type} {enc : TypeId × Value → H} {W : World}
theorem undInt : Try.prog.underlying 3 = some (.int .i64) := by kernel_rfl
theorem undThree : Try.prog.underlying 38 = some (.array 3 3) := by kernel_rfl
theorem cellsThree : Try.prog.cellsOf 38 = 3 := by kernel_rfl
theorem cellsInt : Try.prog.cellsOf 3 = 1 := by kernel_rfl
set_option maxRecDepth 100000 in
theorem open_three {base : Nat} {v : Value} {d : DataW H} {p : List MemPlace} (hv : Value.okWide Try.prog W .any base 38 v) (h : DataW.Trod enc Try.prog W 0 (fun _ => true) true 38 v d p) :
    ∃ x0 x1 x2, v = .agg #[.int .i64 x0, .int .i64 x1, .int .i64 x2] := by
  unfold Value.okWide at hv
  rw [undThree] at hv
  obtain ⟨⟨cs⟩, rfl, hsz, _⟩ := hv
  rw [cellsThree] at hsz
  obtain ⟨fuel, hf⟩ := h
  match cs, hsz with
  | [c0, c1, c2], _ =>
    obtain ⟨xs, m, _, _, _, hlen, hg⟩ := DataW.trod_array undThree hf
    have g : ∀ i c, i < 3 → ((Value.agg #[c0, c1, c2]).cells.toList.drop i).take 1 = [c] → ∃ x, c = .int .i64 x := fun i c hi he => by
      have h1 := hg i hi
      rw [cellsInt, Nat.mul_one, he, List.getElem?_eq_getElem (by omega)] at h1
      obtain ⟨x, e, _⟩ := DataW.trod_int undInt h1
      injection e with e
      exact ⟨x, e⟩
    obtain ⟨x0, rfl⟩ := g 0 c0 (by omega) rfl
    obtain ⟨x1, rfl⟩ := g 1 c1 (by omega) rfl
    obtain ⟨x2, rfl⟩ := g 2 c2 (by omega) rfl
    exact ⟨x0, x1, x2, rfl⟩
end
end Go.Proofs.Ythepcoifcoinoaa
