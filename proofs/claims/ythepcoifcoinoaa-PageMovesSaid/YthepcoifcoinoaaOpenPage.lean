/- Arguments opened: a page. -/
import Derived.Test.YthepcoifcoinoaaOpen
namespace Go.Proofs.Ythepcoifcoinoaa
open Go.ChangeShapes Go.WideShapes Go.RowKit Go.Joins

section
variable {H : Type} {enc : TypeId × Value → H} {W : World}
theorem undI64 : Try.prog.underlying 2 = some (.int .i64) := by kernel_rfl
theorem undKind : Try.prog.underlying 24 = some (.int .i64) := by kernel_rfl
set_option maxRecDepth 100000 in
theorem open_page {base : Nat} {v : Value} {d : DataW H} {p : List MemPlace} (hv : Value.okWide Try.prog W .any base 26 v) (h : DataW.Trod enc Try.prog W 0 (fun _ => true) true 26 v d p) :
    ∃ k t n A c l, v = .agg #[.int .i64 k, .int .i64 t, .int .i64 n, .slice A l.length c] ∧ Came W A c l := by
  obtain ⟨v0, v1, v2, v3, y0, y1, y2, y3, m, rfl, _, _, h0, h1, h2, h3⟩ := open_agg4 Try.underlying26 (by kernel_rfl) (by kernel_rfl) hv h
  obtain ⟨k, e0, _, _⟩ := DataW.trod_int undKind h0
  obtain ⟨t, e1, _, _⟩ := DataW.trod_int undI64 h1
  obtain ⟨n, e2, _, _⟩ := DataW.trod_int undI64 h2
  obtain ⟨A, c, l, rfl, hC⟩ := came_of_trod h3
  injection e0 with e0
  injection e1 with e1
  injection e2 with e2
  subst e0 e1 e2
  exact ⟨k, t, n, A, c, l, rfl, hC⟩
end
end Go.Proofs.Ythepcoifcoinoaa
