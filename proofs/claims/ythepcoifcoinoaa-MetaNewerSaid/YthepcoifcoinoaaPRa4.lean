/- Arguments opened: bytes, a page. Arguments opened: a page. Arguments opened: a meta. -/
import Derived.Test.YthepcoifcoinoaaPRa1
import Derived.Test.YthepcoifcoinoaaPRa3
import Derived.ProofKit
import Derived.Lib.SmallJoins

namespace Go.Proofs.Ythepcoifcoinoaa
open Go.ChangeShapes Go.WideShapes Go.RowKit Go.Joins

section
variable {H : Type} {enc : TypeId × Value → H} {W : World}

/-- Bytes that came in. -/
def Came (W : World) (A : Option Addr) (c : Nat) (l : List UInt8) : Prop :=
  (A = none → c = 0) ∧ l.length ≤ c ∧ c ≤ maxLen ∧ Lies W W.heap.size A (l.map byteV)
theorem Came.bytes {A : Option Addr} {c : Nat} {l : List UInt8} (h : Came W A c l) (hl : l.length ≤ 140737488351232) : Bytes W W.heap.size (.slice A l.length c) l :=
  ⟨A, c, rfl, h.2.1, h.1, h.2.2.1, hl, h.2.2.2⟩

theorem Came.small {A : Option Addr} {c : Nat} {l : List UInt8} (h : Came W A c l) : l.length ≤ 9223372036854775807 := by
  have := h.2.2.1
  have := h.2.1
  simp only [maxLen] at *
  omega
theorem undByteO : Try.prog.underlying 5 = some (.int .u8) := by kernel_rfl
theorem cellsByte : Try.prog.cellsOf 5 = 1 := by kernel_rfl

theorem came_of_trod {fuel : Nat} {v : Value} {x : DataW H × List MemPlace} (hf : DataW.trod enc Try.prog W 0 (fun _ => true) true fuel 22 [v] = some x) :
    ∃ A c l, v = .slice A l.length c ∧ Came W A c l := by
  rcases open_ints undBytes undByteO cellsByte hf with ⟨hcs, hx⟩ | ⟨a, len, cap, zs, hcs, _, hl, hm, hz, hx, hcell, hwz⟩
  · injection hcs with e
    subst e
    exact ⟨none, 0, [], rfl, fun _ => rfl, Nat.le_refl _, by simp [maxLen], Lies.nil _ _ _⟩
  · injection hcs with e
    subst e
    simp only [if_true] at hz
    have hlen : ((zs.take len).map fun n => UInt8.ofNat n.toNat).length = len := by simp; omega
    refine ⟨some a, cap, (zs.take len).map (fun n => UInt8.ofNat n.toNat), by rw [hlen], ⟨(fun h => by cases h), by rw [hlen]; exact hl, hm, fun hpos => ?_⟩⟩
    rw [List.length_map, hlen] at hpos
    obtain ⟨ab, ao, spot⟩ := a
    have hc0 := hcell 0 (by omega)
    have hspot : spot = none := by simpa [Addr.add] using World.cell?_spot hc0
    subst hspot
    have hlt : ab < W.heap.size := by
      rcases Nat.lt_or_ge ab W.heap.size with h | h
      · exact h
      · exfalso
        rw [Addr.add_lit] at hc0
        simp [World.cell?, Array.getElem?_eq_none h] at hc0
    refine ⟨ab, ao, rfl, hlt, fun i u hu => ?_⟩
    have hi : i < len := by
      rcases Nat.lt_or_ge i len with h | h
      · exact h
      · rw [List.getElem?_eq_none (by simp; omega)] at hu; cases hu
    have hcj := hcell i (by omega)
    rw [Addr.add_lit] at hcj
    rw [hcj, ← hu]
    have hb := range_u8 hwz i
    simp only [List.getElem?_map, List.getElem?_take, hi, if_true]
    have e : zs[i]? = some (zs[i]'(by omega)) := List.getElem?_eq_getElem (by omega)
    rw [e] at hb
    rw [List.getD_eq_getElem?_getD, e]
    simp only [Option.getD_some, Option.map_some, byteV] at hb ⊢
    congr 2
    simp only [UInt8.toNat_ofNat']
    omega
theorem open_bytes {v : Value} {d : DataW H} {p : List MemPlace} (h : DataW.Trod enc Try.prog W 0 (fun _ => true) true 22 v d p) (hs : ∃ a len cap, v = .slice a len cap) : ∃ A c l, v = .slice A l.length c ∧ Came W A c l := by
  obtain ⟨a, len, cap, rfl⟩ := hs
  obtain ⟨fuel, hf⟩ := h
  exact came_of_trod hf
end
end Go.Proofs.Ythepcoifcoinoaa

namespace Go.Proofs.Ythepcoifcoinoaa
open Go.ChangeShapes Go.WideShapes Go.RowKit Go.Joins

section
variable {H : Type} {enc : TypeId × Value → H} {W : World}
theorem undI64 : Try.prog.underlying 2 = some (.int .i64) := by kernel_rfl
theorem undKind : Try.prog.underlying 24 = some (.int .i64) := by kernel_rfl
set_option maxRecDepth 100000 in
theorem open_page {base : Nat} {v : Value} {d : DataW H} {p : List MemPlace} (hv : Value.okWide Try.prog W .any base 26 v) (h : DataW.Trod enc Try.prog W 0 (fun _ => true) true 26 v d p) :
    ∃ k t n A c l, v = .agg #[.int .i64 k, .int .i64 t, .int .i64 n, .slice A l.length c] ∧ Came W A c l := by
  obtain ⟨v0, v1, v2, v3, y0, y1, y2, y3, m, rfl, _, _, h0, h1, h2, h3⟩ := open_agg4 Try.underlying26 (by kernel_rfl) (by kernel_rfl) hv h
  obtain ⟨k, e0, _, _⟩ := DataW.trod_int undKind h0
  obtain ⟨t, e1, _, _⟩ := DataW.trod_int undI64 h1
  obtain ⟨n, e2, _, _⟩ := DataW.trod_int undI64 h2
  obtain ⟨A, c, l, rfl, hC⟩ := came_of_trod h3
  injection e0 with e0
  injection e1 with e1
  injection e2 with e2
  subst e0 e1 e2
  exact ⟨k, t, n, A, c, l, rfl, hC⟩
end
end Go.Proofs.Ythepcoifcoinoaa

namespace Go.Proofs.Ythepcoifcoinoaa
open Go.ChangeShapes Go.WideShapes Go.RowKit Go.Joins

section
variable {H : Type} {enc : TypeId × Value → H} {W : World}
set_option maxRecDepth 100000 in
theorem open_meta {base : Nat} {v : Value} {d : DataW H} {p : List MemPlace} (hv : Value.okWide Try.prog W .any base 49 v) (h : DataW.Trod enc Try.prog W 0 (fun _ => true) true 49 v d p) :
    ∃ t r f h : Int, v = .agg #[.int .i64 t, .int .i64 r, .int .i64 f, .int .i64 h] := by
  obtain ⟨v0, v1, v2, v3, y0, y1, y2, y3, m, rfl, _, _, h0, h1, h2, h3⟩ := open_agg4 Try.underlying49 (by kernel_rfl) (by kernel_rfl) hv h
  obtain ⟨a, e0, _, _⟩ := DataW.trod_int undI64 h0
  obtain ⟨b, e1, _, _⟩ := DataW.trod_int undI64 h1
  obtain ⟨c, e2, _, _⟩ := DataW.trod_int undI64 h2
  obtain ⟨e, e3, _, _⟩ := DataW.trod_int undI64 h3
  injection e0 with e0
  injection e1 with e1
  injection e2 with e2
  injection e3 with e3
  subst e0 e1 e2 e3
  exact ⟨a, b, c, e, rfl⟩
end
end Go.Proofs.Ythepcoifcoinoaa
