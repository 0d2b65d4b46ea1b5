/- Walks: a copy of bytes. Facts on the types of bytes in this program. slices.Clone of bytes. -/
import Derived.Test.YtehlabdbbbbopaaProg
import Derived.Test.YtehlabdbbbbopaaPa0

namespace Go.Proofs.Ytehlabdbbbbopaa
open Go.RowKit

theorem infoByte : (Try.prog.info? 5).map (fun i => (i.zero, i.size, i.bytes)) = some (some (.int .u8 0), 1, 1) := by kernel_rfl
theorem undBytes : Try.prog.underlying 32 = some (.slice 5) := by kernel_rfl

/-- The slice value v reads as the bytes l. -/
def Bytes (w : World) (B : Nat) (v : Value) (l : List UInt8) : Prop :=
  ∃ A c, v = .slice A l.length c ∧ l.length ≤ c ∧ (A = none → c = 0) ∧ c ≤ maxLen ∧ l.length ≤ 140737488351232 ∧ Lies w B A (l.map byteV)

/-- v is a row of the call's own (from block base on) that reads as the bytes l. -/
abbrev Owned (w : World) (base : Nat) (v : Value) (l : List UInt8) : Prop := w.ownsRow base 5 1 v l.length (l.map byteV)

theorem Bytes.below {w w' : World} {B : Nat} {v : Value} {l : List UInt8} (h : Bytes w B v l) (hb : Below B w w') : Bytes w' B v l := by
  obtain ⟨A, c, h1, h2, h3, h4, h5, h6⟩ := h
  exact ⟨A, c, h1, h2, h3, h4, h5, h6.below hb⟩
theorem Bytes.lies {w : World} {B n c : Nat} {A : Option Addr} {l : List UInt8} (h : Bytes w B (.slice A n c) l) : Lies w B A (l.map byteV) := by
  obtain ⟨A', c', h1, h2, h3, h4, h5, h6⟩ := h
  injection h1 with e1 e2 e3
  subst e1
  exact h6
theorem Bytes.mono {w : World} {B B' : Nat} {v : Value} {l : List UInt8} (h : Bytes w B v l) (hB : B ≤ B') : Bytes w B' v l := by
  obtain ⟨A, c, h1, h2, h3, h4, h5, h6⟩ := h
  exact ⟨A, c, h1, h2, h3, h4, h5, h6.mono hB⟩
theorem Bytes.len {w : World} {B : Nat} {v : Value} {l : List UInt8} (h : Bytes w B v l) : l.length ≤ 140737488351232 := by
  obtain ⟨A, c, h1, h2, h3, h4, h5, h6⟩ := h
  exact h5
theorem Owned.bytes {w : World} {base : Nat} {v : Value} {l : List UInt8} (h : Owned w base v l) (hl : l.length ≤ 140737488351232) : Bytes w w.heap.size v l := by
  obtain ⟨A, c, rfl, h1, h2⟩ := own_slice h
  refine ⟨A, c, rfl, h1, ?_, h2, hl, Lies.of_own h⟩
  rintro rfl
  rcases h.2 with ⟨hv, _⟩ | ⟨g, cap, cur, hv, _⟩
  · injection hv
  · cases hv
theorem Owned.block {w : World} {base n c : Nat} {ad : Addr} {l : List UInt8} (h : w.ownsRow base 5 1 (.slice (some ad) n c) n (l.map byteV)) : base ≤ ad.block ∧ ad.block < w.heap.size := h.lt _ rfl
theorem Owned.parts {w : World} {base : Nat} {v : Value} {l : List UInt8} (h : Owned w base v l) : ∃ A c, v = .slice A l.length c ∧ l.length ≤ c ∧ c ≤ maxLen ∧ (A = none → c = 0) ∧ Lies w w.heap.size A (l.map byteV) := by
  obtain ⟨A, c, rfl, h1, h2⟩ := own_slice h
  refine ⟨A, c, rfl, h1, h2, ?_, Lies.of_own h⟩
  rintro rfl
  rcases h.2 with ⟨hv, _⟩ | ⟨g, cap, cur, hv, _⟩
  · injection hv
  · cases hv

theorem run_empty_own (w : World) (base : Nat) (hb : base ≤ w.heap.size) : (w.alloc (.cells #[] 5)).ownsRow base 5 1 (.slice (some ⟨w.heap.size, 0, none⟩) 0 0) 0 [] :=
  ⟨rfl, .inr ⟨w.heap.size, 0, #[], rfl, hb, heap_alloc_new w _, Nat.le_refl _, by simp [maxLen], rfl, rfl⟩⟩
end Go.Proofs.Ytehlabdbbbbopaa

namespace Go.Proofs.Ytehlabdbbbbopaa
open Go.RowKit

set_option maxRecDepth 100000 in
set_option maxHeartbeats 1000000 in
theorem clone_some (w : World) (ad : Addr) (c : Nat) (l : List UInt8) (hlen : l.length ≤ 140737488351232) (hL : Lies w w.heap.size (some ad) (l.map byteV)) :
    Calls Try.prog 39 #[.slice (some ad) l.length c] w fun e w' => ∃ v, e = .returned v ∧ Owned w' w.heap.size v l ∧ Keeps w w' [] := by
  have HL := Lib.hid hL
  clear hL
  obtain ⟨i0, hi, hz0, hz1, hz2⟩ := info_parts infoByte
  go_enter Try.func39, Try.ntmps39
  have hnil : ∀ w : World, (binOp .eql 32 (.slice (some ad) l.length c) (.slice none 0 0)).run Try.prog w = .ok (.bool false) w := fun w => Lib.run_eql_slice_nil w _ _ _ _ _ _ _ undBytes
  go_wp2_with (at_builtin; refine wpList_append_lies' _ rfl (.tmp 5) (.tmp 6) 32 rfl w.heap.size 5 i0 (.int .u8 0) 1 undBytes hi hz0 hz1 hz2 rfl (.slice (some ⟨w.heap.size, 0, none⟩) 0 0) 0 [] rfl (run_empty_own w w.heap.size (Nat.le_refl _)) w.heap.size (some ad) l.length c (l.map byteV) rfl (by simp) (HL.out.below ((Below.refl _ _).alloc (Nat.le_refl _) _)) (byteV_one l) (by simp [maxLen]; omega) (by omega) (by simp) ?_; intro v' w1 hown hg hb)
  have HO := Lib.hid (And.intro hown hg)
  clear hown hg
  go_wp2
  go_ret
  refine ⟨v', rfl, by simpa using HO.out.1, (Keeps.alloc _ _).trans (Keeps.of_grown HO.out.2) (by simp [Value.ownBlock])⟩

set_option maxRecDepth 100000 in
set_option maxHeartbeats 1000000 in
theorem clone_nil (w : World) :
    Calls Try.prog 39 #[.slice none 0 0] w fun e w' => e = .returned (.slice none 0 0) ∧ w = w' := by
  have hnil : ∀ w : World, (binOp .eql 32 (.slice none 0 0) (.slice none 0 0)).run Try.prog w = .ok (.bool true) w := fun w => Lib.run_eql_slice_nil w _ _ _ _ _ _ _ undBytes
  go_enter Try.func39, Try.ntmps39
  go_wp2
  go_ret
  exact ⟨rfl, rfl⟩

theorem clone_any (w : World) (v : Value) (l : List UInt8) (h : Bytes w w.heap.size v l) :
    Calls Try.prog 39 #[v] w fun e w' => ∃ v', e = .returned v' ∧ Owned w' w.heap.size v' l ∧ Keeps w w' [] := by
  obtain ⟨A, c, rfl, hc, hnil, hcm, hlen, hL⟩ := h
  rcases A with _ | ad
  · obtain rfl := hnil rfl
    have hl : l = [] := List.eq_nil_of_length_eq_zero (by omega)
    subst hl
    refine (clone_nil w).mono ?_
    rintro e w' ⟨rfl, rfl⟩
    exact ⟨_, rfl, World.ownsRow_nil _ _ _ _, Keeps.refl _ _⟩
  · exact clone_some w ad c l (by omega) hL
end Go.Proofs.Ytehlabdbbbbopaa
