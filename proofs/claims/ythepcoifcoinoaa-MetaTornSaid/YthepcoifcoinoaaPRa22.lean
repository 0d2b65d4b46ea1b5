/- Walks over the reference's Look (layer 4). -/
import Derived.Test.YthepcoifcoinoaaPRa19
import Derived.Test.YthepcoifcoinoaaPRa21
import Derived.BigRegion

namespace Go.Proofs.Ythepcoifcoinoaa
open Go.RowKit

theorem refLook_door (W : World) (t : Array Value) (b : Nat) (num k tx nx err : Int) (bv : Value) (h2 : t.getD 2 undef = .int .i64 num) (h3 : t.getD 3 undef = .pointer (some ⟨b, 0, none⟩)) (h4 : t.getD 4 undef = .int .i64 err)
    (r3 : Row W b 26 #[.int .i64 k, .int .i64 tx, .int .i64 nx, bv]) (R : Ending → World → Prop)
    (hR : R (.returned (.tuple #[.int .i64 num, .agg #[.int .i64 k, .int .i64 tx, .int .i64 nx, bv], .int .i64 err])) W) :
    bodyPost Try.prog Try.f15 R Exit.ret { tmps := t, defers := [] } W := by
  have c30 := r3.cell 0
  have c31 := r3.cell 1
  have c32 := r3.cell 2
  have c33 := r3.cell 3
  rw [Array.getD_eq_getD_getElem?] at h2 h3 h4
  simp at c30 c31 c32 c33
  refine bodyPost_ret (v := .tuple #[.int .i64 num, .agg #[.int .i64 k, .int .i64 tx, .int .i64 nx, bv], .int .i64 err]) ?_ rfl hR
  simp [results, Try.results15, go_sem, h2, h3, h4, c30, c31, c32, c33]

set_option maxRecDepth 100000 in
set_option maxHeartbeats 1000000 in
theorem refLook_len (w : World) (A : Option Addr) (len c : Nat) (h : ¬ len = 256) (_hlen : len ≤ 140737488351232) :
    Calls Try.prog 15 #[.slice A len c] w fun e w' => e = .returned (noLook 2) ∧ Keeps w w' [] := by
  have hb : (((len : Nat) : Int) != 256) = true := by simp; omega
  have hb2 : (((len : Nat) : Int) == 256) = false := by simp; omega
  clear h
  go_enter Try.func15, Try.ntmps15
  go_wp2_with fail
  exact refLook_door _ _ w.heap.size _ _ _ _ _ _ rfl rfl rfl (Row.new _ _ _) _ ⟨rfl, Keeps.alloc _ _⟩

theorem refSum_252 (w : World) (A : Option Addr) (c : Nat) (l : List UInt8) (hl : l.length = 252) (hc : 252 ≤ c) (hL : Lies w w.heap.size A (l.map byteV)) :
    Calls Try.prog 47 #[.slice A 252 c] w fun e w' => e = .returned (.int .u32 (crcSum l : Nat)) ∧ w = w' := by
  have := refSum_any w A c l (by omega) (by omega) hL
  rw [hl] at this
  exact this
theorem refRead_256 (w : World) (A : Option Addr) (c at_ k : Nat) (AT K : Int) (l : List UInt8) (hl : l.length = 256) (h1 : AT = at_) (h2 : K = k) (hL : Lies w w.heap.size A (l.map byteV)) (hc : 256 ≤ c) (hcm : c ≤ maxLen) (hk1 : 1 ≤ k) (hk8 : k ≤ 8) (hkl : at_ + k ≤ 256) :
    Calls Try.prog 46 #[.slice A 256 c, .int .i64 AT, .int .i64 K] w fun e w' => e = .returned (.int .i64 (wrap64 (beN ((l.drop at_).take k) : Nat))) ∧ w = w' := by
  subst h1 h2
  have := readAt_any w A c at_ k l hL (by omega) hcm hk1 hk8 (by omega)
  rw [hl] at this
  exact this

set_option maxRecDepth 100000 in
set_option maxHeartbeats 2000000 in
theorem refLook_sum (w : World) (A : Option Addr) (c : Nat) (l : List UInt8) (hB : Bytes w w.heap.size (.slice A l.length c) l) (hl : l.length = 256) (hs : ¬ beN (l.take 4) = crcSum (l.drop 4)) :
    Calls Try.prog 15 #[.slice A 256 c] w fun e w' => e = .returned (noLook 140) ∧ Keeps w w' [] := by
  have hc : 256 ≤ c ∧ c ≤ 9223372036854775807 := by
    obtain ⟨A', c', h1, h2, h3, h4, _⟩ := hB
    injection h1 with e1 e2 e3
    subst e3
    simp only [maxLen] at h4
    omega
  obtain ⟨hc1, hc2⟩ := hc
  have hcne : ¬ c = 4 := by omega
  have hb4 : beN (l.take 4) < 4294967296 := by
    have := beN_lt (l.take 4)
    rw [show (l.take 4).length = 4 by rw [List.length_take]; omega] at this
    exact this
  have hcs := crcSum_lt (l.drop 4)
  have HSUM := Lib.hid (show (((beN (l.take 4) : Nat) : Int) == ((crcSum (l.drop 4) : Nat) : Int)) = false by simp; omega)
  have HL := Lib.hid hl
  have HN := Lib.hid (show (l.drop 4).length = 252 by rw [List.length_drop]; omega)
  have HL0 := Lib.hid (show ∀ W : World, Keeps w W [] → Lies W W.heap.size A (l.map byteV) from fun W hk => (hB.lies.below (hk.below (Nat.le_refl _) (by simp))).mono hk.size)
  have HL4 := Lib.hid (show ∀ W : World, Keeps w W [] → Lies W W.heap.size (A.map fun x => ({ block := x.block, off := x.off + 4, spot := none } : Addr)) ((l.drop 4).map byteV) from fun W hk => by
    have hA4 : A.map (·.add 4) = (A.map fun x => ({ block := x.block, off := x.off + 4, spot := none } : Addr)) := by cases A <;> rfl
    rw [← hA4]
    have := (HL0.out W hk).cut (k := 4) (cap := c) (by simp; omega)
    rw [if_neg (by omega), ← List.map_drop] at this
    exact this)
  clear hB hl hs
  go_enter Try.func15, Try.ntmps15
  go_wp2_with fail
  go_region_with (first
    | (go_at_call 46; (refine (refRead_256 _ A c 0 4 0 4 l HL.out rfl rfl (HL0.out _ (by first | exact Keeps.alloc _ _ | exact (Keeps.alloc _ _).trans (Keeps.drew _) (by simp))) (by omega) (by simp [maxLen]; omega) (by omega) (by omega) (by omega)).mono ?_); rintro e w1 ⟨rfl, rfl⟩)
    | (go_at_call 47; (refine (refSum_252 _ (A.map fun x => ({ block := x.block, off := x.off + 4, spot := none } : Addr)) (c - 4) (l.drop 4) HN.out (by omega) (HL4.out _ (by first | exact Keeps.alloc _ _ | exact (Keeps.alloc _ _).trans (Keeps.drew _) (by simp)))).mono ?_); rintro e w1 ⟨rfl, rfl⟩))
  have hne : (wrap64 (beN (l.take 4) : Nat) != IntKind.i64.wrap ((crcSum (l.drop 4) : Nat) : Int)) = true := by rw [cast32 _ hb4, IntWalk.i64_in _ (by omega), bne, HSUM.out]; rfl
  have hk : Keeps w ((w.alloc (.cells #[.int .i64 0, .int .i64 0, .int .i64 0, .slice none 0 0] 26)).drew) [] := (Keeps.alloc _ _).trans (Keeps.drew _) (by simp)
  go_wp2_with fail
  exact refLook_door _ _ w.heap.size _ _ _ _ _ _ rfl rfl rfl ((Row.new w _ _).keep (Keeps.drew _) (by simp)) _ ⟨rfl, hk⟩
end Go.Proofs.Ythepcoifcoinoaa
