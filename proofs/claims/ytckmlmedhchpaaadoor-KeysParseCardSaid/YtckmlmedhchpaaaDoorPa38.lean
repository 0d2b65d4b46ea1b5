/- Package pigeonryref18: eight. -/
import Derived.Test.YtckmlmedhchpaaaDoorPa12

namespace Go.Proofs.YtckmlmedhchpaaaDoor
open Go.RowKit

theorem div_u64 (M : Nat) (h : M < 18446744073709551616) : IntKind.u64.wrap (Int.tdiv (M : Int) 256) = ((M / 256 : Nat) : Int) := by
  rw [show Int.tdiv (M : Int) 256 = ((M / 256 : Nat) : Int) from rfl]
  exact IntWalk.u64_in _ (by omega)
theorem byte_mod (M : Nat) : Value.int .u8 (IntKind.u8.wrap (((M % 256 : Nat)) : Int)) = byteV (UInt8.ofNat M) := by
  have h : IntKind.u8.wrap (((M % 256 : Nat)) : Int) = ((M % 256 : Nat) : Int) := IntWalk.u8_in _ (by omega)
  rw [h]
  simp [byteV]
set_option maxRecDepth 100000 in
set_option maxHeartbeats 2000000 in
theorem refEight_any (w : World) (n : Nat) (hn : n < 18446744073709551616) :
    Calls Tryd.prog 56 #[.int .u64 n] w fun e w' => e = .returned (strV (toBE 8 n)) ∧ Keeps w w' [] := by
  obtain ⟨i0, hi, hz0, hz1, hz2⟩ := info_parts infoByte
  go_enter Tryd.func56, Tryd.ntmps56
  go_wp2_with (at_make; refine wpList_make_full _ rfl (.const (.int .i64 8)) (.const (.int .i64 8)) 75 rfl w.heap.size 5 i0 (.int .u8 0) 1 undBytes hi hz0 hz1 .i64 .i64 8 8 8 rfl rfl rfl rfl (by rw [hz2]; omega) (by simp [maxLen]) (Nat.le_refl _) ?_; intro w1 hown hg; have HO := Lib.hid (And.intro hown hg); clear hown hg)
  go_loopw [4, 0] (fun i q wr => ∃ j : Nat, j ≤ 8 ∧ i = .int .i64 (7 - (j : Int)) ∧ q = .int .u64 ((n / 256 ^ j : Nat) : Int) ∧ wr.ownsRow w.heap.size 5 1 (.slice (some ⟨w.heap.size, 0, none⟩) 8 8) 8 ((half 8 j n).map byteV) ∧ Keeps w wr []) (fun i _ _ => (intOf i + 1).toNat)
  case atStart =>
    refine ⟨0, by omega, by simp, by simp, ?_, Keeps.of_grown HO.out.2⟩
    have := HO.out.1
    rw [show (madeCells (Value.int .u8 0).cells (8 * 1)).toList = (half 8 0 n).map byteV by
      show (madeCells #[Value.int .u8 0] 8).toList = _
      rw [toList_madeCells_one]
      simp [half, toBE, byteV]] at this
    exact this
  case round =>
    obtain ⟨j, hj, rfl, rfl, ho, hkp⟩ := hrel
    by_cases hjk : j < 8
    · obtain ⟨v0, hcell⟩ : ∃ v, wr.cell? ⟨w.heap.size, 7 - j, none⟩ = some v := ⟨_, by
        rw [ho.cellAt (7 - j) (by omega)]
        exact List.getElem?_eq_getElem (by rw [List.length_map, half_length _ _ _ hj]; omega)⟩
      have hfr := ho.frozenAt (7 - j)
      have HO := Lib.hid (And.intro ho hkp)
      clear ho hkp
      have HS := Lib.hid (half_set 8 j n hjk)
      have s1 : (7 : Int) - (j : Int) = ((7 - j : Nat) : Int) := by omega
      rw [s1]
      obtain ⟨M, hM⟩ : ∃ M, n / 256 ^ j = M := ⟨_, rfl⟩
      rw [hM]
      have hM2 : M < 18446744073709551616 := by rw [← hM]; exact Nat.lt_of_le_of_lt (Nat.div_le_self _ _) hn
      have hM3 : n / 256 ^ (j + 1) = M / 256 := by rw [Nat.pow_succ, ← Nat.div_div_eq_div_mul, hM]
      have d1 := div_u64 M hM2
      have HB := Lib.hid (byte_mod M)
      have HM := Lib.hid (And.intro hM hM3)
      clear hM hM3
      go_wp2
      refine ⟨⟨j + 1, by omega, congrArg (Value.int .i64) (by omega), congrArg (Value.int .u64) ?_, ?_, ?_⟩, by simp only [intOf]; omega⟩
      · rw [HM.out.2]; rfl
      · have hst := (HO.out.1.stored (7 - j) (byteV (UInt8.ofNat (n / 256 ^ j)))).1
        rw [← List.map_set, show 7 - j = 8 - 1 - j by omega, HS.out] at hst
        have hb := HB.out
        rw [IntWalk.u8_in _ (by omega)] at hb
        rw [show ((M : Int) % 256) = ((M % 256 : Nat) : Int) from rfl, hb, ← HM.out.1, show 7 - j = 8 - 1 - j by omega]
        exact hst
      · exact (HO.out.2.weaken (T := [w.heap.size]) (by simp)).trans (Keeps.setCell _ _ _) (by simp) |>.weaken (fun x hx hl => by simp at hx; omega)
    · obtain rfl : j = 8 := by omega
      have hq : half 8 8 n = toBE 8 n := by simp [half]
      rw [hq] at ho
      have HC := Lib.hid (conv_str wr _ _ 8 (toBE 8 n) (Lies.of_own ho))
      clear hq
      have HK := Lib.hid hkp
      clear ho hkp
      have hc := HC.out
      rw [toBE_length] at hc
      go_wp2
      go_ret
      exact ⟨rfl, HK.out⟩
end Go.Proofs.YtckmlmedhchpaaaDoor
