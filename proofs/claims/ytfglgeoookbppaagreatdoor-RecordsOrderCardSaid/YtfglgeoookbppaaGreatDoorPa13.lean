/- Package keys: Int, Float, Text; eight bytes; a number's bits. Package keys: eight bytes, laid. -/
import Derived.Test.YtfglgeoookbppaaGreatDoorPa11
import Derived.Test.YtfglgeoookbppaaGreatDoorPa12
import Derived.Laws.FloatBits

namespace Go.Proofs.YtfglgeoookbppaaGreatDoor
open Go.RowKit Ieee

theorem run_store_float {P : Program} {w : World} {a : Addr} {m : Mode} (k : FloatKind) (x : Nat) : (store a (.float k x) m).run P w = stored P w a (.float k x) m := run_store P w a _ m rfl

set_option maxRecDepth 100000 in
set_option maxHeartbeats 400000 in
theorem kInt_any (n : Int) (w : World) :
    Calls Tryz.prog 28 #[.int .i64 n] w fun e w' => e = .returned (.agg #[.int .i64 1, .int .i64 n, .float .f64 0, .string ⟨#[]⟩]) ∧ Keeps w w' [] := by
  have hsf := @run_store_float Tryz.prog
  go_enter Tryz.func28, Tryz.ntmps28
  go_wp2
  exact bodyPost_ret (v := .agg #[.int .i64 1, .int .i64 n, .float .f64 0, .string ⟨#[]⟩]) (by simp [results, Tryz.results28, go_sem]) rfl ⟨rfl, Keeps.alloc _ _⟩

set_option maxRecDepth 100000 in
set_option maxHeartbeats 400000 in
theorem kText_any (s : ByteArray) (w : World) :
    Calls Tryz.prog 62 #[.string s] w fun e w' => e = .returned (.agg #[.int .i64 3, .int .i64 0, .float .f64 0, .string s]) ∧ Keeps w w' [] := by
  have hsf := @run_store_float Tryz.prog
  go_enter Tryz.func62, Tryz.ntmps62
  go_wp2
  exact bodyPost_ret (v := .agg #[.int .i64 3, .int .i64 0, .float .f64 0, .string s]) (by simp [results, Tryz.results62, go_sem]) rfl ⟨rfl, Keeps.alloc _ _⟩

set_option maxRecDepth 100000 in
set_option maxHeartbeats 400000 in
theorem kFloat_any (x : Nat) (w : World) :
    Calls Tryz.prog 116 #[.float .f64 x] w fun e w' => e = .returned (.agg #[.int .i64 2, .int .i64 0, .float .f64 (wholeW x), .string ⟨#[]⟩]) ∧ Keeps w w' [] := by
  have hsf := @run_store_float Tryz.prog
  go_enter Tryz.func116, Tryz.ntmps116
  go_wp2_with (go_at_call 140; refine (kWhole_any _ _).mono ?_; rintro e w' ⟨rfl, rfl⟩)
  exact bodyPost_ret (v := .agg #[.int .i64 2, .int .i64 0, .float .f64 (wholeW x), .string ⟨#[]⟩]) (by simp [results, Tryz.results116, go_sem]) rfl ⟨rfl, Keeps.alloc _ _⟩
end Go.Proofs.YtfglgeoookbppaaGreatDoor

namespace Go.Proofs.YtfglgeoookbppaaGreatDoor
open Go.RowKit

set_option maxRecDepth 100000 in
set_option maxHeartbeats 2000000 in
theorem kLaid_any (w : World) (n : Nat) (_ : n < 18446744073709551616) :
    Calls Tryz.prog 107 #[.int .u64 n] w fun e w' => e = .returned (strV (toBE 8 n)) ∧ Keeps w w' [] := by
  obtain ⟨i0, hi, hz0, hz1, hz2⟩ := info_parts infoByte
  go_enter Tryz.func107, Tryz.ntmps107
  go_wp2_with (at_make; refine wpList_make_full _ rfl (.const (.int .i64 8)) (.const (.int .i64 8)) 39 rfl w.heap.size 5 i0 (.int .u8 0) 1 undBytes hi hz0 hz1 .i64 .i64 8 8 8 rfl rfl rfl rfl (by rw [hz2]; omega) (by simp [maxLen]) (Nat.le_refl _) ?_; intro w1 hown hg; have HO := Lib.hid (And.intro hown hg); clear hown hg)
  go_loopw [6] (fun i wr => ∃ j : Nat, j ≤ 8 ∧ i = .int .i64 j ∧ wr.ownsRow w.heap.size 5 1 (.slice (some ⟨w.heap.size, 0, none⟩) 8 8) 8 ((half 8 j n).map byteV) ∧ Keeps w wr []) (fun i _ => 8 - (intOf i).toNat)
  case atStart =>
    refine ⟨0, by omega, by simp, ?_, Keeps.of_grown HO.out.2⟩
    have := HO.out.1
    rw [show (madeCells (Value.int .u8 0).cells (8 * 1)).toList = (half 8 0 n).map byteV by
      show (madeCells #[Value.int .u8 0] 8).toList = _
      rw [toList_madeCells_one]
      simp [half, toBE, byteV]] at this
    exact this
  case round =>
    obtain ⟨j, hj, rfl, ho, hkp⟩ := hrel
    by_cases hjk : j < 8
    · obtain ⟨v0, hcell⟩ : ∃ v, wr.cell? ⟨w.heap.size, 7 - j, none⟩ = some v := ⟨_, by
        rw [ho.cellAt (7 - j) (by omega)]
        exact List.getElem?_eq_getElem (by rw [List.length_map, half_length _ _ _ hj]; omega)⟩
      have hfr := ho.frozenAt (7 - j)
      have HO := Lib.hid (And.intro ho hkp)
      clear ho hkp
      have HS := Lib.hid (half_set 8 j n hjk)
      have HD := Lib.hid (digit_val n j)
      have s1 : (7 : Int) - (j : Int) = ((7 - j : Nat) : Int) := by omega
      go_wp2
      refine ⟨⟨j + 1, by omega, congrArg (Value.int .i64) (by push_cast; omega), ?_, ?_⟩, by simp [intOf]; omega⟩
      · have hst := (HO.out.1.stored (7 - j) (byteV (UInt8.ofNat (n / 256 ^ j)))).1
        rw [← List.map_set, show 7 - j = 8 - 1 - j by omega, HS.out] at hst
        rw [HD.out, show 7 - j = 8 - 1 - j by omega]
        exact hst
      · exact (HO.out.2.weaken (T := [w.heap.size]) (by simp)).trans (Keeps.setCell _ _ _) (by simp) |>.weaken (fun x hx hl => by simp at hx; omega)
    · obtain rfl : j = 8 := by omega
      have hq : half 8 8 n = toBE 8 n := by simp [half]
      rw [hq] at ho
      have HC := Lib.hid (conv_str wr _ _ 8 (toBE 8 n) (Lies.of_own ho))
      clear hq
      have HK := Lib.hid hkp
      clear ho hkp
      have hc := HC.out
      rw [toBE_length] at hc
      go_wp2
      go_ret
      exact ⟨rfl, HK.out⟩
end Go.Proofs.YtfglgeoookbppaaGreatDoor
