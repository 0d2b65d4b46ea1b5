/- Layer 2: the statements' own bytes. -/
import Derived.Test.YtehlabdbbbbopaaPa25
import Derived.Test.YtehlabdbbbbopaaPa26

namespace Go.Proofs.Ytehlabdbbbbopaa
open Go.RowKit Go.Maps

/-- Cells set one behind the other. -/
def setsTo (n k : Nat) (x : UInt8) : List UInt8 := List.replicate k x ++ List.replicate (n - k) 0
theorem setsTo_length {n k : Nat} (h : k ≤ n) (x : UInt8) : (setsTo n k x).length = n := by simp [setsTo]; omega
theorem setsTo_zero (n : Nat) (x : UInt8) : setsTo n 0 x = List.replicate n 0 := by simp [setsTo]
theorem setsTo_full (n : Nat) (x : UInt8) : setsTo n n x = List.replicate n x := by simp [setsTo]
theorem setsTo_step {n k : Nat} (h : k < n) (x : UInt8) : (setsTo n k x).set k x = setsTo n (k + 1) x := by
  unfold setsTo
  refine List.ext_getElem? fun i => ?_
  rw [List.getElem?_set]
  simp only [List.getElem?_append, List.length_replicate, List.getElem?_replicate, List.length_append]
  by_cases h1 : k = i
  · subst h1
    simp
    omega
  · by_cases h2 : i < k
    · simp [h1, h2, show i < k + 1 by omega]
    · have h3 : ¬ i < k + 1 := by omega
      simp only [h1, h2, h3, if_false]
      by_cases h4 : i - k < n - k
      · simp [h4, show i - (k + 1) < n - (k + 1) by omega]
      · simp [h4, show ¬ i - (k + 1) < n - (k + 1) by omega]
theorem row_own {w : World} {b base : Nat} {l : List UInt8} (h : Row w b 5 (leafC l)) (hb : base ≤ b) (hl : l.length ≤ 1000000) : Owned w base (.slice (some ⟨b, 0, none⟩) l.length l.length) l :=
  ⟨by simp, .inr ⟨b, l.length, leafC l, by simp, hb, h, by simp, by simp [maxLen]; omega, by simp [leafC_size], by rw [leafC_list, List.take_of_length_le (by simp)]⟩⟩
theorem leafC_set (l : List UInt8) (i : Nat) (x : UInt8) : (leafC l).setIfInBounds i (byteV x) = leafC (l.set i x) := by
  simp [leafC, List.map_set]
theorem made_zero (n : Nat) : madeCells (Value.int .u8 0).cells n = leafC (List.replicate n 0) := by
  unfold madeCells leafC
  refine Array.ext (by simp) fun i h1 h2 => ?_
  simp [byteV, Value.cells, Nat.mod_one]
theorem mk_bytes (w : World) (n : Nat) (hn : n ≤ 1000000) : (Instr.makeSlice 32 (.int .i64 (n : Int)) (.int .i64 (n : Int))).run Try.prog w = .ok (.slice (some ⟨w.heap.size, 0, none⟩) n n) (w.alloc (.cells (leafC (List.replicate n 0)) 5)) := by
  obtain ⟨i0, hi, hz0, hz1, hz2⟩ := info_parts infoByte
  have := run_makeSlice (P := Try.prog) w 32 5 i0 (.int .u8 0) undBytes hi hz0 .i64 .i64 n n (by omega) (Int.le_refl _) (by rw [hz1]; omega) (by rw [hz2]; omega) (by omega)
  rw [hz1, Nat.mul_one, Int.toNat_natCast, made_zero] at this
  exact this
set_option maxRecDepth 100000 in
set_option maxHeartbeats 1000000 in
theorem all_any (w : World) (x : UInt8) : Calls Try.prog 14 #[byteV x] w fun e w' => ∃ b, e = .returned (.slice (some ⟨b, 0, none⟩) 256 256) ∧ w.heap.size ≤ b ∧ Row w' b 5 (leafC (List.replicate 256 x)) ∧ Keeps w w' [] := by
  unfold byteV
  obtain ⟨n, hn⟩ : ∃ n : Int, n = (x.toNat : Int) := ⟨_, rfl⟩
  rw [← hn]
  have HX := Lib.hid (show Value.int .u8 n = byteV x by rw [hn]; rfl)
  clear hn
  obtain ⟨Z, hZ⟩ : ∃ Z, leafC (List.replicate 256 0) = Z := ⟨_, rfl⟩
  have hmk : ∀ w : World, (Instr.makeSlice 32 (.int .i64 256) (.int .i64 256)).run Try.prog w = .ok (.slice (some ⟨w.heap.size, 0, none⟩) 256 256) (w.alloc (.cells (leafC (List.replicate 256 0)) 5)) := fun w => mk_bytes w 256 (by omega)
  rw [hZ] at hmk
  go_enter Try.func14, Try.ntmps14
  go_wp2_with fail
  have HP := Lib.hid (show Row (w.alloc (.cells Z 5)) w.heap.size 5 (leafC (setsTo 256 0 x)) ∧ Keeps w (w.alloc (.cells Z 5)) [] from ⟨by rw [setsTo_zero, hZ]; exact Row.new _ _ _, Keeps.alloc _ _⟩)
  clear hZ hmk
  go_loopw [4] (fun i wr => ∃ k : Nat, k ≤ 256 ∧ i = .int .i64 k ∧ Hid (Row wr w.heap.size 5 (leafC (setsTo 256 k x)) ∧ Keeps w wr [])) (fun i _ => 256 - (intOf i).toNat)
  case atStart => exact ⟨0, by omega, rfl, HP⟩
  case round =>
    clear HP
    obtain ⟨k, hk, rfl, HR⟩ := hrel
    by_cases hkl : k < 256
    · have hc : wr.cell? ⟨w.heap.size, k, none⟩ = some (byteV ((setsTo 256 k x)[k]'(by rw [setsTo_length hk]; exact hkl))) := by rw [HR.out.1.cell]; simp [leafC, setsTo_length hk, hkl]
      have hz := HR.out.1.frozen k
      unfold byteV at hc
      go_wp2_with fail
      have h1 := HR.out.1.store k (.int .u8 n)
      rw [HX.out, leafC_set, setsTo_step hkl] at h1
      exact ⟨⟨k + 1, by omega, by go_num, Lib.hid ⟨by rw [HX.out]; exact h1, HR.out.2.trans (Keeps.setCell _ _ _) (fun y hy hlt => by simp at hy; omega)⟩⟩, by simp [intOf]; omega⟩
    · obtain rfl : k = 256 := by omega
      go_wp2_with fail
      go_ret
      exact ⟨_, rfl, Nat.le_refl _, by have := HR.out.1; rwa [setsTo_full] at this, HR.out.2⟩
end Go.Proofs.Ytehlabdbbbbopaa
