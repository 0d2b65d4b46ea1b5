/- Layer 2: the bytes of a call. -/
import Derived.Test.YtehlabdbbbbopaaPa28

namespace Go.Proofs.Ytehlabdbbbbopaa
open Go.RowKit Go.Maps Go.Shelf

def actFill (byte : UInt8) (n : Nat) : List UInt8 := (List.range n).foldl (fun l i => l.set (64 * i) (UInt8.ofNat i)) (List.replicate 256 byte)
theorem actFill_length (byte : UInt8) (n : Nat) : (actFill byte n).length = 256 := by
  unfold actFill
  induction n with
  | zero => exact List.length_replicate ..
  | succ n ih => rw [List.range_succ, List.foldl_append, List.foldl_cons, List.foldl_nil, List.length_set, ih]
theorem actFill_succ (byte : UInt8) (n : Nat) : actFill byte (n + 1) = (actFill byte n).set (64 * n) (UInt8.ofNat n) := by
  unfold actFill
  rw [List.range_succ, List.foldl_append]
  rfl
/-- The bytes of a call. -/
def actBytes (page : Int) (byte : UInt8) : List UInt8 := if byte = 255 then List.replicate (max 0 (min page 300)).toNat 0 else actFill byte 4
theorem actBytes_le (page : Int) (byte : UInt8) : (actBytes page byte).length ≤ 300 := by
  unfold actBytes
  split
  · rw [List.length_replicate]; omega
  · rw [actFill_length]; omega
def ActPost (w : World) (page : Int) (byte : UInt8) (e : Ending) (w' : World) : Prop := ∃ b n, e = .returned (.slice (some ⟨b, 0, none⟩) n n) ∧ n = (actBytes page byte).length ∧ w.heap.size ≤ b ∧ Row w' b 5 (leafC (actBytes page byte)) ∧ Keeps w w' []
set_option maxRecDepth 100000 in
set_option maxHeartbeats 1000000 in
theorem bytes_any (w : World) (k page arm : Int) (byte : UInt8) (hp : -9223372036854775808 ≤ page ∧ page ≤ 9223372036854775807) : Calls Try.prog 18 #[.agg #[.int .i64 k, .int .i64 page, byteV byte, .int .i64 arm]] w (ActPost w page byte) := by
  by_cases h255 : byte = 255
  · subst h255
    rw [show byteV 255 = .int .u8 255 from rfl]
    obtain ⟨m, hm⟩ : ∃ m : Nat, max 0 (min page 300) = (m : Int) := ⟨(max 0 (min page 300)).toNat, by omega⟩
    have hm3 : m ≤ 300 := by omega
    have HB := Lib.hid (show actBytes page 255 = List.replicate m 0 by unfold actBytes; rw [if_pos rfl]; congr 1; omega)
    obtain ⟨Z, hZ⟩ : ∃ Z, leafC (List.replicate m 0) = Z := ⟨_, rfl⟩
    have hmk : ∀ w : World, (Instr.makeSlice 32 (.int .i64 (m : Int)) (.int .i64 (m : Int))).run Try.prog w = .ok (.slice (some ⟨w.heap.size, 0, none⟩) m m) (w.alloc (.cells (leafC (List.replicate m 0)) 5)) := fun w => mk_bytes w m (by omega)
    rw [hZ] at hmk
    have HZ := Lib.hid hZ
    clear hZ
    go_enter Try.func18, Try.ntmps18
    go_wp2_with fail
    go_ret
    have hk := Keeps.alloc (w.alloc (.cells #[.int .i64 k, .int .i64 page, .int .u8 255, .int .i64 arm] 39)) (.cells Z 5)
    have hr := Row.new (w.alloc (.cells #[.int .i64 k, .int .i64 page, .int .u8 255, .int .i64 arm] 39)) 5 Z
    rw [World.size_alloc] at hr
    exact ⟨_, m, rfl, by rw [HB.out, List.length_replicate], by omega, by rw [HB.out, HZ.out]; exact hr, (Keeps.alloc _ _).then_ hk⟩
  · have hne : ((byte.toNat : Int) == 255) = false := by
      rw [beq_eq_false_iff_ne]
      intro e
      refine h255 (UInt8.toNat.inj ?_)
      have : byte.toNat = 255 := by omega
      rw [this]
      rfl
    have HB := Lib.hid (show actBytes page byte = actFill byte 4 by unfold actBytes; rw [if_neg h255])
    unfold byteV
    obtain ⟨y, hy⟩ : ∃ y : Int, y = (byte.toNat : Int) := ⟨_, rfl⟩
    rw [← hy] at hne ⊢
    have HY := Lib.hid (show Value.int .u8 y = byteV byte by rw [hy]; rfl)
    clear hy h255
    go_enter Try.func18, Try.ntmps18
    go_wp2_with fail
    rw [HY.out]
    refine (all_any _ byte).mono ?_
    rintro e w1 ⟨b, rfl, hb, hr, hk⟩
    have HP := Lib.hid (show Row w1 b 5 (leafC (actFill byte 0)) ∧ Keeps w w1 [] from ⟨hr, (Keeps.alloc _ _).then_ hk⟩)
    have hb0 : w.heap.size ≤ b := by have := (Keeps.alloc w (.cells #[.int .i64 k, .int .i64 page, .int .u8 y, .int .i64 arm] 39)).size; rw [HY.out] at this; omega
    clear hb hr hk
    go_wp2_with fail
    go_loopw [4] (fun i wr => ∃ n : Nat, n ≤ 4 ∧ i = .int .i64 n ∧ Hid (Row wr b 5 (leafC (actFill byte n)) ∧ Keeps w wr [])) (fun i _ => 4 - (intOf i).toNat)
    case atStart => exact ⟨0, by omega, rfl, HP⟩
    case round =>
      clear HP
      obtain ⟨n, hn, rfl, HR⟩ := hrel
      by_cases hnl : n < 4
      · obtain ⟨a, ha⟩ : ∃ a : Nat, 64 * n = a := ⟨_, rfl⟩
        have hwa : IntKind.i64.wrap (64 * (n : Int)) = (a : Int) := by rw [IntWalk.i64_in _ (by omega)]; omega
        have ha2 : a < 256 := by omega
        have w8 : IntKind.u8.wrap (n : Int) = (n : Int) := IntWalk.u8_in _ (by omega)
        have hc := HR.out.1.cell a
        rw [show (leafC (actFill byte n))[a]? = some (byteV ((actFill byte n)[a]'(by rw [actFill_length]; exact ha2))) by simp [leafC, actFill_length, ha2]] at hc
        have hz := HR.out.1.frozen a
        have HA := Lib.hid ha
        clear ha
        unfold byteV at hc
        go_wp2_with fail
        have hv : Value.int .u8 (n : Int) = byteV (UInt8.ofNat n) := by unfold byteV; rw [UInt8.toNat_ofNat', Nat.mod_eq_of_lt (by omega)]
        have h1 := HR.out.1.store a (.int .u8 (n : Int))
        rw [hv, leafC_set, ← HA.out, ← actFill_succ, HA.out] at h1
        exact ⟨⟨n + 1, by omega, by go_num, Lib.hid ⟨by rw [hv]; exact h1, HR.out.2.trans (Keeps.setCell _ _ _) (fun y hy hlt => by simp at hy; omega)⟩⟩, by simp [intOf]; omega⟩
      · obtain rfl : n = 4 := by omega
        go_wp2_with fail
        go_ret
        exact ⟨b, 256, rfl, by rw [HB.out, actFill_length], hb0, by rw [HB.out]; exact HR.out.1, HR.out.2⟩
end Go.Proofs.Ytehlabdbbbbopaa
