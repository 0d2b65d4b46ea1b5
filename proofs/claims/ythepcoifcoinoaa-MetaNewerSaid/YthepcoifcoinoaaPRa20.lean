/- Walks over the references of layers 3 and 4: a number's bytes, and back. Walks over the references of layers 3 and 4: a number read. -/
import Derived.Test.YthepcoifcoinoaaPRa7

namespace Go.Proofs.Ythepcoifcoinoaa
open Go.RowKit

theorem toBE_front (j n : Nat) : toBE (j + 1) n = UInt8.ofNat (n / 256 ^ j) :: toBE j n := by
  induction j generalizing n with
  | zero => simp [toBE, ofNat_mod]
  | succ j ih =>
    rw [toBE, ih (n / 256)]
    rw [show toBE (j + 1) n = toBE j (n / 256) ++ [UInt8.ofNat (n % 256)] from rfl]
    simp only [List.cons_append]
    congr 2
    rw [Nat.div_div_eq_div_mul, Nat.pow_succ, Nat.mul_comm]

/-- So many noughts, and behind them the last digits. -/
def half (k j n : Nat) : List UInt8 := List.replicate (k - j) 0 ++ toBE j n
theorem half_length (k j n : Nat) (h : j ≤ k) : (half k j n).length = k := by simp [half, toBE_length]; omega
theorem half_set (k j n : Nat) (h : j < k) : (half k j n).set (k - 1 - j) (UInt8.ofNat (n / 256 ^ j)) = half k (j + 1) n := by
  unfold half
  rw [toBE_front, show k - j = (k - (j + 1)) + 1 by omega, List.replicate_succ', List.append_assoc]
  rw [List.set_append_right _ _ (by simp; omega)]
  simp [show k - 1 - j - (k - (j + 1)) = 0 by omega]

set_option maxRecDepth 100000 in
set_option maxHeartbeats 2000000 in
theorem refNumber_any (w : World) (n k : Nat) (hk1 : 1 ≤ k) (hk8 : k ≤ 8) (hn : n < 18446744073709551616) :
    Calls Try.prog 60 #[.int .u64 n, .int .i64 k] w fun e w' =>
      ∃ v, e = .returned (.tuple #[v, .bool (decide (n / 256 ^ k = 0))]) ∧ Owned w' w.heap.size v (toBE k n) ∧ Keeps w w' [] := by
  obtain ⟨i0, hi, hz0, hz1, hz2⟩ := info_parts infoByte
  have b1 : decide ((k : Int) < 1) = false := by simp; omega
  have b2 : decide ((8 : Int) < (k : Int)) = false := by simp; omega
  go_enter Try.func60, Try.ntmps60
  go_wp2_with (at_make; refine wpList_make_full _ rfl (.tmp 14) (.tmp 14) 22 rfl w.heap.size 5 i0 (.int .u8 0) 1 undBytes hi hz0 hz1 .i64 .i64 (k : Int) (k : Int) k rfl rfl rfl rfl (by rw [hz2]; omega) (by simp [maxLen]; omega) (Nat.le_refl _) ?_; intro w1 hown hg; have HO := Lib.hid (And.intro hown hg); clear hown hg)
  go_loopw [0, 7] (fun t i wr => ∃ j : Nat, j ≤ k ∧ i = .int .i64 ((k : Int) - 1 - j) ∧ t = .int .u64 (n / 256 ^ j : Nat) ∧ wr.ownsRow w.heap.size 5 1 (.slice (some ⟨w.heap.size, 0, none⟩) k k) k ((half k j n).map byteV) ∧ Keeps w wr []) (fun _ i _ => ((intOf i) + 1).toNat)
  case atStart =>
    refine ⟨0, by omega, by simp, by simp, ?_, Keeps.of_grown HO.out.2⟩
    have := HO.out.1
    rw [show (madeCells (Value.int .u8 0).cells (k * 1)).toList = (half k 0 n).map byteV by
      rw [Nat.mul_one]
      show (madeCells #[Value.int .u8 0] k).toList = _
      rw [toList_madeCells_one]
      simp [half, toBE, byteV]] at this
    exact this
  case round =>
    obtain ⟨j, hj, rfl, rfl, ho, hkp⟩ := hrel
    by_cases hjk : j < k
    · have hcell : wr.cell? ⟨w.heap.size, k - 1 - j, none⟩ = some (((half k j n).map byteV)[k - 1 - j]'(by rw [List.length_map, half_length _ _ _ hj]; omega)) := by
        rw [ho.cellAt (k - 1 - j) (by omega)]
        exact List.getElem?_eq_getElem _
      obtain ⟨v0, hcell⟩ : ∃ v, wr.cell? ⟨w.heap.size, k - 1 - j, none⟩ = some v := ⟨_, hcell⟩
      have hfr := ho.frozenAt (k - 1 - j)
      have HO := Lib.hid (And.intro ho hkp)
      clear ho hkp
      have hd : decide ((0 : Int) ≤ (k : Int) - 1 - j) = true := by simp; omega
      have hn2 : n / 256 ^ j < 18446744073709551616 := Nat.lt_of_le_of_lt (Nat.div_le_self _ _) hn
      have HS := Lib.hid (half_set k j n hjk)
      have HD := Lib.hid (show n / 256 ^ (j + 1) = n / 256 ^ j / 256 by rw [Nat.pow_succ, Nat.div_div_eq_div_mul])
      generalize n / 256 ^ j = M at *
      go_wp2
      refine ⟨⟨j + 1, by omega, congrArg (Value.int .i64) (by push_cast; omega), ?_, ?_, ?_⟩, by simp [intOf]; omega⟩
      · rw [HD.out]; rfl
      · have hst := (HO.out.1.stored (k - 1 - j) (byteV (UInt8.ofNat M))).1
        rw [← List.map_set, HS.out] at hst
        have hbv : byteV (UInt8.ofNat M) = .int .u8 ((M : Int) % 256) := by
          unfold byteV
          rw [UInt8.toNat_ofNat']
          rfl
        rw [hbv] at hst
        exact hst
      · exact (HO.out.2.weaken (T := [w.heap.size]) (by simp)).trans (Keeps.setCell _ _ _) (by simp) |>.weaken (fun x hx hl => by simp at hx; omega)
    · obtain rfl : j = k := by omega
      have HO := Lib.hid (And.intro ho hkp)
      clear ho hkp
      have hd : decide ((0 : Int) ≤ (j : Int) - 1 - j) = false := by simp; omega
      go_wp2
      go_ret2
      have ho := HO.out.1
      rw [show half j j n = toBE j n by simp [half]] at ho
      refine ⟨.slice (some ⟨w.heap.size, 0, none⟩) j j, ?_, ?_, HO.out.2⟩
      · have : (((n : Int) / 256 ^ j) == 0) = decide (n / 256 ^ j = 0) := by
          have h1 : (n : Int) / 256 ^ j = ((n / 256 ^ j : Nat) : Int) := by rw [Int.natCast_ediv, Int.natCast_pow]; rfl
          rw [h1]
          generalize n / 256 ^ j = M
          rw [Bool.eq_iff_iff]; simp
        simp [this]
      · unfold Owned
        rw [toBE_length]
        exact ho

set_option maxRecDepth 100000 in
set_option maxHeartbeats 1000000 in
theorem number_any (w : World) (n k : Nat) (hk1 : 1 ≤ k) (hk8 : k ≤ 8) (hn : n < 9223372036854775808) :
    Calls Try.prog 51 #[.int .i64 n, .int .i64 k] w fun e w' => ∃ v, e = .returned v ∧ Owned w' w.heap.size v (toBE k n) ∧ Keeps w w' [] := by
  go_enter Try.func51, Try.ntmps51
  go_wp2_with fail
  refine (refNumber_any _ n k hk1 hk8 (by omega)).mono ?_
  rintro e w1 ⟨v, rfl, ho, hk⟩
  have HO := Lib.hid (And.intro ho hk)
  clear ho hk
  go_wp2
  go_ret
  exact ⟨v, rfl, HO.out.1, HO.out.2⟩

theorem number_at (w : World) (N J : Int) (n k : Nat) (hN : N = n) (hJ : J = k) (hk1 : 1 ≤ k) (hk8 : k ≤ 8) (hn : n < 9223372036854775808) :
    Calls Try.prog 51 #[.int .i64 N, .int .i64 J] w fun e w' => ∃ A c l, e = .returned (.slice A l.length c) ∧ Hid (l = toBE k n) ∧ (l.length ≤ k ∧ k ≤ l.length) ∧ Owned w' w.heap.size (.slice A l.length c) l ∧ Keeps w w' [] := by
  subst hN hJ
  refine (number_any w n k hk1 hk8 hn).mono ?_
  rintro e w' ⟨v, rfl, ho, hk⟩
  obtain ⟨A, c, rfl, _, _⟩ := own_slice ho
  exact ⟨A, c, toBE k n, rfl, Lib.hid rfl, by rw [toBE_length]; omega, ho, hk⟩
end Go.Proofs.Ythepcoifcoinoaa

namespace Go.Proofs.Ythepcoifcoinoaa
open Go.RowKit

theorem be_step' (n b : Nat) : (256 * (n : Int) + (b : Int)) = ((n * 256 + b : Nat) : Int) := by omega

theorem beN_small (l : List UInt8) (h : l.length ≤ 7) : beN l < 72057594037927936 := by
  have h1 := beN_lt l
  have h3 : 256 ^ l.length ≤ 256 ^ 7 := Nat.pow_le_pow_right (by omega) h
  have h4 : (256 : Nat) ^ 7 = 72057594037927936 := by decide
  omega

set_option maxRecDepth 100000 in
set_option maxHeartbeats 1000000 in
theorem refReadNum_any (w : World) (A : Option Addr) (c k : Nat) (l : List UInt8) (hL : Lies w w.heap.size A (l.map byteV)) (_hc : l.length ≤ c) (_hcm : c ≤ maxLen) (hk8 : k ≤ 8) (hkl : k ≤ l.length) :
    Calls Try.prog 58 #[.slice A l.length c, .int .i64 k] w fun e w' => e = .returned (.tuple #[.int .u64 (beN (l.take k) : Nat), .bool true]) ∧ w = w' := by
  have HL := Lib.hid hL
  clear hL
  have hb : decide ((l.length : Int) < (k : Int)) = false := by simp; omega
  go_enter Try.func58, Try.ntmps58
  go_wp2
  go_loop [6, 7] (fun t i => ∃ j : Nat, j ≤ k ∧ i = .int .i64 j ∧ t = .int .u64 (beN (l.take j) : Nat)) (fun _ i => k - (intOf i).toNat)
  case atStart => exact ⟨0, by omega, rfl, rfl⟩
  case round =>
    obtain ⟨j, hj, rfl, rfl⟩ := hrel
    by_cases hjk : j < k
    · have hjl : j < l.length := by omega
      obtain ⟨b, o, rfl, hb, hcx⟩ := HL.out.at_ (k := j) (by simpa using hjl)
      rw [byteV_get l hjl] at hcx
      have hsucc : beN (l.take (j + 1)) = beN (l.take j) * 256 + l[j].toNat := by rw [List.take_succ_eq_append_getElem hjl, beN_snoc]
      have hn : beN (l.take j) < 72057594037927936 := beN_small _ (by rw [List.length_take]; omega)
      have hx : l[j].toNat < 256 := l[j].toNat_lt
      generalize l[j].toNat = x at *
      generalize beN (l.take j) = M at *
      have HS := Lib.hid hsucc
      clear hsucc
      have HB := Lib.hid (be_step' M x)
      go_wp2
      refine ⟨⟨j + 1, by omega, by go_num, ?_⟩, by simp [intOf]; omega⟩
      rw [HS.out, ← HB.out]
    · obtain rfl : j = k := by omega
      go_wp2
      go_ret2
      exact ⟨rfl, rfl⟩

set_option maxRecDepth 100000 in
set_option maxHeartbeats 1000000 in
theorem readAt_any (w : World) (A : Option Addr) (c at_ k : Nat) (l : List UInt8) (hL : Lies w w.heap.size A (l.map byteV)) (hc : l.length ≤ c) (hcm : c ≤ maxLen) (hk1 : 1 ≤ k) (hk8 : k ≤ 8) (hkl : at_ + k ≤ l.length) :
    Calls Try.prog 46 #[.slice A l.length c, .int .i64 at_, .int .i64 k] w fun e w' => e = .returned (.int .i64 (wrap64 (beN ((l.drop at_).take k) : Nat))) ∧ w = w' := by
  have hL2 := hL.cut (k := at_) (cap := c) (by simpa using hc)
  have hne : ¬ c = at_ := by omega
  rw [← List.map_drop, if_neg hne] at hL2
  have HL := Lib.hid hL2
  clear hL hL2
  have hlen : (l.drop at_).length = l.length - at_ := by simp
  have HN := Lib.hid hlen
  have h1 : at_ ≤ l.length := by omega
  have hcm' : c ≤ 9223372036854775807 := by simpa [maxLen] using hcm
  go_enter Try.func46, Try.ntmps46
  go_wp2_with fail
  rw [← HN.out]
  refine (refReadNum_any _ _ _ k (l.drop at_) HL.out (by rw [HN.out]; omega) (by omega) hk8 (by rw [HN.out]; omega)).mono ?_
  rintro e w1 ⟨rfl, rfl⟩
  go_wp2
  go_ret
  exact ⟨rfl, rfl⟩
end Go.Proofs.Ythepcoifcoinoaa
