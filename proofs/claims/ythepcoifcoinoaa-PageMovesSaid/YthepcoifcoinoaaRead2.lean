/- Walks over package wire (layer 3): a number read; the rest. -/
import Derived.Test.YthepcoifcoinoaaRead1
import Derived.Test.YthepcoifcoinoaaMath
namespace Go.Proofs.Ythepcoifcoinoaa
open Go.RowKit

def withinB (n a b : Int) : Bool := decide (a ≤ n) && decide (n ≤ b)

set_option maxRecDepth 100000 in
set_option maxHeartbeats 400000 in
theorem wide_any (n : Int) (w : World) :
    Calls Try.prog 62 #[.int .i64 n] w fun e w' => e = .returned (.bool (withinB n 1 8)) ∧ w = w' := by
  by_cases h : 1 ≤ n <;> by_cases h2 : n ≤ 8
  all_goals
    go_enter Try.func62, Try.ntmps62
    go_wp2
    go_ret
    exact ⟨by simp [withinB, h, h2], rfl⟩

set_option maxRecDepth 100000 in
set_option maxHeartbeats 2000000 in
theorem rdNumber_any (w : World) (base r k : Nat) (l : List UInt8) (h : Rd w base r l) (hk1 : 1 ≤ k) (hk8 : k ≤ 8) (hkl : k ≤ l.length) :
    Calls Try.prog 39 #[.pointer (some ⟨r, 0, none⟩), .int .i64 k] w fun e w' =>
      e = .returned (.tuple #[.int .u64 (beN (l.take k) : Nat), .int .i64 0]) ∧ Rd w' base r (l.drop k) ∧ Keeps w w' [r] := by
  obtain ⟨A, c, hr, hbr, hc, hnil, hcm, hL, had⟩ := h
  have hlt := hr.lt
  have HR := Lib.hid hr
  have HL := Lib.hid (And.intro hL (And.intro hnil had))
  clear hr hL hnil had
  have hw : withinB (k : Int) 1 8 = true := by simp [withinB]; omega
  go_enter Try.func39, Try.ntmps39
  go_wp2_with fail
  refine (rdNone_any _ _ _ HR.out).mono ?_
  rintro e w1 ⟨rfl, rfl⟩
  go_wp2_with fail
  refine (wide_any _ _).mono ?_
  rintro e w1 ⟨rfl, rfl⟩
  rw [hw]
  clear hw
  go_wp2_with fail
  refine (rdTake_any _ _).mono ?_
  rintro e w1 ⟨rfl, rfl⟩
  go_wp2_with fail
  refine (rdTake1_any _ r w.heap.size k l.length c A (HR.out.alloc _) (by simp [World.cell?_alloc_new]) hkl hc hcm).mono ?_
  rintro e w2 ⟨rfl, hw2⟩
  have hk2 : Keeps w w2 [r] := by
    subst hw2
    exact (((Keeps.alloc w _).weaken (T := [r]) (by simp)).trans (Keeps.setCell _ ⟨r, 0, none⟩ _) (by simp)).trans (Keeps.drew _) (by simp)
  have hr2 : Row w2 r 110 #[.slice (if c = k then A else A.map (·.add k)) (l.length - k) (c - k), .bool true] := by
    subst hw2
    exact ((HR.out.alloc _).store 0 _)
  have hL2 : Lies w2 w.heap.size A (l.map byteV) := HL.out.1.keep' hk2 (Nat.le_refl _) (fun b o e hm => by simp at hm; exact (HL.out.2.2 _ e).2 hm)
  have H2 := Lib.hid (And.intro hk2 (And.intro hr2 hL2))
  clear hk2 hr2 hL2 hw2
  go_wp2
  go_loop [8, 9, 27] (fun t _ i => ∃ j : Nat, j ≤ k ∧ i = .int .i64 j ∧ t = .int .u64 (beN (l.take j) : Nat)) (fun _ _ i => k - (intOf i).toNat)
  case atStart => exact ⟨0, by omega, rfl, rfl⟩
  case round =>
    obtain ⟨j, hj, rfl, rfl⟩ := hrel
    by_cases hjk : j < k
    · have hjl : j < l.length := by omega
      obtain ⟨b, o, rfl, hb, hcx⟩ := H2.out.2.2.at_ (k := j) (by simpa using hjl)
      rw [byteV_get l hjl] at hcx
      have hsucc : beN (l.take (j + 1)) = beN (l.take j) * 256 + l[j].toNat := by rw [List.take_succ_eq_append_getElem hjl, beN_snoc]
      have hn : beN (l.take j) < 72057594037927936 := by
        have h1 := beN_lt (l.take j)
        have h2 : (l.take j).length ≤ 7 := by rw [List.length_take]; omega
        have h3 : 256 ^ (l.take j).length ≤ 256 ^ 7 := Nat.pow_le_pow_right (by omega) h2
        have h4 : (256 : Nat) ^ 7 = 72057594037927936 := by decide
        omega
      have hx : l[j].toNat < 256 := l[j].toNat_lt
      generalize l[j].toNat = x at *
      generalize beN (l.take j) = M at *
      have HS := Lib.hid hsucc
      clear hsucc
      have HB := Lib.hid (be_step M x hn hx)
      go_wp2
      exact ⟨⟨j + 1, by omega, by go_num, by rw [HB.out, HS.out]⟩, by simp [intOf]; omega⟩
    · obtain rfl : j = k := by omega
      go_wp2
      go_ret2
      refine ⟨rfl, ?_, H2.out.1⟩
      have hal : (if c = j then A else A.map (·.add j)) = none → c - j = 0 := by
        intro hn
        split at hn
        · omega
        · have : A = none := by simpa using hn
          have := HL.out.2.1 this
          omega
      have hll : (l.drop j).length = l.length - j := by simp
      refine ⟨_, c - j, by rw [hll]; exact H2.out.2.1, hbr, by rw [hll]; omega, hal, by omega, ?_, ?_⟩
      · have := H2.out.2.2.cut (k := j) (cap := c) (by simpa using hc)
        rw [List.map_drop]
        exact this.mono H2.out.1.size
      · intro ad had
        split at had
        · exact HL.out.2.2 ad had
        · cases A with
          | none => cases had
          | some a0 =>
            simp only [Option.map_some, Option.some.injEq] at had
            subst had
            have := HL.out.2.2 a0 rfl
            have hblk : (a0.add j).block = a0.block := by unfold Addr.add; split <;> rfl
            rw [hblk]; exact this

set_option maxRecDepth 100000 in
set_option maxHeartbeats 1000000 in
theorem rdRest_any (w : World) (base r : Nat) (l : List UInt8) (h : Rd w base r l) (hlen : l.length ≤ 140737488351232) :
    Calls Try.prog 41 #[.pointer (some ⟨r, 0, none⟩)] w fun e w' => ∃ v, e = .returned v ∧ Owned w' w.heap.size v l ∧ Keeps w w' [] := by
  obtain ⟨A, c, hr, hbr, hc, hnil, hcm, hL, had⟩ := h
  have h0 := hr.cell 0
  have HR := Lib.hid hr
  have HB := Lib.hid (show Bytes w w.heap.size (.slice A l.length c) l from ⟨A, c, rfl, hc, hnil, hcm, hlen, hL⟩)
  clear hr hL hnil had
  go_enter Try.func41, Try.ntmps41
  go_wp2_with fail
  refine (rdNone_any _ _ _ HR.out).mono ?_
  rintro e w1 ⟨rfl, rfl⟩
  go_wp2_with fail
  refine (clone_any _ _ _ HB.out).mono ?_
  rintro e w1 ⟨v', rfl, ho, hk⟩
  have HO := Lib.hid (And.intro ho hk)
  clear ho hk
  go_wp2
  go_ret
  exact ⟨v', rfl, HO.out.1, HO.out.2⟩
end Go.Proofs.Ythepcoifcoinoaa
