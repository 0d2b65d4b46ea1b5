/- What Parse and Counts answer, as values; runs of bytes that are nothing. The statement MetaCounts (layer 6): its walks. -/
import Derived.Test.YthepcoifcoinoaaPRa34

namespace Go.Proofs.Ythepcoifcoinoaa
open Go.RowKit

def mpV (n : Int) (l : List UInt8) : Value := if mpErr n l = 0 then mAgg l else mZero
theorem mpV_ints (n : Int) (l : List UInt8) : ∃ p0 p1 p2 p3 : Int, mpV n l = .agg #[.int .i64 p0, .int .i64 p1, .int .i64 p2, .int .i64 p3] := by
  unfold mpV
  split
  · exact ⟨_, _, _, _, rfl⟩
  · exact ⟨_, _, _, _, rfl⟩
theorem MParseDone.val {w : World} {n : Int} {l : List UInt8} {e : Ending} {w' : World} (h : MParseDone w n l e w') : e = .returned (.tuple #[mpV n l, .int .i64 (mpErr n l : Nat)]) ∧ Keeps w w' [] := by
  obtain ⟨hk, ⟨h0, rfl⟩ | ⟨h0, rfl⟩⟩ := h
  · exact ⟨by unfold mpV metaV; rw [if_pos h0, h0]; rfl, hk⟩
  · exact ⟨by unfold mpV metaV; rw [if_neg h0]; rfl, hk⟩
theorem bytes_nil (W : World) : Bytes W W.heap.size (.slice none ([] : List UInt8).length 0) [] := ⟨none, 0, rfl, by simp, fun _ => rfl, by simp [maxLen], by simp, Lies.nil _ _ _⟩
theorem mCounts_left (W : World) (base b o c : Nat) (l : List UInt8) (hF : Full W base b o c l) :
    Calls Try.prog 25 #[.slice (some ⟨b, o, none⟩) 256 c, .slice none 0 0] W fun e w' => e = .returned (.tuple #[mcV l [], .int .i64 (mcErr l [])]) ∧ Keeps W w' [] := by
  have hp := mCounts_any W (some ⟨b, o, none⟩) none c 0 l [] hF.bytes (bytes_nil W)
  rwa [hF.len] at hp
theorem mCounts_right (W : World) (base b o c : Nat) (l : List UInt8) (hF : Full W base b o c l) :
    Calls Try.prog 25 #[.slice none 0 0, .slice (some ⟨b, o, none⟩) 256 c] W fun e w' => e = .returned (.tuple #[mcV [] l, .int .i64 (mcErr [] l)]) ∧ Keeps W w' [] := by
  have hp := mCounts_any W none (some ⟨b, o, none⟩) 0 c [] l (bytes_nil W) hF.bytes
  rwa [hF.len] at hp
theorem mpErr_short (n : Int) {l : List UInt8} (h : l.length ≠ 256) : mpErr n l = 2 := mpErr_out (fun h' => h h'.2)

/-- Which of two counts, by their errors. -/
theorem mc_both {a b : List UInt8} (ha : mpErr 0 a = 0) (hb : mpErr 1 b = 0) : mcV a b = (if pgTxid a < pgTxid b then mAgg b else mAgg a) ∧ mcErr a b = 0 := by
  by_cases h : pgTxid a < pgTxid b <;> simp [mcV, mcErr, mcIs, mcB, ha, hb, h]
theorem mc_left {a b : List UInt8} (ha : mpErr 0 a = 0) (hb : mpErr 1 b ≠ 0) : mcV a b = mAgg a ∧ mcErr a b = 0 := by
  simp [mcV, mcErr, mcIs, mcB, ha, hb]
theorem mc_right {a b : List UInt8} (ha : mpErr 0 a ≠ 0) (hb : mpErr 1 b = 0) : mcV a b = mAgg b ∧ mcErr a b = 0 := by
  simp [mcV, mcErr, mcIs, mcB, ha, hb]
theorem mc_none {a b : List UInt8} (ha : mpErr 0 a ≠ 0) (hb : mpErr 1 b ≠ 0) : mcV a b = mZero ∧ mcErr a b = 160 := by
  simp [mcV, mcErr, mcIs, mcB, ha, hb]
end Go.Proofs.Ythepcoifcoinoaa

namespace Go.Proofs.Ythepcoifcoinoaa
open Go.RowKit

set_option maxRecDepth 100000 in
set_option maxHeartbeats 2000000 in
theorem metaCounts_long (w : World) (A B : Option Addr) (la c lb d : Nat) (n : Int) (hm : la ≤ 9223372036854775807) (hm' : lb ≤ 9223372036854775807) (h : 300 < la ∨ 300 < lb) :
    Calls Try.prog 8 #[.slice A la c, .slice B lb d, .int .i64 n] w fun e w' => e = .returned (.bool true) ∧ Keeps w w' [] := by
  by_cases h1 : 300 < la
  · have d1 : decide ((300 : Int) < (la : Int)) = true := by simp; omega
    clear h h1
    go_enter Try.func8, Try.ntmps8
    go_wp2_with fail
    refine (known6_any _).mono ?_
    rintro e w1 ⟨rfl, hk1⟩
    have H := Lib.hid hk1
    clear hk1
    go_wp2
    go_ret
    exact ⟨rfl, H.out⟩
  · have d1 : decide ((300 : Int) < (la : Int)) = false := by simp; omega
    have d2 : decide ((300 : Int) < (lb : Int)) = true := by simp; omega
    clear h h1
    go_enter Try.func8, Try.ntmps8
    go_wp2_with fail
    refine (known6_any _).mono ?_
    rintro e w1 ⟨rfl, hk1⟩
    have H := Lib.hid hk1
    clear hk1
    go_wp2
    go_ret
    exact ⟨rfl, H.out⟩

set_option maxRecDepth 100000 in
set_option maxHeartbeats 4000000 in
theorem metaCounts_short (w : World) (A B : Option Addr) (c d : Nat) (a b : List UInt8) (n : Int) (hA : Bytes w w.heap.size (.slice A a.length c) a) (hB : Bytes w w.heap.size (.slice B b.length d) b) (h1 : a.length ≤ 300) (h2 : b.length ≤ 300) :
    Calls Try.prog 8 #[.slice A a.length c, .slice B b.length d, .int .i64 n] w fun e w' => e = .returned (.bool true) ∧ Keeps w w' [] := by
  have d1 : decide ((300 : Int) < (a.length : Int)) = false := by simp; omega
  have d2 : decide ((300 : Int) < (b.length : Int)) = false := by simp; omega
  have HA := Lib.hid (And.intro hA hB)
  clear hA hB
  obtain ⟨p0, p1, p2, p3, hp⟩ := mcV_ints a b
  obtain ⟨q0, q1, q2, q3, hq⟩ := mpV_ints n a
  have HP := Lib.hid (And.intro hp hq)
  clear hp hq
  go_enter Try.func8, Try.ntmps8
  go_wp2_with fail
  refine (mCounts_any w A B c d a b HA.out.1 HA.out.2).mono ?_
  rintro e w1 ⟨rfl, hk1⟩
  rw [HP.out.1]
  go_wp2_with fail
  obtain ⟨W1, hW1⟩ : ∃ W', w1.alloc (.cells #[.int .i64 p0, .int .i64 p1, .int .i64 p2, .int .i64 p3] 49) = W' := ⟨_, rfl⟩
  have k1 : Keeps w1 W1 [] := by rw [← hW1]; exact Keeps.alloc _ _
  have r1 : Row W1 w1.heap.size 49 #[.int .i64 p0, .int .i64 p1, .int .i64 p2, .int .i64 p3] := by rw [← hW1]; exact Row.new _ _ _
  rw [hW1]
  clear hW1
  have H1 := Lib.hid (And.intro (hk1.then_ k1) r1)
  clear hk1 k1 r1
  refine (mrCounts_any W1 A B c d a b (HA.out.1.keeps H1.out.1) (HA.out.2.keeps H1.out.1)).mono ?_
  rintro e w2 ⟨rfl, hk2⟩
  rw [HP.out.1]
  go_wp2_with fail
  obtain ⟨W2, hW2⟩ : ∃ W', w2.alloc (.cells #[.int .i64 p0, .int .i64 p1, .int .i64 p2, .int .i64 p3] 49) = W' := ⟨_, rfl⟩
  have k2 : Keeps w2 W2 [] := by rw [← hW2]; exact Keeps.alloc _ _
  have r2 : Row W2 w2.heap.size 49 #[.int .i64 p0, .int .i64 p1, .int .i64 p2, .int .i64 p3] := by rw [← hW2]; exact Row.new _ _ _
  rw [hW2]
  clear hW2
  have H2 := Lib.hid (And.intro (H1.out.1.then_ (hk2.then_ k2)) (And.intro (H1.out.2.keeps (hk2.then_ k2)) r2))
  clear hk2 k2 r2
  refine (mParse_any W2 n A c a (HA.out.1.keeps H2.out.1)).mono ?_
  rintro e w3 hd
  obtain ⟨rfl, hk3⟩ := hd.val
  clear hd
  rw [HP.out.2]
  go_wp2_with fail
  obtain ⟨W3, hW3⟩ : ∃ W', w3.alloc (.cells #[.int .i64 q0, .int .i64 q1, .int .i64 q2, .int .i64 q3] 49) = W' := ⟨_, rfl⟩
  have k3 : Keeps w3 W3 [] := by rw [← hW3]; exact Keeps.alloc _ _
  have r3 : Row W3 w3.heap.size 49 #[.int .i64 q0, .int .i64 q1, .int .i64 q2, .int .i64 q3] := by rw [← hW3]; exact Row.new _ _ _
  rw [hW3]
  clear hW3
  have H3 := Lib.hid (And.intro (H2.out.1.then_ (hk3.then_ k3)) (And.intro (H2.out.2.1.keeps (hk3.then_ k3)) (And.intro (H2.out.2.2.keeps (hk3.then_ k3)) r3)))
  clear hk3 k3 r3
  refine (mrParse_any W3 n A c a (HA.out.1.keeps H3.out.1)).mono ?_
  rintro e w4 hd
  obtain ⟨rfl, hk4⟩ := hd.val
  clear hd
  rw [HP.out.2]
  have r1 := H3.out.2.1.keeps hk4
  have r2 := H3.out.2.2.1.keeps hk4
  have r3 := H3.out.2.2.2.keeps hk4
  have H4 := Lib.hid (H3.out.1.then_ hk4)
  have c0 := r1.cell 0
  have c1 := r1.cell 1
  have c2 := r1.cell 2
  have c3 := r1.cell 3
  simp only [List.getElem?_toArray, List.getElem?_cons_zero, List.getElem?_cons_succ] at c0 c1 c2 c3
  have d0 := r2.cell 0
  have d1 := r2.cell 1
  have d2 := r2.cell 2
  have d3 := r2.cell 3
  simp only [List.getElem?_toArray, List.getElem?_cons_zero, List.getElem?_cons_succ] at d0 d1 d2 d3
  have e0 := r3.cell 0
  have e1 := r3.cell 1
  have e2 := r3.cell 2
  have e3 := r3.cell 3
  simp only [List.getElem?_toArray, List.getElem?_cons_zero, List.getElem?_cons_succ] at e0 e1 e2 e3
  have l1 := r1.lt
  have l2 := r2.lt
  have l3 := r3.lt
  clear hk4 r1 r2 r3
  generalize mpErr n a = E
  cases hi : mcIs a b
  · have he : mcErr a b = 160 := by simp [mcErr, hi]
    have hv := mcV_none hi
    rw [HP.out.1] at hv
    unfold mZero at hv
    injection hv with hv
    simp only [Array.mk.injEq, List.cons.injEq, Value.int.injEq, true_and, and_true] at hv
    obtain ⟨rfl, rfl, rfl, rfl⟩ := hv
    rw [he]
    clear hi he
    go_wp2_with fail
    refine (known6_any _).mono ?_
    rintro e w5 ⟨rfl, hk5⟩
    have H5 := Lib.hid ((H4.out.then_alloc _).then_ hk5)
    clear hk5
    go_wp2
    go_ret
    exact ⟨rfl, H5.out⟩
  · have he : mcErr a b = 0 := by simp [mcErr, hi]
    rw [he]
    clear hi he
    go_wp2_with fail
    refine (known6_any _).mono ?_
    rintro e w5 ⟨rfl, hk5⟩
    have H5 := Lib.hid ((H4.out.then_alloc _).then_ hk5)
    clear hk5
    go_wp2
    go_ret
    exact ⟨rfl, H5.out⟩

theorem metaCounts_came (w : World) (A B : Option Addr) (c d : Nat) (a b : List UInt8) (n : Int) (hA : Came w A c a) (hB : Came w B d b) :
    Calls Try.prog 8 #[.slice A a.length c, .slice B b.length d, .int .i64 n] w fun e w' => e = .returned (.bool true) ∧ Keeps w w' [] := by
  by_cases h : 300 < a.length ∨ 300 < b.length
  · exact metaCounts_long w A B a.length c b.length d n hA.small hB.small h
  · exact metaCounts_short w A B c d a b n (hA.bytes (by omega)) (hB.bytes (by omega)) (by omega) (by omega)
end Go.Proofs.Ythepcoifcoinoaa
