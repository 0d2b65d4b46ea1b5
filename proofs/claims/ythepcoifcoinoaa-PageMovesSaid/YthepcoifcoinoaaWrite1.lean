/- Walks over package wire (layer 3): a writer. -/
import Derived.Test.YthepcoifcoinoaaRead2
namespace Go.Proofs.Ythepcoifcoinoaa
open Go.RowKit

/-- A number's bytes, the higher ones first: so many of them. -/
def toBE : Nat → Nat → List UInt8
  | 0, _ => []
  | k + 1, n => toBE k (n / 256) ++ [UInt8.ofNat (n % 256)]
theorem toBE_length (k n : Nat) : (toBE k n).length = k := by
  induction k generalizing n with
  | zero => rfl
  | succ k ih => simp [toBE, ih]

/-- A writer at p that holds the value v, which reads as the bytes l (in blocks from base on). -/
def Wr (w : World) (base p : Nat) (v : Value) (l : List UInt8) : Prop :=
  Row w p 121 #[v, .bool true] ∧ Owned w base v l

theorem Wr.ne {w : World} {base p : Nat} {v : Value} {l : List UInt8} (h : Wr w base p v l) : v.ownBlock ≠ some p := own_ne_row h.2 h.1 (by decide)
theorem Wr.keep {w w' : World} {base p : Nat} {v : Value} {l : List UInt8} {S : List Nat} (h : Wr w base p v l) (hk : Keeps w w' S) (hp : p ∉ S) (hv : ∀ g, v.ownBlock = some g → g ∉ S) : Wr w' base p v l :=
  ⟨h.1.keep hk hp, own_keep h.2 hk hv⟩

set_option maxRecDepth 100000 in
set_option maxHeartbeats 400000 in
theorem newWriter_any (w : World) :
    Calls Try.prog 48 #[] w fun e w' => e = .returned (.pointer (some ⟨w.heap.size, 0, none⟩)) ∧ Wr w' w.heap.size w.heap.size (.slice none 0 0) [] ∧ Keeps w w' [] := by
  go_enter Try.func48, Try.ntmps48
  go_wp2
  go_ret
  exact ⟨rfl, ⟨Row.new _ _ _, World.ownsRow_nil _ _ _ _⟩, Keeps.alloc _ _⟩

set_option maxRecDepth 100000 in
set_option maxHeartbeats 400000 in
theorem wrNone_any (w : World) (r : Nat) (v : Value) (h : Row w r 121 #[v, .bool true]) :
    Calls Try.prog 69 #[.pointer (some ⟨r, 0, none⟩)] w fun e w' => e = .returned (.bool false) ∧ w = w' := by
  have h1 := h.cell 1
  have H := Lib.hid h
  clear h
  go_enter Try.func69, Try.ntmps69
  go_wp2
  go_ret
  exact ⟨rfl, rfl⟩

set_option maxRecDepth 100000 in
set_option maxHeartbeats 1000000 in
theorem wrPut_any (w : World) (base p : Nat) (v u : Value) (l b : List UInt8) (h : Wr w base p v l) (hb : Bytes w w.heap.size u b) (hlen : l.length + b.length ≤ 65536) (hbase : base ≤ w.heap.size) :
    Calls Try.prog 70 #[.pointer (some ⟨p, 0, none⟩), u] w fun e w' =>
      e = .returned (.int .i64 0) ∧ ∃ v', Wr w' base p v' (l ++ b) ∧ Keeps w w' (p :: v.ownBlock.toList) ∧ (v'.ownBlock = v.ownBlock ∨ ∀ g, v'.ownBlock = some g → w.heap.size ≤ g) := by
  have hne := h.ne
  obtain ⟨hr, ho⟩ := h
  obtain ⟨i0, hi, hz0, hz1, hz2⟩ := info_parts infoByte
  have hlt := hr.lt
  have h0 := hr.cell 0
  obtain ⟨A, c, rfl, hc, hcm, hnil, hL⟩ := ho.parts
  obtain ⟨A2, c2, rfl, hc2, hnil2, hcm2, hlen2, hL2⟩ := hb
  have H := Lib.hid (And.intro hr (And.intro ho (And.intro hnil (And.intro hL (And.intro hnil2 hL2)))))
  have HNE := Lib.hid hne
  clear hr ho hnil hL hnil2 hL2 hne
  go_enter Try.func70, Try.ntmps70
  go_wp2_with (at_builtin; refine wpList_append_lies' _ rfl (.tmp 20) (.tmp 21) 22 rfl base 5 i0 (.int .u8 0) 1 undBytes hi hz0 hz1 hz2 rfl (.slice A l.length c) l.length (l.map byteV) rfl H.out.2.1 w.heap.size A2 b.length c2 (b.map byteV) rfl (by simp) H.out.2.2.2.2.2 (byteV_one b) (by simp [maxLen]; omega) (by omega) hbase ?_; intro v' w1 hown hg hb; obtain ⟨A3, c3, rfl, h3, h4⟩ := own_slice hown; have hk := Keeps.of_grown hg; have hr1 := H.out.1.keep hk (fun hm => HNE.out (by simpa using hm)); have hc1 := hr1.cell 0; have hf1 := hr1.frozen 0; have HO := Lib.hid (And.intro hown (And.intro hk (And.intro hr1 hb))); clear hown hg hb hk hr1)
  go_wp2
  go_ret
  obtain ⟨hown, hk, hr1, hb⟩ := HO.out
  have hne3 := own_ne_row hown hr1 (by decide)
  refine ⟨rfl, .slice A3 (l.length + b.length) c3, ⟨hr1.store 0 _, ?_⟩, (hk.weaken (T := p :: (Value.slice A l.length c).ownBlock.toList) (fun x hx _ => List.mem_cons_of_mem _ hx)).trans (Keeps.setCell _ _ _) (fun x hx _ => by simp at hx; subst hx; exact List.mem_cons_self), ?_⟩
  · have h5 : (l ++ b).length = l.length + b.length := by simp
    unfold Owned
    rw [h5, List.map_append]
    exact own_keep hown (Keeps.setCell _ _ _) (fun g hg hm => hne3 (by simp at hm; subst hm; exact hg))
  · rcases hb with hb | hb
    · exact .inl hb
    · exact .inr fun g hg => by rw [hb] at hg; injection hg with hg; omega

theorem pow_split (k n : Nat) (h : n < 256 ^ (k + 1)) : n / 256 ^ k < 256 := by
  rw [Nat.div_lt_iff_lt_mul (Nat.pow_pos (by omega)), Nat.mul_comm, ← Nat.pow_succ]; exact h

/-- The first digits of a number, the higher ones first. -/
def digs (n k : Nat) : Nat → List UInt8
  | 0 => []
  | j + 1 => digs n k j ++ [UInt8.ofNat (n / 256 ^ (k - 1 - j))]
theorem digs_length (n k j : Nat) : (digs n k j).length = j := by
  induction j with
  | zero => rfl
  | succ j ih => simp [digs, ih]
theorem digs_le (n k j : Nat) (hj : j ≤ k) : digs n (k + 1) j = digs (n / 256) k j := by
  induction j with
  | zero => rfl
  | succ j ih =>
    rw [digs, digs, ih (by omega)]
    congr 2
    rw [Nat.div_div_eq_div_mul]
    congr 2
    rw [show k + 1 - 1 - j = (k - 1 - j) + 1 by omega, Nat.pow_succ, Nat.mul_comm]
theorem ofNat_mod (n : Nat) : UInt8.ofNat (n % 256) = UInt8.ofNat n := by
  apply UInt8.toNat_inj.1
  simp [UInt8.toNat_ofNat']
theorem digs_all (k n : Nat) : digs n k k = toBE k n := by
  induction k generalizing n with
  | zero => rfl
  | succ k ih =>
    rw [digs, toBE, ← ih, digs_le n k k (Nat.le_refl _), ofNat_mod]
    simp

theorem lies_one (w : World) (x : Value) (t : TypeId) : Lies (w.alloc (.cells #[x] t)) (w.heap.size + 1) (some ⟨w.heap.size, 0, none⟩) [x] := fun _ => by
  refine ⟨w.heap.size, 0, rfl, by omega, fun i u hu => ?_⟩
  have hi : i = 0 := by
    rcases i with _ | i
    · rfl
    · simp at hu
  subst hi
  have := (Row.new w t #[x]).cell 0
  simp at hu
  subst hu
  simp [this]
theorem digit_val (n m : Nat) : ((n : Int) / 2 ^ (8 * m) % 256) = ((UInt8.ofNat (n / 256 ^ m)).toNat : Int) := by
  have h : (256 : Nat) ^ m = 2 ^ (8 * m) := by rw [Nat.pow_mul]
  rw [UInt8.toNat_ofNat', h, Int.natCast_emod, Int.natCast_ediv, Int.natCast_pow]
  rfl

set_option maxRecDepth 100000 in
set_option maxHeartbeats 1000000 in
theorem laid_any (w : World) (n k : Nat) (hk1 : 1 ≤ k) (hk8 : k ≤ 8) (hn : n < 18446744073709551616) :
    Calls Try.prog 71 #[.slice none 0 0, .int .u64 n, .int .i64 k] w fun e w' =>
      ∃ v, e = .returned v ∧ Owned w' w.heap.size v (toBE k n) ∧ Keeps w w' [] := by
  obtain ⟨i0, hi, hz0, hz1, hz2⟩ := info_parts infoByte
  go_enter Try.func71, Try.ntmps71
  go_wp2
  go_loopw [0, 7] (fun v i wr => ∃ j : Nat, j ≤ k ∧ i = .int .i64 ((k : Int) - 1 - j) ∧ Owned wr w.heap.size v (digs n k j) ∧ Keeps w wr []) (fun _ i _ => ((intOf i) + 1).toNat)
  case atStart => exact ⟨0, by omega, by simp, World.ownsRow_nil _ _ _ _, Keeps.refl _ _⟩
  case round =>
    obtain ⟨j, hj, rfl, ho, hkp⟩ := hrel
    by_cases hjk : j < k
    · obtain ⟨A, c, rfl, hc, hcm, hnil, hL⟩ := ho.parts
      have HO := Lib.hid (And.intro ho (And.intro hkp hnil))
      have HL := Lib.hid hL
      clear ho hkp hnil hL
      have hd : decide ((0 : Int) ≤ (k : Int) - 1 - j) = true := by simp; omega
      have hsz := HO.out.2.1.size
      have hl := digs_length n k j
      have HV := Lib.hid (digit_val n (k - 1 - j))
      go_wp2_with (at_builtin; refine wpList_append_lies' _ rfl (.tmp 14) (.tmp 20) 22 rfl w.heap.size 5 i0 (.int .u8 0) 1 undBytes hi hz0 hz1 hz2 rfl (.slice A (digs n k j).length c) (digs n k j).length ((digs n k j).map byteV) rfl (HO.out.1.alloc _) (wr.heap.size + 1) (some ⟨wr.heap.size, 0, none⟩) 1 1 [.int .u8 ((n : Int) / 2 ^ (8 * (k - 1 - j)) % 256)] rfl rfl (lies_one _ _ _) (by simp [Value.oneCell']) (by simp [maxLen]; omega) (by omega) (by simp; omega) ?_; intro v' w1 hown hg hb; have HO2 := Lib.hid (And.intro hown (And.intro hg hb)); clear hown hg hb)
      refine ⟨⟨j + 1, by omega, by simp; omega, ?_, ?_⟩, by simp [intOf]; omega⟩
      · have h1 := HO2.out.1
        rw [HV.out] at h1
        have h5 : (digs n k (j + 1)).length = (digs n k j).length + 1 := by simp [digs_length]
        unfold Owned
        rw [h5, digs, List.map_append]
        exact h1
      · exact (HO.out.2.1.trans (Keeps.alloc _ _) (by simp)).trans (Keeps.of_grown HO2.out.2.1) (fun x hx hlt => by
          have := (HO.out.1.lt x (by simpa using hx)).1
          omega)
    · obtain rfl : j = k := by omega
      have HO := Lib.hid (And.intro ho hkp)
      clear ho hkp
      have hd : decide ((0 : Int) ≤ (j : Int) - 1 - j) = false := by simp; omega
      go_wp2
      go_ret
      have := HO.out.1
      rw [digs_all] at this
      exact ⟨_, rfl, this, HO.out.2⟩
end Go.Proofs.Ythepcoifcoinoaa
