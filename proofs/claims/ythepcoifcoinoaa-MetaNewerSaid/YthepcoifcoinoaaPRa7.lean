/- Walks over package wire (layer 3): a number read; the rest. Walks over package wire (layer 3): a writer. Walks over package wire (layer 3): a number written; the bytes told. Walks over package page (layer 4) and its reference: what may be a page. Walks over package page (layer 4) and its reference: sameness, what may be, numbers of the reference. -/
import Derived.Test.YthepcoifcoinoaaPRa5
import Derived.Test.YthepcoifcoinoaaPRa6

namespace Go.Proofs.Ythepcoifcoinoaa
open Go.RowKit

def withinB (n a b : Int) : Bool := decide (a ≤ n) && decide (n ≤ b)

set_option maxRecDepth 100000 in
set_option maxHeartbeats 400000 in
theorem wide_any (n : Int) (w : World) :
    Calls Try.prog 62 #[.int .i64 n] w fun e w' => e = .returned (.bool (withinB n 1 8)) ∧ w = w' := by
  by_cases h : 1 ≤ n <;> by_cases h2 : n ≤ 8
  all_goals
    go_enter Try.func62, Try.ntmps62
    go_wp2
    go_ret
    exact ⟨by simp [withinB, h, h2], rfl⟩

set_option maxRecDepth 100000 in
set_option maxHeartbeats 2000000 in
theorem rdNumber_any (w : World) (base r k : Nat) (l : List UInt8) (h : Rd w base r l) (hk1 : 1 ≤ k) (hk8 : k ≤ 8) (hkl : k ≤ l.length) :
    Calls Try.prog 39 #[.pointer (some ⟨r, 0, none⟩), .int .i64 k] w fun e w' =>
      e = .returned (.tuple #[.int .u64 (beN (l.take k) : Nat), .int .i64 0]) ∧ Rd w' base r (l.drop k) ∧ Keeps w w' [r] := by
  obtain ⟨A, c, hr, hbr, hc, hnil, hcm, hL, had⟩ := h
  have hlt := hr.lt
  have HR := Lib.hid hr
  have HL := Lib.hid (And.intro hL (And.intro hnil had))
  clear hr hL hnil had
  have hw : withinB (k : Int) 1 8 = true := by simp [withinB]; omega
  go_enter Try.func39, Try.ntmps39
  go_wp2_with fail
  refine (rdNone_any _ _ _ HR.out).mono ?_
  rintro e w1 ⟨rfl, rfl⟩
  go_wp2_with fail
  refine (wide_any _ _).mono ?_
  rintro e w1 ⟨rfl, rfl⟩
  rw [hw]
  clear hw
  go_wp2_with fail
  refine (rdTake_any _ _).mono ?_
  rintro e w1 ⟨rfl, rfl⟩
  go_wp2_with fail
  refine (rdTake1_any _ r w.heap.size k l.length c A (HR.out.alloc _) (by simp [World.cell?_alloc_new]) hkl hc hcm).mono ?_
  rintro e w2 ⟨rfl, hw2⟩
  have hk2 : Keeps w w2 [r] := by
    subst hw2
    exact (((Keeps.alloc w _).weaken (T := [r]) (by simp)).trans (Keeps.setCell _ ⟨r, 0, none⟩ _) (by simp)).trans (Keeps.drew _) (by simp)
  have hr2 : Row w2 r 110 #[.slice (if c = k then A else A.map (·.add k)) (l.length - k) (c - k), .bool true] := by
    subst hw2
    exact ((HR.out.alloc _).store 0 _)
  have hL2 : Lies w2 w.heap.size A (l.map byteV) := HL.out.1.keep' hk2 (Nat.le_refl _) (fun b o e hm => by simp at hm; exact (HL.out.2.2 _ e).2 hm)
  have H2 := Lib.hid (And.intro hk2 (And.intro hr2 hL2))
  clear hk2 hr2 hL2 hw2
  go_wp2
  go_loop [8, 9, 27] (fun t _ i => ∃ j : Nat, j ≤ k ∧ i = .int .i64 j ∧ t = .int .u64 (beN (l.take j) : Nat)) (fun _ _ i => k - (intOf i).toNat)
  case atStart => exact ⟨0, by omega, rfl, rfl⟩
  case round =>
    obtain ⟨j, hj, rfl, rfl⟩ := hrel
    by_cases hjk : j < k
    · have hjl : j < l.length := by omega
      obtain ⟨b, o, rfl, hb, hcx⟩ := H2.out.2.2.at_ (k := j) (by simpa using hjl)
      rw [byteV_get l hjl] at hcx
      have hsucc : beN (l.take (j + 1)) = beN (l.take j) * 256 + l[j].toNat := by rw [List.take_succ_eq_append_getElem hjl, beN_snoc]
      have hn : beN (l.take j) < 72057594037927936 := by
        have h1 := beN_lt (l.take j)
        have h2 : (l.take j).length ≤ 7 := by rw [List.length_take]; omega
        have h3 : 256 ^ (l.take j).length ≤ 256 ^ 7 := Nat.pow_le_pow_right (by omega) h2
        have h4 : (256 : Nat) ^ 7 = 72057594037927936 := by decide
        omega
      have hx : l[j].toNat < 256 := l[j].toNat_lt
      generalize l[j].toNat = x at *
      generalize beN (l.take j) = M at *
      have HS := Lib.hid hsucc
      clear hsucc
      have HB := Lib.hid (be_step M x hn hx)
      go_wp2
      exact ⟨⟨j + 1, by omega, by go_num, by rw [HB.out, HS.out]⟩, by simp [intOf]; omega⟩
    · obtain rfl : j = k := by omega
      go_wp2
      go_ret2
      refine ⟨rfl, ?_, H2.out.1⟩
      have hal : (if c = j then A else A.map (·.add j)) = none → c - j = 0 := by
        intro hn
        split at hn
        · omega
        · have : A = none := by simpa using hn
          have := HL.out.2.1 this
          omega
      have hll : (l.drop j).length = l.length - j := by simp
      refine ⟨_, c - j, by rw [hll]; exact H2.out.2.1, hbr, by rw [hll]; omega, hal, by omega, ?_, ?_⟩
      · have := H2.out.2.2.cut (k := j) (cap := c) (by simpa using hc)
        rw [List.map_drop]
        exact this.mono H2.out.1.size
      · intro ad had
        split at had
        · exact HL.out.2.2 ad had
        · cases A with
          | none => cases had
          | some a0 =>
            simp only [Option.map_some, Option.some.injEq] at had
            subst had
            have := HL.out.2.2 a0 rfl
            have hblk : (a0.add j).block = a0.block := by unfold Addr.add; split <;> rfl
            rw [hblk]; exact this

set_option maxRecDepth 100000 in
set_option maxHeartbeats 1000000 in
theorem rdRest_any (w : World) (base r : Nat) (l : List UInt8) (h : Rd w base r l) (hlen : l.length ≤ 140737488351232) :
    Calls Try.prog 41 #[.pointer (some ⟨r, 0, none⟩)] w fun e w' => ∃ v, e = .returned v ∧ Owned w' w.heap.size v l ∧ Keeps w w' [] := by
  obtain ⟨A, c, hr, hbr, hc, hnil, hcm, hL, had⟩ := h
  have h0 := hr.cell 0
  have HR := Lib.hid hr
  have HB := Lib.hid (show Bytes w w.heap.size (.slice A l.length c) l from ⟨A, c, rfl, hc, hnil, hcm, hlen, hL⟩)
  clear hr hL hnil had
  go_enter Try.func41, Try.ntmps41
  go_wp2_with fail
  refine (rdNone_any _ _ _ HR.out).mono ?_
  rintro e w1 ⟨rfl, rfl⟩
  go_wp2_with fail
  refine (clone_any _ _ _ HB.out).mono ?_
  rintro e w1 ⟨v', rfl, ho, hk⟩
  have HO := Lib.hid (And.intro ho hk)
  clear ho hk
  go_wp2
  go_ret
  exact ⟨v', rfl, HO.out.1, HO.out.2⟩
end Go.Proofs.Ythepcoifcoinoaa

namespace Go.Proofs.Ythepcoifcoinoaa
open Go.RowKit

/-- A number's bytes, the higher ones first: so many of them. -/
def toBE : Nat → Nat → List UInt8
  | 0, _ => []
  | k + 1, n => toBE k (n / 256) ++ [UInt8.ofNat (n % 256)]
theorem toBE_length (k n : Nat) : (toBE k n).length = k := by
  induction k generalizing n with
  | zero => rfl
  | succ k ih => simp [toBE, ih]

/-- A writer at p that holds the value v, which reads as the bytes l (in blocks from base on). -/
def Wr (w : World) (base p : Nat) (v : Value) (l : List UInt8) : Prop :=
  Row w p 121 #[v, .bool true] ∧ Owned w base v l

theorem Wr.ne {w : World} {base p : Nat} {v : Value} {l : List UInt8} (h : Wr w base p v l) : v.ownBlock ≠ some p := own_ne_row h.2 h.1 (by decide)
theorem Wr.keep {w w' : World} {base p : Nat} {v : Value} {l : List UInt8} {S : List Nat} (h : Wr w base p v l) (hk : Keeps w w' S) (hp : p ∉ S) (hv : ∀ g, v.ownBlock = some g → g ∉ S) : Wr w' base p v l :=
  ⟨h.1.keep hk hp, own_keep h.2 hk hv⟩

set_option maxRecDepth 100000 in
set_option maxHeartbeats 400000 in
theorem newWriter_any (w : World) :
    Calls Try.prog 48 #[] w fun e w' => e = .returned (.pointer (some ⟨w.heap.size, 0, none⟩)) ∧ Wr w' w.heap.size w.heap.size (.slice none 0 0) [] ∧ Keeps w w' [] := by
  go_enter Try.func48, Try.ntmps48
  go_wp2
  go_ret
  exact ⟨rfl, ⟨Row.new _ _ _, World.ownsRow_nil _ _ _ _⟩, Keeps.alloc _ _⟩

set_option maxRecDepth 100000 in
set_option maxHeartbeats 400000 in
theorem wrNone_any (w : World) (r : Nat) (v : Value) (h : Row w r 121 #[v, .bool true]) :
    Calls Try.prog 69 #[.pointer (some ⟨r, 0, none⟩)] w fun e w' => e = .returned (.bool false) ∧ w = w' := by
  have h1 := h.cell 1
  have H := Lib.hid h
  clear h
  go_enter Try.func69, Try.ntmps69
  go_wp2
  go_ret
  exact ⟨rfl, rfl⟩

set_option maxRecDepth 100000 in
set_option maxHeartbeats 1000000 in
theorem wrPut_any (w : World) (base p : Nat) (v u : Value) (l b : List UInt8) (h : Wr w base p v l) (hb : Bytes w w.heap.size u b) (hlen : l.length + b.length ≤ 65536) (hbase : base ≤ w.heap.size) :
    Calls Try.prog 70 #[.pointer (some ⟨p, 0, none⟩), u] w fun e w' =>
      e = .returned (.int .i64 0) ∧ ∃ v', Wr w' base p v' (l ++ b) ∧ Keeps w w' (p :: v.ownBlock.toList) ∧ (v'.ownBlock = v.ownBlock ∨ ∀ g, v'.ownBlock = some g → w.heap.size ≤ g) := by
  have hne := h.ne
  obtain ⟨hr, ho⟩ := h
  obtain ⟨i0, hi, hz0, hz1, hz2⟩ := info_parts infoByte
  have hlt := hr.lt
  have h0 := hr.cell 0
  obtain ⟨A, c, rfl, hc, hcm, hnil, hL⟩ := ho.parts
  obtain ⟨A2, c2, rfl, hc2, hnil2, hcm2, hlen2, hL2⟩ := hb
  have H := Lib.hid (And.intro hr (And.intro ho (And.intro hnil (And.intro hL (And.intro hnil2 hL2)))))
  have HNE := Lib.hid hne
  clear hr ho hnil hL hnil2 hL2 hne
  go_enter Try.func70, Try.ntmps70
  go_wp2_with (at_builtin; refine wpList_append_lies' _ rfl (.tmp 20) (.tmp 21) 22 rfl base 5 i0 (.int .u8 0) 1 undBytes hi hz0 hz1 hz2 rfl (.slice A l.length c) l.length (l.map byteV) rfl H.out.2.1 w.heap.size A2 b.length c2 (b.map byteV) rfl (by simp) H.out.2.2.2.2.2 (byteV_one b) (by simp [maxLen]; omega) (by omega) hbase ?_; intro v' w1 hown hg hb; obtain ⟨A3, c3, rfl, h3, h4⟩ := own_slice hown; have hk := Keeps.of_grown hg; have hr1 := H.out.1.keep hk (fun hm => HNE.out (by simpa using hm)); have hc1 := hr1.cell 0; have hf1 := hr1.frozen 0; have HO := Lib.hid (And.intro hown (And.intro hk (And.intro hr1 hb))); clear hown hg hb hk hr1)
  go_wp2
  go_ret
  obtain ⟨hown, hk, hr1, hb⟩ := HO.out
  have hne3 := own_ne_row hown hr1 (by decide)
  refine ⟨rfl, .slice A3 (l.length + b.length) c3, ⟨hr1.store 0 _, ?_⟩, (hk.weaken (T := p :: (Value.slice A l.length c).ownBlock.toList) (fun x hx _ => List.mem_cons_of_mem _ hx)).trans (Keeps.setCell _ _ _) (fun x hx _ => by simp at hx; subst hx; exact List.mem_cons_self), ?_⟩
  · have h5 : (l ++ b).length = l.length + b.length := by simp
    unfold Owned
    rw [h5, List.map_append]
    exact own_keep hown (Keeps.setCell _ _ _) (fun g hg hm => hne3 (by simp at hm; subst hm; exact hg))
  · rcases hb with hb | hb
    · exact .inl hb
    · exact .inr fun g hg => by rw [hb] at hg; injection hg with hg; omega

theorem pow_split (k n : Nat) (h : n < 256 ^ (k + 1)) : n / 256 ^ k < 256 := by
  rw [Nat.div_lt_iff_lt_mul (Nat.pow_pos (by omega)), Nat.mul_comm, ← Nat.pow_succ]; exact h

/-- The first digits of a number, the higher ones first. -/
def digs (n k : Nat) : Nat → List UInt8
  | 0 => []
  | j + 1 => digs n k j ++ [UInt8.ofNat (n / 256 ^ (k - 1 - j))]
theorem digs_length (n k j : Nat) : (digs n k j).length = j := by
  induction j with
  | zero => rfl
  | succ j ih => simp [digs, ih]
theorem digs_le (n k j : Nat) (hj : j ≤ k) : digs n (k + 1) j = digs (n / 256) k j := by
  induction j with
  | zero => rfl
  | succ j ih =>
    rw [digs, digs, ih (by omega)]
    congr 2
    rw [Nat.div_div_eq_div_mul]
    congr 2
    rw [show k + 1 - 1 - j = (k - 1 - j) + 1 by omega, Nat.pow_succ, Nat.mul_comm]
theorem ofNat_mod (n : Nat) : UInt8.ofNat (n % 256) = UInt8.ofNat n := by
  apply UInt8.toNat_inj.1
  simp [UInt8.toNat_ofNat']
theorem digs_all (k n : Nat) : digs n k k = toBE k n := by
  induction k generalizing n with
  | zero => rfl
  | succ k ih =>
    rw [digs, toBE, ← ih, digs_le n k k (Nat.le_refl _), ofNat_mod]
    simp

theorem lies_one (w : World) (x : Value) (t : TypeId) : Lies (w.alloc (.cells #[x] t)) (w.heap.size + 1) (some ⟨w.heap.size, 0, none⟩) [x] := fun _ => by
  refine ⟨w.heap.size, 0, rfl, by omega, fun i u hu => ?_⟩
  have hi : i = 0 := by
    rcases i with _ | i
    · rfl
    · simp at hu
  subst hi
  have := (Row.new w t #[x]).cell 0
  simp at hu
  subst hu
  simp [this]
theorem digit_val (n m : Nat) : ((n : Int) / 2 ^ (8 * m) % 256) = ((UInt8.ofNat (n / 256 ^ m)).toNat : Int) := by
  have h : (256 : Nat) ^ m = 2 ^ (8 * m) := by rw [Nat.pow_mul]
  rw [UInt8.toNat_ofNat', h, Int.natCast_emod, Int.natCast_ediv, Int.natCast_pow]
  rfl

set_option maxRecDepth 100000 in
set_option maxHeartbeats 1000000 in
theorem laid_any (w : World) (n k : Nat) (hk1 : 1 ≤ k) (hk8 : k ≤ 8) (_hn : n < 18446744073709551616) :
    Calls Try.prog 71 #[.slice none 0 0, .int .u64 n, .int .i64 k] w fun e w' =>
      ∃ v, e = .returned v ∧ Owned w' w.heap.size v (toBE k n) ∧ Keeps w w' [] := by
  obtain ⟨i0, hi, hz0, hz1, hz2⟩ := info_parts infoByte
  go_enter Try.func71, Try.ntmps71
  go_wp2
  go_loopw [0, 7] (fun v i wr => ∃ j : Nat, j ≤ k ∧ i = .int .i64 ((k : Int) - 1 - j) ∧ Owned wr w.heap.size v (digs n k j) ∧ Keeps w wr []) (fun _ i _ => ((intOf i) + 1).toNat)
  case atStart => exact ⟨0, by omega, by simp, World.ownsRow_nil _ _ _ _, Keeps.refl _ _⟩
  case round =>
    obtain ⟨j, hj, rfl, ho, hkp⟩ := hrel
    by_cases hjk : j < k
    · obtain ⟨A, c, rfl, hc, hcm, hnil, hL⟩ := ho.parts
      have HO := Lib.hid (And.intro ho (And.intro hkp hnil))
      have HL := Lib.hid hL
      clear ho hkp hnil hL
      have hd : decide ((0 : Int) ≤ (k : Int) - 1 - j) = true := by simp; omega
      have hsz := HO.out.2.1.size
      have hl := digs_length n k j
      have HV := Lib.hid (digit_val n (k - 1 - j))
      go_wp2_with (at_builtin; refine wpList_append_lies' _ rfl (.tmp 14) (.tmp 20) 22 rfl w.heap.size 5 i0 (.int .u8 0) 1 undBytes hi hz0 hz1 hz2 rfl (.slice A (digs n k j).length c) (digs n k j).length ((digs n k j).map byteV) rfl (HO.out.1.alloc _) (wr.heap.size + 1) (some ⟨wr.heap.size, 0, none⟩) 1 1 [.int .u8 ((n : Int) / 2 ^ (8 * (k - 1 - j)) % 256)] rfl rfl (lies_one _ _ _) (by simp [Value.oneCell']) (by simp [maxLen]; omega) (by omega) (by simp; omega) ?_; intro v' w1 hown hg hb; have HO2 := Lib.hid (And.intro hown (And.intro hg hb)); clear hown hg hb)
      refine ⟨⟨j + 1, by omega, by simp; omega, ?_, ?_⟩, by simp [intOf]; omega⟩
      · have h1 := HO2.out.1
        rw [HV.out] at h1
        have h5 : (digs n k (j + 1)).length = (digs n k j).length + 1 := by simp [digs_length]
        unfold Owned
        rw [h5, digs, List.map_append]
        exact h1
      · exact (HO.out.2.1.trans (Keeps.alloc _ _) (by simp)).trans (Keeps.of_grown HO2.out.2.1) (fun x hx hlt => by
          have := (HO.out.1.lt x (by simpa using hx)).1
          omega)
    · obtain rfl : j = k := by omega
      have HO := Lib.hid (And.intro ho hkp)
      clear ho hkp
      have hd : decide ((0 : Int) ≤ (j : Int) - 1 - j) = false := by simp; omega
      go_wp2
      go_ret
      have := HO.out.1
      rw [digs_all] at this
      exact ⟨_, rfl, this, HO.out.2⟩
end Go.Proofs.Ythepcoifcoinoaa

namespace Go.Proofs.Ythepcoifcoinoaa
open Go.RowKit

theorem owned_lt {w : World} {base : Nat} {v : Value} {l : List UInt8} (h : Owned w base v l) (g : Nat) (hg : v.ownBlock = some g) : base ≤ g ∧ g < w.heap.size := h.lt g hg

set_option maxRecDepth 100000 in
set_option maxHeartbeats 1000000 in
theorem wrNumber_any (w : World) (base p : Nat) (v : Value) (l : List UInt8) (n k : Nat) (h : Wr w base p v l) (hk1 : 1 ≤ k) (hk8 : k ≤ 8) (hn : n < 256 ^ k) (hlen : l.length + k ≤ 65536) (hbase : base ≤ w.heap.size) :
    Calls Try.prog 49 #[.pointer (some ⟨p, 0, none⟩), .int .u64 n, .int .i64 k] w fun e w' =>
      e = .returned (.int .i64 0) ∧ ∃ v', Wr w' base p v' (l ++ toBE k n) ∧ Keeps w w' (p :: v.ownBlock.toList) ∧ (v'.ownBlock = v.ownBlock ∨ ∀ g, v'.ownBlock = some g → w.heap.size ≤ g) := by
  have hw : withinB (k : Int) 1 8 = true := by simp [withinB]; omega
  have hn64 : n < 18446744073709551616 := by
    have h3 : 256 ^ k ≤ 256 ^ 8 := Nat.pow_le_pow_right (by omega) hk8
    have h4 : (256 : Nat) ^ 8 = 18446744073709551616 := by decide
    omega
  have hsh : decide ((0 : Int) < (n : Int) / 2 ^ (8 * k)) = false := by
    have h2 : (256 : Nat) ^ k = 2 ^ (8 * k) := by rw [Nat.pow_mul]
    rw [h2] at hn
    have h1 : n / 2 ^ (8 * k) = 0 := Nat.div_eq_of_lt hn
    have h3 : (n : Int) / 2 ^ (8 * k) = ((n / 2 ^ (8 * k) : Nat) : Int) := by rw [Int.natCast_ediv, Int.natCast_pow]; rfl
    rw [h3, h1]; rfl
  have H := Lib.hid h
  clear h hn
  have hplt := H.out.1.lt
  by_cases h8 : k < 8
  all_goals
    have hd8 := h8
    go_enter Try.func49, Try.ntmps49
    go_wp2_with fail
    go_step3
    go_wp2_with fail
    refine (wrNone_any _ _ _ H.out.1).mono ?_
    rintro e w1 ⟨rfl, rfl⟩
    go_wp2_with fail
    refine (wide_any _ _).mono ?_
    rintro e w1 ⟨rfl, rfl⟩
    rw [hw]
    go_wp2_with fail
    refine (laid_any _ n k hk1 hk8 hn64).mono ?_
    rintro e w1 ⟨u, rfl, ho, hk⟩
    have HO := Lib.hid (And.intro ho hk)
    clear ho hk
    go_wp2_with fail
    have hW1 : Wr w1 base p v l := H.out.keep HO.out.2 (by simp) (by simp)
    have hlt := HO.out.1.lt
    refine (wrPut_any w1 base p v u l (toBE k n) hW1 (HO.out.1.bytes (by rw [toBE_length]; omega)) (by rw [toBE_length]; exact hlen) (Nat.le_trans hbase HO.out.2.size)).mono ?_
    rintro e w2 ⟨rfl, v', hw2, hk2, hb2⟩
    have HF := Lib.hid (And.intro hw2 (And.intro hk2 hb2))
    clear hw2 hk2 hb2 hW1 hlt
    go_wp2
    rw [Exit.noGoto_ret]
    go_ret
    obtain ⟨hw2, hk2, hb2⟩ := HF.out
    refine ⟨rfl, v', hw2, (HO.out.2.weaken (T := p :: v.ownBlock.toList) (by simp)).trans hk2 (fun x hx _ => hx), ?_⟩
    rcases hb2 with hb2 | hb2
    · exact .inl hb2
    · exact .inr fun g hg => Nat.le_trans HO.out.2.size (hb2 g hg)

set_option maxRecDepth 100000 in
set_option maxHeartbeats 1000000 in
theorem wrBytes_any (w : World) (base p : Nat) (v : Value) (l : List UInt8) (h : Wr w base p v l) (hlen : l.length ≤ 140737488351232) :
    Calls Try.prog 50 #[.pointer (some ⟨p, 0, none⟩)] w fun e w' => ∃ v', e = .returned v' ∧ Owned w' w.heap.size v' l ∧ Keeps w w' [] := by
  have h0 := h.1.cell 0
  have hB := h.2.bytes hlen
  obtain ⟨A, c, rfl, hc, hcm, hnil, hL⟩ := h.2.parts
  have H := Lib.hid h
  have HB := Lib.hid hB
  clear h hB hnil hL
  go_enter Try.func50, Try.ntmps50
  go_wp2_with fail
  refine (wrNone_any _ _ _ H.out.1).mono ?_
  rintro e w1 ⟨rfl, rfl⟩
  go_wp2_with fail
  refine (clone_any _ _ _ HB.out).mono ?_
  rintro e w1 ⟨v', rfl, ho, hk⟩
  have HO := Lib.hid (And.intro ho hk)
  clear ho hk
  go_wp2
  go_ret
  exact ⟨v', rfl, HO.out.1, HO.out.2⟩
end Go.Proofs.Ythepcoifcoinoaa

namespace Go.Proofs.Ythepcoifcoinoaa
open Go.RowKit

set_option maxRecDepth 100000 in
set_option maxHeartbeats 400000 in
theorem within_any (n a b : Int) (w : World) :
    Calls Try.prog 45 #[.int .i64 n, .int .i64 a, .int .i64 b] w fun e w' => e = .returned (.bool (withinB n a b)) ∧ w = w' := by
  by_cases h : a ≤ n <;> by_cases h2 : n ≤ b
  all_goals
    go_enter Try.func45, Try.ntmps45
    go_wp2
    go_ret
    exact ⟨by simp [withinB, h, h2], rfl⟩

/-- What a kind is called. -/
def kindName : Int → ByteArray
  | 1 => ⟨#[109, 101, 116, 97]⟩
  | 2 => ⟨#[108, 101, 97, 102]⟩
  | 3 => ⟨#[98, 114, 97, 110, 99, 104]⟩
  | 4 => ⟨#[99, 104, 97, 105, 110]⟩
  | _ => ⟨#[102, 114, 101, 101]⟩

set_option maxRecDepth 100000 in
set_option maxHeartbeats 1000000 in
theorem names_any (w : World) :
    Calls Try.prog 53 #[] w fun e w' => e = .returned (.agg #[.string ByteArray.empty, .string (kindName 1), .string (kindName 2), .string (kindName 3), .string (kindName 4), .string (kindName 5)]) ∧ Keeps w w' [] := by
  go_enter Try.func53, Try.ntmps53
  go_wp2
  exact bodyPost_ret (v := .agg #[.string ByteArray.empty, .string (kindName 1), .string (kindName 2), .string (kindName 3), .string (kindName 4), .string (kindName 5)]) (by simp [results, Try.results53, go_sem]; exact ⟨rfl, rfl, rfl, rfl, rfl, rfl⟩) rfl ⟨rfl, Keeps.alloc _ _⟩

set_option maxRecDepth 100000 in
set_option maxHeartbeats 1000000 in
theorem textNo_any (k : Int) (hk : k < 1 ∨ 5 < k) (w : World) :
    Calls Try.prog 23 #[.int .i64 k] w fun e w' => e = .returned (.tuple #[.string ByteArray.empty, .int .i64 2]) ∧ w = w' := by
  by_cases h : k < 1
  all_goals
    go_enter Try.func23, Try.ntmps23
    go_wp2
    go_ret2
    exact ⟨rfl, rfl⟩

theorem name_at (k : Int) (hk : k = 1 ∨ k = 2 ∨ k = 3 ∨ k = 4 ∨ k = 5) (w : World) :
    (Instr.index 91 (.agg #[.string ByteArray.empty, .string (kindName 1), .string (kindName 2), .string (kindName 3), .string (kindName 4), .string (kindName 5)]) (.int .i64 k)).run Try.prog w = .ok (.string (kindName k)) w := by
  rcases hk with rfl | rfl | rfl | rfl | rfl <;> kernel_rfl

set_option maxRecDepth 100000 in
set_option maxHeartbeats 1000000 in
theorem textYes_any (k : Int) (hk : 1 ≤ k ∧ k ≤ 5) (w : World) :
    Calls Try.prog 23 #[.int .i64 k] w fun e w' => e = .returned (.tuple #[.string (kindName k), .int .i64 0]) ∧ Keeps w w' [] := by
  have hi := fun w => name_at k (by omega) w
  have b1 : ¬ k < 1 := by omega
  have b2 : ¬ 5 < k := by omega
  clear hk
  go_enter Try.func23, Try.ntmps23
  go_wp2_with fail
  refine (names_any _).mono ?_
  rintro e w1 ⟨rfl, hk⟩
  have HK := Lib.hid hk
  clear hk
  go_wp2
  go_ret2
  exact ⟨rfl, HK.out⟩

/-- May a page of these parts be? -/
def pageOk (k t n : Int) (len : Nat) : Bool := withinB k 1 5 && (withinB t 0 4611686018427387904 && (withinB n 0 4095 && decide (len ≤ 232)))
theorem pageOk_true {k t n : Int} {len : Nat} (h : pageOk k t n len = true) : (1 ≤ k ∧ k ≤ 5) ∧ (0 ≤ t ∧ t ≤ 4611686018427387904) ∧ (0 ≤ n ∧ n ≤ 4095) ∧ len ≤ 232 := by
  simpa [pageOk, withinB] using h

set_option maxRecDepth 100000 in
set_option maxHeartbeats 1000000 in
theorem checkYes_any (k t n : Int) (A : Option Addr) (len c : Nat) (h : pageOk k t n len = true) (w : World) :
    Calls Try.prog 19 #[.agg #[.int .i64 k, .int .i64 t, .int .i64 n, .slice A len c]] w fun e w' => e = .returned (.int .i64 0) ∧ Keeps w w' [] := by
  obtain ⟨hk, ht, hn, hl⟩ := pageOk_true h
  have b1 : withinB t 0 4611686018427387904 = true := by simp [withinB, ht]
  have b2 : withinB n 0 4095 = true := by simp [withinB, hn]
  have h4 : decide ((232 : Int) < (len : Int)) = false := by simp; omega
  clear h
  go_enter Try.func19, Try.ntmps19
  go_wp2_with fail
  refine (textYes_any k hk _).mono ?_
  rintro e w1 ⟨rfl, hk1⟩
  have r1 := (Row.new w 26 #[.int .i64 k, .int .i64 t, .int .i64 n, .slice A len c]).keep hk1 (by simp)
  have HK := Lib.hid ((Keeps.alloc w (.cells #[.int .i64 k, .int .i64 t, .int .i64 n, .slice A len c] 26)).trans hk1 (by simp))
  have c1 := r1.cell 1
  have c2 := r1.cell 2
  have c3 := r1.cell 3
  clear r1 hk1 hk ht hn
  go_wp2_with fail
  refine (within_any _ _ _ _).mono ?_
  rintro e w2 ⟨rfl, rfl⟩
  rw [b1]
  go_wp2_with fail
  refine (within_any _ _ _ _).mono ?_
  rintro e w2 ⟨rfl, rfl⟩
  rw [b2]
  go_wp2
  go_ret
  exact ⟨rfl, HK.out⟩

set_option maxRecDepth 100000 in
set_option maxHeartbeats 2000000 in
theorem checkNo_any (k t n : Int) (A : Option Addr) (len c : Nat) (hlen : len ≤ 140737488351232) (h : pageOk k t n len = false) (w : World) :
    Calls Try.prog 19 #[.agg #[.int .i64 k, .int .i64 t, .int .i64 n, .slice A len c]] w fun e w' => e = .returned (.int .i64 2) ∧ Keeps w w' [] := by
  by_cases hk : 1 ≤ k ∧ k ≤ 5
  · cases b1 : withinB t 0 4611686018427387904 <;> cases b2 : withinB n 0 4095
    all_goals
      have B1 := Lib.hid b1
      have B2 := Lib.hid b2
      have h4 : withinB t 0 4611686018427387904 = true → withinB n 0 4095 = true → decide ((232 : Int) < (len : Int)) = true := by
        intro e1 e2
        have hk' : withinB k 1 5 = true := by simp [withinB, hk]
        simp only [pageOk, e1, e2, hk', Bool.true_and, decide_eq_false_iff_not] at h
        simp; omega
      first
        | have h5 := h4 b1 b2
        | skip
      clear h4 h b1 b2
      go_enter Try.func19, Try.ntmps19
      go_wp2_with fail
      refine (textYes_any k hk _).mono ?_
      rintro e w1 ⟨rfl, hk1⟩
      have r1 := (Row.new w 26 #[.int .i64 k, .int .i64 t, .int .i64 n, .slice A len c]).keep hk1 (by simp)
      have HK := Lib.hid ((Keeps.alloc w (.cells #[.int .i64 k, .int .i64 t, .int .i64 n, .slice A len c] 26)).trans hk1 (by simp))
      have c1 := r1.cell 1
      have c2 := r1.cell 2
      have c3 := r1.cell 3
      clear r1 hk1
      go_wp2_with (go_at_call 45; refine (within_any _ _ _ _).mono ?_; rintro e w2 ⟨rfl, rfl⟩; first | rw [B1.out] | rw [B2.out])
      go_wp2
      go_ret
      exact ⟨rfl, HK.out⟩
  · clear h
    have hk' : k < 1 ∨ 5 < k := by omega
    clear hk
    go_enter Try.func19, Try.ntmps19
    go_wp2_with fail
    refine (textNo_any k hk' _).mono ?_
    rintro e w1 ⟨rfl, rfl⟩
    clear hk'
    go_wp2
    go_ret
    exact ⟨rfl, Keeps.alloc _ _⟩
end Go.Proofs.Ythepcoifcoinoaa

namespace Go.Proofs.Ythepcoifcoinoaa
open Go.RowKit

theorem pageOk_dec (k t n : Int) (len : Nat) : pageOk k t n len = decide (1 ≤ k ∧ k ≤ 5 ∧ 0 ≤ t ∧ t ≤ 4611686018427387904 ∧ 0 ≤ n ∧ n ≤ 4095 ∧ len ≤ 232) := by
  rw [Bool.eq_iff_iff]
  simp [pageOk, withinB, and_assoc]
theorem ret_bool {a b : Bool} (h : a = b) : Ending.returned (.bool a) = .returned (.bool b) := by rw [h]

set_option maxRecDepth 100000 in
set_option maxHeartbeats 2000000 in
theorem right_any (k t n : Int) (A : Option Addr) (len c : Nat) (hlen : len ≤ 140737488351232) (w : World) :
    Calls Try.prog 20 #[.agg #[.int .i64 k, .int .i64 t, .int .i64 n, .slice A len c]] w fun e w' => e = .returned (.bool (pageOk k t n len)) ∧ Keeps w w' [] := by
  go_enter Try.func20, Try.ntmps20
  go_wp2
  all_goals
    go_ret
    refine ⟨ret_bool ?_, Keeps.alloc _ _⟩
    rw [pageOk_dec]
    first
      | exact (decide_eq_true (by omega)).symm
      | exact (decide_eq_false (by omega)).symm
      | (rw [decide_eq_decide]; omega)
end Go.Proofs.Ythepcoifcoinoaa
