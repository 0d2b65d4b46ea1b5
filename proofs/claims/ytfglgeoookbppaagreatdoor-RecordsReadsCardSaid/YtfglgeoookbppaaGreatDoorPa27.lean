/- slices.Clone of bytes. Walks over package wire (layer 3): a reader. Walks over package wire (layer 3): a number read. Walks over package wire (layer 3): a writer. -/
import Derived.Test.YtfglgeoookbppaaGreatDoorPa0
import Derived.Handy
import Derived.StillTailTactics
import Derived.Test.YtfglgeoookbppaaGreatDoorPa1

namespace Go.Proofs.YtfglgeoookbppaaGreatDoor
open Go.RowKit

set_option maxRecDepth 100000 in
set_option maxHeartbeats 1000000 in
theorem clone_some (w : World) (ad : Addr) (c : Nat) (l : List UInt8) (hlen : l.length ≤ 140737488351232) (hL : Lies w w.heap.size (some ad) (l.map byteV)) :
  Calls Tryz.prog 87 #[.slice (some ad) l.length c] w fun e w' => ∃ v, e = .returned v ∧ Owned w' w.heap.size v l ∧ Keeps w w' [] := by
 have HL := Lib.hid hL
 clear hL
 obtain ⟨i0, hi, hz0, hz1, hz2⟩ := info_parts infoByte
 go_enter Tryz.func87, Tryz.ntmps87
 have hnil : ∀ w : World, (binOp .eql 39 (.slice (some ad) l.length c) (.slice none 0 0)).run Tryz.prog w = .ok (.bool false) w := fun w => Lib.run_eql_slice_nil w _ _ _ _ _ _ _ undBytes
 go_wp2_with (at_builtin; refine wpList_append_lies' _ rfl (.tmp 5) (.tmp 6) 39 rfl w.heap.size 5 i0 (.int .u8 0) 1 undBytes hi hz0 hz1 hz2 rfl (.slice (some ⟨w.heap.size, 0, none⟩) 0 0) 0 [] rfl (run_empty_own w w.heap.size (Nat.le_refl _)) w.heap.size (some ad) l.length c (l.map byteV) rfl (by simp) (HL.out.below ((Below.refl _ _).alloc (Nat.le_refl _) _)) (byteV_one l) (by simp [maxLen]; omega) (by omega) (by simp) ?_; intro v' w1 hown hg hb)
 have HO := Lib.hid (And.intro hown hg)
 clear hown hg
 go_wp2
 go_ret
 refine ⟨v', rfl, by simpa using HO.out.1, (Keeps.alloc _ _).trans (Keeps.of_grown HO.out.2) (by simp [Value.ownBlock])⟩

set_option maxRecDepth 100000 in
set_option maxHeartbeats 1000000 in
theorem clone_nil (w : World) :
  Calls Tryz.prog 87 #[.slice none 0 0] w fun e w' => e = .returned (.slice none 0 0) ∧ w = w' := by
 have hnil : ∀ w : World, (binOp .eql 39 (.slice none 0 0) (.slice none 0 0)).run Tryz.prog w = .ok (.bool true) w := fun w => Lib.run_eql_slice_nil w _ _ _ _ _ _ _ undBytes
 go_enter Tryz.func87, Tryz.ntmps87
 go_wp2
 go_ret
 exact ⟨rfl, rfl⟩

theorem clone_any (w : World) (v : Value) (l : List UInt8) (h : Bytes w w.heap.size v l) :
  Calls Tryz.prog 87 #[v] w fun e w' => ∃ v', e = .returned v' ∧ Owned w' w.heap.size v' l ∧ Keeps w w' [] := by
 obtain ⟨A, c, rfl, hc, hnil, hcm, hlen, hL⟩ := h
 rcases A with _ | ad
 ·obtain rfl := hnil rfl
  have hl : l = [] := List.eq_nil_of_length_eq_zero (by omega)
  subst hl
  refine (clone_nil w).mono ?_
  rintro e w' ⟨rfl, rfl⟩
  exact ⟨_, rfl, World.ownsRow_nil _ _ _ _, Keeps.refl _ _⟩
 ·exact clone_some w ad c l (by omega) hL
end Go.Proofs.YtfglgeoookbppaaGreatDoor

namespace Go.Proofs.YtfglgeoookbppaaGreatDoor
open Go.RowKit

/-- A reader at r (in blocks from base on) that has the bytes l left. -/
def Rd (w : World) (base r : Nat) (l : List UInt8) : Prop :=
 ∃ A c, Row w r 123 #[.slice A l.length c, .bool true] ∧ base ≤ r ∧ l.length ≤ c ∧ (A = none → c = 0) ∧ c ≤ maxLen ∧ Lies w w.heap.size A (l.map byteV) ∧ ∀ ad, A = some ad → base ≤ ad.block ∧ ad.block ≠ r

theorem Rd.keep {w w' : World} {base r : Nat} {l : List UInt8} {S : List Nat} (h : Rd w base r l) (hk : Keeps w w' S) (hS : ∀ x, x ∈ S → x < base) : Rd w' base r l := by
 obtain ⟨A, c, h1, h2, h3, h4, h5, h6, h7⟩ := h
 refine ⟨A, c, h1.keep hk (fun hm => by have := hS _ hm; omega), h2, h3, h4, h5, ?_, h7⟩
 exact (h6.keep' hk (Nat.le_refl _) (fun b o e hm => by have := hS _ hm; have := (h7 _ e).1; simp at this; omega)).mono hk.size

set_option maxRecDepth 100000 in
set_option maxHeartbeats 400000 in
theorem rdNone_any (w : World) (r : Nat) (v : Value) (h : Row w r 123 #[v, .bool true]) :
  Calls Tryz.prog 90 #[.pointer (some ⟨r, 0, none⟩)] w fun e w' => e = .returned (.bool false) ∧ w = w' := by
 have h1 := h.cell 1
 have H := Lib.hid h
 clear h
 go_enter Tryz.func90, Tryz.ntmps90
 go_wp2
 go_ret
 exact ⟨rfl, rfl⟩

set_option maxRecDepth 100000 in
set_option maxHeartbeats 400000 in
theorem newReader_any (w : World) (v : Value) (l : List UInt8) (h : Bytes w w.heap.size v l) :
  Calls Tryz.prog 39 #[v] w fun e w' => ∃ r, e = .returned (.pointer (some ⟨r, 0, none⟩)) ∧ Rd w' w.heap.size r l ∧ Keeps w w' [] := by
 have hlen := h.len
 have H := Lib.hid h
 clear h
 go_enter Tryz.func39, Tryz.ntmps39
 go_wp2_with fail
 refine (clone_any _ _ _ H.out).mono ?_
 rintro e w1 ⟨v', rfl, ho, hk⟩
 obtain ⟨A, c, rfl, hc, hcm, hnil, hL⟩ := ho.parts
 have HO := Lib.hid (And.intro ho hk)
 clear ho hk
 have HL := Lib.hid (And.intro hL hnil)
 clear hL hnil
 go_wp2
 go_ret
 have ho := HO.out.1
 refine ⟨w1.heap.size, rfl, ⟨A, c, Row.new _ _ _, HO.out.2.size, hc, HL.out.2, hcm, (HL.out.1.keep (Keeps.alloc _ _) (Nat.le_refl _) (by simp)).mono (by simp), ?_⟩, HO.out.2.trans (Keeps.alloc _ _) (by simp)⟩
 rintro ad rfl
 have := Owned.block ho
 omega

set_option maxRecDepth 100000 in
set_option maxHeartbeats 400000 in
theorem rdTake_any (w : World) (r : Nat) :
  Calls Tryz.prog 126 #[.pointer (some ⟨r, 0, none⟩)] w fun e w' => e = .returned (.func (.func 144) #[] #[.pointer (some ⟨w.heap.size, 0, none⟩)]) ∧ w' = w.alloc (.cells #[.pointer (some ⟨r, 0, none⟩)] 77) := by
 have hmf : ∀ (fn : Fn) (first cap : Array Value) (w : World), (Instr.makeFunc fn first cap).run Tryz.prog w = .ok (.func fn first cap) w := fun _ _ _ _ => rfl
 go_enter Tryz.func126, Tryz.ntmps126
 go_wp2
 go_ret
 exact ⟨rfl, rfl⟩

set_option maxRecDepth 100000 in
set_option maxHeartbeats 1000000 in
theorem rdTake1_any (w : World) (r bx n len c : Nat) (A : Option Addr) (h : Row w r 123 #[.slice A len c, .bool true]) (hb : w.cell? ⟨bx, 0, none⟩ = some (.pointer (some ⟨r, 0, none⟩))) (hn : n ≤ len) (hc : len ≤ c) (_hcm : c ≤ maxLen) :
  Calls Tryz.prog 144 #[.int .i64 n, .pointer (some ⟨bx, 0, none⟩)] w fun e w' => e = .returned (.tuple #[.slice A n n, .bool true]) ∧
   w' = (w.setCell ⟨r, 0, none⟩ (.slice (if c = n then A else A.map (·.add n)) (len - n) (c - n))).drew := by
 have h0 := h.cell 0
 have hf := h.frozen 0
 have H := Lib.hid h
 clear h
 have hlt : decide ((len : Int) < (n : Int)) = false := by simp; omega
 go_enter Tryz.func144, Tryz.ntmps144
 go_wp2
 go_still_tail 11, (by kernel_rfl)
 go_wp2
 all_goals
  go_ret2
  exact ⟨rfl, rfl⟩
end Go.Proofs.YtfglgeoookbppaaGreatDoor

namespace Go.Proofs.YtfglgeoookbppaaGreatDoor
open Go.RowKit

def withinB (n a b : Int) : Bool := decide (a ≤ n) && decide (n ≤ b)

set_option maxRecDepth 100000 in
set_option maxHeartbeats 400000 in
theorem wide_any (n : Int) (w : World) :
  Calls Tryz.prog 92 #[.int .i64 n] w fun e w' => e = .returned (.bool (withinB n 1 8)) ∧ w = w' := by
 by_cases h : 1 ≤ n <;> by_cases h2 : n ≤ 8
 all_goals
  go_enter Tryz.func92, Tryz.ntmps92
  go_wp2
  go_ret
  exact ⟨by simp [withinB, h, h2], rfl⟩

set_option maxRecDepth 100000 in
set_option maxHeartbeats 2000000 in
theorem rdNumber_any (w : World) (base r k : Nat) (l : List UInt8) (h : Rd w base r l) (hk1 : 1 ≤ k) (hk8 : k ≤ 8) (hkl : k ≤ l.length) :
  Calls Tryz.prog 88 #[.pointer (some ⟨r, 0, none⟩), .int .i64 k] w fun e w' =>
   e = .returned (.tuple #[.int .u64 (beN (l.take k) : Nat), .int .i64 0]) ∧ Rd w' base r (l.drop k) ∧ Keeps w w' [r] := by
 obtain ⟨A, c, hr, hbr, hc, hnil, hcm, hL, had⟩ := h
 have hlt := hr.lt
 have HR := Lib.hid hr
 have HL := Lib.hid (And.intro hL (And.intro hnil had))
 clear hr hL hnil had
 have hw : withinB (k : Int) 1 8 = true := by simp [withinB]; omega
 go_enter Tryz.func88, Tryz.ntmps88
 go_wp2_with fail
 refine (rdNone_any _ _ _ HR.out).mono ?_
 rintro e w1 ⟨rfl, rfl⟩
 go_wp2_with fail
 refine (wide_any _ _).mono ?_
 rintro e w1 ⟨rfl, rfl⟩
 rw [hw]
 clear hw
 go_wp2_with fail
 refine (rdTake_any _ _).mono ?_
 rintro e w1 ⟨rfl, rfl⟩
 go_wp2_with fail
 refine (rdTake1_any _ r w.heap.size k l.length c A (HR.out.alloc _) (by simp [World.cell?_alloc_new]) hkl hc hcm).mono ?_
 rintro e w2 ⟨rfl, hw2⟩
 have hk2 : Keeps w w2 [r] := by
  subst hw2
  exact (((Keeps.alloc w _).weaken (T := [r]) (by simp)).trans (Keeps.setCell _ ⟨r, 0, none⟩ _) (by simp)).trans (Keeps.drew _) (by simp)
 have hr2 : Row w2 r 123 #[.slice (if c = k then A else A.map (·.add k)) (l.length - k) (c - k), .bool true] := by
  subst hw2
  exact ((HR.out.alloc _).store 0 _)
 have hL2 : Lies w2 w.heap.size A (l.map byteV) := HL.out.1.keep' hk2 (Nat.le_refl _) (fun b o e hm => by simp at hm; exact (HL.out.2.2 _ e).2 hm)
 have H2 := Lib.hid (And.intro hk2 (And.intro hr2 hL2))
 clear hk2 hr2 hL2 hw2
 go_wp2
 go_loop [8, 9, 27] (fun t _ i => ∃ j : Nat, j ≤ k ∧ i = .int .i64 j ∧ t = .int .u64 (beN (l.take j) : Nat)) (fun _ _ i => k - (intOf i).toNat)
 case atStart => exact ⟨0, by omega, rfl, rfl⟩
 case round =>
  obtain ⟨j, hj, rfl, rfl⟩ := hrel
  by_cases hjk : j < k
  ·have hjl : j < l.length := by omega
   obtain ⟨b, o, rfl, hb, hcx⟩ := H2.out.2.2.at_ (k := j) (by simpa using hjl)
   rw [byteV_get l hjl] at hcx
   have hsucc : beN (l.take (j + 1)) = beN (l.take j) * 256 + l[j].toNat := by rw [List.take_succ_eq_append_getElem hjl, beN_snoc]
   have hn : beN (l.take j) < 72057594037927936 := by
    have h1 := beN_lt (l.take j)
    have h2 : (l.take j).length ≤ 7 := by rw [List.length_take]; omega
    have h3 : 256 ^ (l.take j).length ≤ 256 ^ 7 := Nat.pow_le_pow_right (by omega) h2
    have h4 : (256 : Nat) ^ 7 = 72057594037927936 := by decide
    omega
   have hx : l[j].toNat < 256 := l[j].toNat_lt
   generalize l[j].toNat = x at *
   generalize beN (l.take j) = M at *
   have HS := Lib.hid hsucc
   clear hsucc
   have HB := Lib.hid (be_step M x hn hx)
   go_wp2
   exact ⟨⟨j + 1, by omega, by go_num, by rw [HB.out, HS.out]⟩, by simp [intOf]; omega⟩
  ·obtain rfl : j = k := by omega
   go_wp2
   go_ret2
   refine ⟨rfl, ?_, H2.out.1⟩
   have hal : (if c = j then A else A.map (·.add j)) = none → c - j = 0 := by
    intro hn
    split at hn
    ·omega
    ·have : A = none := by simpa using hn
     have := HL.out.2.1 this
     omega
   have hll : (l.drop j).length = l.length - j := by simp
   refine ⟨_, c - j, by rw [hll]; exact H2.out.2.1, hbr, by rw [hll]; omega, hal, by omega, ?_, ?_⟩
   ·have := H2.out.2.2.cut (k := j) (cap := c) (by simpa using hc)
    rw [List.map_drop]
    exact this.mono H2.out.1.size
   ·intro ad had
    split at had
    ·exact HL.out.2.2 ad had
    ·cases A with
     | none => cases had
     | some a0 =>
      simp only [Option.map_some, Option.some.injEq] at had
      subst had
      have := HL.out.2.2 a0 rfl
      have hblk : (a0.add j).block = a0.block := by unfold Addr.add; split <;> rfl
      rw [hblk]; exact this
end Go.Proofs.YtfglgeoookbppaaGreatDoor

namespace Go.Proofs.YtfglgeoookbppaaGreatDoor
open Go.RowKit


/-- A writer at p that holds the value v, which reads as the bytes l (in blocks from base on). -/
def WrB (w : World) (base p : Nat) (v : Value) (l : List UInt8) : Prop :=
 Row w p 127 #[v, .bool true] ∧ Owned w base v l

theorem WrB.ne {w : World} {base p : Nat} {v : Value} {l : List UInt8} (h : WrB w base p v l) : v.ownBlock ≠ some p := own_ne_row h.2 h.1 (by decide)
theorem WrB.keep {w w' : World} {base p : Nat} {v : Value} {l : List UInt8} {S : List Nat} (h : WrB w base p v l) (hk : Keeps w w' S) (hp : p ∉ S) (hv : ∀ g, v.ownBlock = some g → g ∉ S) : WrB w' base p v l :=
 ⟨h.1.keep hk hp, own_keep h.2 hk hv⟩

set_option maxRecDepth 100000 in
set_option maxHeartbeats 400000 in
theorem newWriter_any (w : World) :
  Calls Tryz.prog 47 #[] w fun e w' => e = .returned (.pointer (some ⟨w.heap.size, 0, none⟩)) ∧ WrB w' w.heap.size w.heap.size (.slice none 0 0) [] ∧ Keeps w w' [] := by
 go_enter Tryz.func47, Tryz.ntmps47
 go_wp2
 go_ret
 exact ⟨rfl, ⟨Row.new _ _ _, World.ownsRow_nil _ _ _ _⟩, Keeps.alloc _ _⟩

set_option maxRecDepth 100000 in
set_option maxHeartbeats 400000 in
theorem wrNone_any (w : World) (r : Nat) (v : Value) (h : Row w r 127 #[v, .bool true]) :
  Calls Tryz.prog 91 #[.pointer (some ⟨r, 0, none⟩)] w fun e w' => e = .returned (.bool false) ∧ w = w' := by
 have h1 := h.cell 1
 have H := Lib.hid h
 clear h
 go_enter Tryz.func91, Tryz.ntmps91
 go_wp2
 go_ret
 exact ⟨rfl, rfl⟩

set_option maxRecDepth 100000 in
set_option maxHeartbeats 1000000 in
theorem wrPut_any (w : World) (base p : Nat) (v u : Value) (l b : List UInt8) (h : WrB w base p v l) (hb : Bytes w w.heap.size u b) (hlen : l.length + b.length ≤ 65536) (hbase : base ≤ w.heap.size) :
  Calls Tryz.prog 93 #[.pointer (some ⟨p, 0, none⟩), u] w fun e w' =>
   e = .returned (.int .i64 0) ∧ ∃ v', WrB w' base p v' (l ++ b) ∧ Keeps w w' (p :: v.ownBlock.toList) ∧ (v'.ownBlock = v.ownBlock ∨ ∀ g, v'.ownBlock = some g → w.heap.size ≤ g) := by
 have hne := h.ne
 obtain ⟨hr, ho⟩ := h
 obtain ⟨i0, hi, hz0, hz1, hz2⟩ := info_parts infoByte
 have hlt := hr.lt
 have h0 := hr.cell 0
 obtain ⟨A, c, rfl, hc, hcm, hnil, hL⟩ := ho.parts
 obtain ⟨A2, c2, rfl, hc2, hnil2, hcm2, hlen2, hL2⟩ := hb
 have H := Lib.hid (And.intro hr (And.intro ho (And.intro hnil (And.intro hL (And.intro hnil2 hL2)))))
 have HNE := Lib.hid hne
 clear hr ho hnil hL hnil2 hL2 hne
 go_enter Tryz.func93, Tryz.ntmps93
 go_wp2_with (at_builtin; refine wpList_append_lies' _ rfl (.tmp 20) (.tmp 21) 39 rfl base 5 i0 (.int .u8 0) 1 undBytes hi hz0 hz1 hz2 rfl (.slice A l.length c) l.length (l.map byteV) rfl H.out.2.1 w.heap.size A2 b.length c2 (b.map byteV) rfl (by simp) H.out.2.2.2.2.2 (byteV_one b) (by simp [maxLen]; omega) (by omega) hbase ?_; intro v' w1 hown hg hb; obtain ⟨A3, c3, rfl, h3, h4⟩ := own_slice hown; have hk := Keeps.of_grown hg; have hr1 := H.out.1.keep hk (fun hm => HNE.out (by simpa using hm)); have hc1 := hr1.cell 0; have hf1 := hr1.frozen 0; have HO := Lib.hid (And.intro hown (And.intro hk (And.intro hr1 hb))); clear hown hg hb hk hr1)
 go_wp2
 go_ret
 obtain ⟨hown, hk, hr1, hb⟩ := HO.out
 have hne3 := own_ne_row hown hr1 (by decide)
 refine ⟨rfl, .slice A3 (l.length + b.length) c3, ⟨hr1.store 0 _, ?_⟩, (hk.weaken (T := p :: (Value.slice A l.length c).ownBlock.toList) (fun x hx _ => List.mem_cons_of_mem _ hx)).trans (Keeps.setCell _ _ _) (fun x hx _ => by simp at hx; subst hx; exact List.mem_cons_self), ?_⟩
 ·have h5 : (l ++ b).length = l.length + b.length := by simp
  unfold Owned
  rw [h5, List.map_append]
  exact own_keep hown (Keeps.setCell _ _ _) (fun g hg hm => hne3 (by simp at hm; subst hm; exact hg))
 ·rcases hb with hb | hb
  ·exact .inl hb
  ·exact .inr fun g hg => by rw [hb] at hg; injection hg with hg; omega



theorem lies_oneW (w : World) (x : Value) (t : TypeId) : Lies (w.alloc (.cells #[x] t)) (w.heap.size + 1) (some ⟨w.heap.size, 0, none⟩) [x] := fun _ => by
 refine ⟨w.heap.size, 0, rfl, by omega, fun i u hu => ?_⟩
 have hi : i = 0 := by
  rcases i with _ | i
  ·rfl
  ·simp at hu
 subst hi
 have := (Row.new w t #[x]).cell 0
 simp at hu
 subst hu
 simp [this]

set_option maxRecDepth 100000 in
set_option maxHeartbeats 1000000 in
theorem laid_any (w : World) (n k : Nat) (hk1 : 1 ≤ k) (hk8 : k ≤ 8) (_hn : n < 18446744073709551616) :
  Calls Tryz.prog 94 #[.slice none 0 0, .int .u64 n, .int .i64 k] w fun e w' =>
   ∃ v, e = .returned v ∧ Owned w' w.heap.size v (toBE k n) ∧ Keeps w w' [] := by
 obtain ⟨i0, hi, hz0, hz1, hz2⟩ := info_parts infoByte
 go_enter Tryz.func94, Tryz.ntmps94
 go_wp2
 go_loopw [0, 7] (fun v i wr => ∃ j : Nat, j ≤ k ∧ i = .int .i64 ((k : Int) - 1 - j) ∧ Owned wr w.heap.size v (digs n k j) ∧ Keeps w wr []) (fun _ i _ => ((intOf i) + 1).toNat)
 case atStart => exact ⟨0, by omega, by simp, World.ownsRow_nil _ _ _ _, Keeps.refl _ _⟩
 case round =>
  obtain ⟨j, hj, rfl, ho, hkp⟩ := hrel
  by_cases hjk : j < k
  ·obtain ⟨A, c, rfl, hc, hcm, hnil, hL⟩ := ho.parts
   have HO := Lib.hid (And.intro ho (And.intro hkp hnil))
   have HL := Lib.hid hL
   clear ho hkp hnil hL
   have hd : decide ((0 : Int) ≤ (k : Int) - 1 - j) = true := by simp; omega
   have hsz := HO.out.2.1.size
   have hl := digs_length n k j
   have HV := Lib.hid (digit_val n (k - 1 - j))
   go_wp2_with (at_builtin; refine wpList_append_lies' _ rfl (.tmp 14) (.tmp 20) 39 rfl w.heap.size 5 i0 (.int .u8 0) 1 undBytes hi hz0 hz1 hz2 rfl (.slice A (digs n k j).length c) (digs n k j).length ((digs n k j).map byteV) rfl (HO.out.1.alloc _) (wr.heap.size + 1) (some ⟨wr.heap.size, 0, none⟩) 1 1 [.int .u8 ((n : Int) / 2 ^ (8 * (k - 1 - j)) % 256)] rfl rfl (lies_oneW _ _ _) (by simp [Value.oneCell']) (by simp [maxLen]; omega) (by omega) (by simp; omega) ?_; intro v' w1 hown hg hb; have HO2 := Lib.hid (And.intro hown (And.intro hg hb)); clear hown hg hb)
   refine ⟨⟨j + 1, by omega, by simp; omega, ?_, ?_⟩, by simp [intOf]; omega⟩
   ·have h1 := HO2.out.1
    rw [HV.out] at h1
    have h5 : (digs n k (j + 1)).length = (digs n k j).length + 1 := by simp [digs_length]
    unfold Owned
    rw [h5, digs, List.map_append]
    exact h1
   ·exact (HO.out.2.1.trans (Keeps.alloc _ _) (by simp)).trans (Keeps.of_grown HO2.out.2.1) (fun x hx hlt => by
     have := (HO.out.1.lt x (by simpa using hx)).1
     omega)
  ·obtain rfl : j = k := by omega
   have HO := Lib.hid (And.intro ho hkp)
   clear ho hkp
   have hd : decide ((0 : Int) ≤ (j : Int) - 1 - j) = false := by simp; omega
   go_wp2
   go_ret
   have := HO.out.1
   rw [digs_all] at this
   exact ⟨_, rfl, this, HO.out.2⟩
end Go.Proofs.YtfglgeoookbppaaGreatDoor
