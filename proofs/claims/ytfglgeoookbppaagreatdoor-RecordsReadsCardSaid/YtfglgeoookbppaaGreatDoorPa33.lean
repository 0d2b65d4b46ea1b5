/- Walks over the reference of layer 3: a number's bytes. Reference 3: a text's bytes. Reference 19: Value. -/
import Derived.Test.YtfglgeoookbppaaGreatDoorPa28

namespace Go.Proofs.YtfglgeoookbppaaGreatDoor
open Go.RowKit



set_option maxRecDepth 100000 in
set_option maxHeartbeats 2000000 in
theorem refNumber_any (w : World) (n k : Nat) (hk1 : 1 ≤ k) (hk8 : k ≤ 8) (hn : n < 18446744073709551616) :
  Calls Tryz.prog 34 #[.int .u64 n, .int .i64 k] w fun e w' =>
   ∃ v, e = .returned (.tuple #[v, .bool (decide (n / 256 ^ k = 0))]) ∧ Owned w' w.heap.size v (toBE k n) ∧ Keeps w w' [] := by
 obtain ⟨i0, hi, hz0, hz1, hz2⟩ := info_parts infoByte
 have b1 : decide ((k : Int) < 1) = false := by simp; omega
 have b2 : decide ((8 : Int) < (k : Int)) = false := by simp; omega
 go_enter Tryz.func34, Tryz.ntmps34
 go_wp2_with (at_make; refine wpList_make_full _ rfl (.tmp 14) (.tmp 14) 39 rfl w.heap.size 5 i0 (.int .u8 0) 1 undBytes hi hz0 hz1 .i64 .i64 (k : Int) (k : Int) k rfl rfl rfl rfl (by rw [hz2]; omega) (by simp [maxLen]; omega) (Nat.le_refl _) ?_; intro w1 hown hg; have HO := Lib.hid (And.intro hown hg); clear hown hg)
 go_loopw [0, 7] (fun t i wr => ∃ j : Nat, j ≤ k ∧ i = .int .i64 ((k : Int) - 1 - j) ∧ t = .int .u64 (n / 256 ^ j : Nat) ∧ wr.ownsRow w.heap.size 5 1 (.slice (some ⟨w.heap.size, 0, none⟩) k k) k ((half k j n).map byteV) ∧ Keeps w wr []) (fun _ i _ => ((intOf i) + 1).toNat)
 case atStart =>
  refine ⟨0, by omega, by simp, by simp, ?_, Keeps.of_grown HO.out.2⟩
  have := HO.out.1
  rw [show (madeCells (Value.int .u8 0).cells (k * 1)).toList = (half k 0 n).map byteV by
   rw [Nat.mul_one]
   show (madeCells #[Value.int .u8 0] k).toList = _
   rw [toList_madeCells_one]
   simp [half, toBE, byteV]] at this
  exact this
 case round =>
  obtain ⟨j, hj, rfl, rfl, ho, hkp⟩ := hrel
  by_cases hjk : j < k
  ·have hcell : wr.cell? ⟨w.heap.size, k - 1 - j, none⟩ = some (((half k j n).map byteV)[k - 1 - j]'(by rw [List.length_map, half_length _ _ _ hj]; omega)) := by
    rw [ho.cellAt (k - 1 - j) (by omega)]
    exact List.getElem?_eq_getElem _
   obtain ⟨v0, hcell⟩ : ∃ v, wr.cell? ⟨w.heap.size, k - 1 - j, none⟩ = some v := ⟨_, hcell⟩
   have hfr := ho.frozenAt (k - 1 - j)
   have HO := Lib.hid (And.intro ho hkp)
   clear ho hkp
   have hd : decide ((0 : Int) ≤ (k : Int) - 1 - j) = true := by simp; omega
   have hn2 : n / 256 ^ j < 18446744073709551616 := Nat.lt_of_le_of_lt (Nat.div_le_self _ _) hn
   have HS := Lib.hid (half_set k j n hjk)
   have HD := Lib.hid (show n / 256 ^ (j + 1) = n / 256 ^ j / 256 by rw [Nat.pow_succ, Nat.div_div_eq_div_mul])
   generalize n / 256 ^ j = M at *
   go_wp2
   refine ⟨⟨j + 1, by omega, congrArg (Value.int .i64) (by push_cast; omega), ?_, ?_, ?_⟩, by simp [intOf]; omega⟩
   ·rw [HD.out]; rfl
   ·have hst := (HO.out.1.stored (k - 1 - j) (byteV (UInt8.ofNat M))).1
    rw [← List.map_set, HS.out] at hst
    have hbv : byteV (UInt8.ofNat M) = .int .u8 ((M : Int) % 256) := by
     unfold byteV
     rw [UInt8.toNat_ofNat']
     rfl
    rw [hbv] at hst
    exact hst
   ·exact (HO.out.2.weaken (T := [w.heap.size]) (by simp)).trans (Keeps.setCell _ _ _) (by simp) |>.weaken (fun x hx hl => by simp at hx; omega)
  ·obtain rfl : j = k := by omega
   have HO := Lib.hid (And.intro ho hkp)
   clear ho hkp
   have hd : decide ((0 : Int) ≤ (j : Int) - 1 - j) = false := by simp; omega
   go_wp2
   go_ret2
   have ho := HO.out.1
   rw [show half j j n = toBE j n by simp [half]] at ho
   refine ⟨.slice (some ⟨w.heap.size, 0, none⟩) j j, ?_, ?_, HO.out.2⟩
   ·have : (((n : Int) / 256 ^ j) == 0) = decide (n / 256 ^ j = 0) := by
     have h1 : (n : Int) / 256 ^ j = ((n / 256 ^ j : Nat) : Int) := by rw [Int.natCast_ediv, Int.natCast_pow]; rfl
     rw [h1]
     generalize n / 256 ^ j = M
     rw [Bool.eq_iff_iff]; simp
    simp [this]
   ·unfold Owned
    rw [toBE_length]
    exact ho
end Go.Proofs.YtfglgeoookbppaaGreatDoor

namespace Go.Proofs.YtfglgeoookbppaaGreatDoor
open Go.RowKit Go.Shelf

theorem toBE_two (n : Nat) : toBE 2 n = [UInt8.ofNat (n / 256), UInt8.ofNat n] := by
 rw [toBE_front 1 n, toBE_front 0 n]
 simp [toBE]
theorem own_two (w : World) (n : Nat) (hn : n ≤ 65535) : Owned (w.alloc (.cells #[.int .u8 ((n : Int) / 256), .int .u8 ((n : Int) % 256)] 5)) w.heap.size (.slice (some ⟨w.heap.size, 0, none⟩) 2 2) (toBE 2 n) := by
 rw [toBE_two]
 refine ⟨rfl, .inr ⟨w.heap.size, 2, #[.int .u8 ((n : Int) / 256), .int .u8 ((n : Int) % 256)], rfl, Nat.le_refl _, Row.new _ _ _, Nat.le_refl _, by simp [maxLen], rfl, ?_⟩⟩
 have h1 : ((n / 256 % 256 : Nat) : Int) = (n : Int) / 256 := by omega
 have h2 : ((n % 256 : Nat) : Int) = (n : Int) % 256 := by omega
 simp [byteV, h1, h2]
set_option maxRecDepth 100000 in
set_option maxHeartbeats 1000000 in
theorem refText_any (w : World) (s : List UInt8) (hs : s.length ≤ 65535) :
  Calls Tryz.prog 35 #[strV s] w fun e w' =>
   ∃ v, e = .returned (.tuple #[v, .bool true]) ∧ Owned w' w.heap.size v (toBE 2 s.length ++ s) ∧ Keeps w w' [] := by
 have hsz : (⟨s.toArray⟩ : ByteArray).size = s.length := size_str s
 have h16 : decide ((65535 : Int) < (s.length : Int)) = false := by simp; omega
 have hq : (s.length : Int).tdiv 256 = (s.length : Int) / 256 := Int.tdiv_eq_ediv_of_nonneg (by omega)
 have hr : (s.length : Int).tmod 256 = (s.length : Int) % 256 := Int.tmod_eq_emod_of_nonneg (by omega)
 have hw : IntKind.u8.wrap ((s.length : Int) / 256) = (s.length : Int) / 256 := IntWalk.u8_in _ ⟨by omega, by omega⟩
 have hw2 : IntKind.u8.wrap ((s.length : Int) % 256) = (s.length : Int) % 256 := IntWalk.u8_in _ ⟨by omega, by omega⟩
 have HS := Lib.hid hs
 clear hs
 unfold strV
 go_enter Tryz.func35, Tryz.ntmps35
 have hw64 : wrap64 ((s.length : Int) / 256) = (s.length : Int) / 256 := by have := HS.out; unfold wrap64; omega
 have hm : (s.length : Int) / 256 % 256 = (s.length : Int) / 256 := by have := HS.out; omega
 go_wp2_with (at_builtin; refine wpList_append_str rfl (.tmp 15) (.tmp 16) rfl w.heap.size (.slice (some ⟨w.heap.size, 0, none⟩) 2 2) (toBE 2 s.length) s rfl (own_two w s.length HS.out) rfl (by have := HS.out; rw [toBE_length]; omega) (by simp) ?_; intro u2 w2 HA)
 go_ret2
 exact ⟨u2, rfl, HA.out.1, (Keeps.alloc _ _).trans HA.out.2 (fun x hx hlt => by simp [Value.ownBlock] at hx; omega)⟩
theorem refNumber_int (w : World) (n : Int) (k : Nat) (hn0 : 0 ≤ n) (hn : n < 9223372036854775808) (hk1 : 1 ≤ k) (hk8 : k ≤ 8) :
  Calls Tryz.prog 34 #[.int .u64 n, .int .i64 k] w fun e w' => ∃ v b, e = .returned (.tuple #[v, .bool b]) ∧ Owned w' w.heap.size v (toBE k n.toNat) ∧ Keeps w w' [] := by
 obtain ⟨m, rfl⟩ := Int.eq_ofNat_of_zero_le hn0
 exact (refNumber_any w m k hk1 hk8 (by omega)).mono (fun e w' ⟨v, h1, h2, h3⟩ => ⟨v, _, h1, h2, h3⟩)
end Go.Proofs.YtfglgeoookbppaaGreatDoor

namespace Go.Proofs.YtfglgeoookbppaaGreatDoor
open Go.RowKit Go.Shelf

theorem toBE_one (n : Nat) : toBE 1 n = [UInt8.ofNat n] := by
 rw [toBE_front 0 n]
 simp [toBE]
theorem own_three (w : World) (q s : Int) (b : UInt8) (hq : 0 ≤ q ∧ q ≤ 255) (hs : 0 ≤ s ∧ s ≤ 255) : Owned (w.alloc (.cells #[.int .u8 q, .int .u8 b.toNat, .int .u8 s] 5)) w.heap.size (.slice (some ⟨w.heap.size, 0, none⟩) 3 3) [UInt8.ofNat q.toNat, b, UInt8.ofNat s.toNat] := by
 refine ⟨rfl, .inr ⟨w.heap.size, 3, #[.int .u8 q, .int .u8 b.toNat, .int .u8 s], rfl, Nat.le_refl _, Row.new _ _ _, Nat.le_refl _, by simp [maxLen], rfl, ?_⟩⟩
 have h1 : ((q.toNat % 256 : Nat) : Int) = q := by omega
 have h2 : ((s.toNat % 256 : Nat) : Int) = s := by omega
 simp only [List.map_cons, List.map_nil, byteV, UInt8.toNat_ofNat', show (2 ^ 8 : Nat) = 256 from rfl, h1, h2]
 rfl
theorem conv_three (w : World) (q s : Int) (b : UInt8) (hq : 0 ≤ q ∧ q ≤ 255) (hs : 0 ≤ s ∧ s ≤ 255) :
  (convert 39 9 (.slice (some ⟨w.heap.size, 0, none⟩) 3 3)).run Tryz.prog (w.alloc (.cells #[.int .u8 q, .int .u8 b.toNat, .int .u8 s] 5)) = .ok (.string ⟨[UInt8.ofNat q.toNat, b, UInt8.ofNat s.toNat].toArray⟩) (w.alloc (.cells #[.int .u8 q, .int .u8 b.toNat, .int .u8 s] 5)) :=
 conv_str _ _ (some ⟨w.heap.size, 0, none⟩) 3 [UInt8.ofNat q.toNat, b, UInt8.ofNat s.toNat] (Lies.of_own (own_three w q s b hq hs))
set_option maxRecDepth 100000 in
set_option maxHeartbeats 4000000 in
theorem rrValue_any (x : Rw) (w : World) (hok : rcOk x = true) (hlen : x.t.length ≤ 10000 ∧ x.b.length ≤ 10000) : Calls Tryz.prog 15 #[rwV x] w fun e w' => e = .returned (strV (rcVal x)) ∧ Keeps w w' [] := by
 have HF := Lib.hid (rc_fit hok)
 clear hok
 obtain ⟨k, c, seq, id, t, b, q, r, s⟩ := x
 simp only at HF hlen
 have ws : IntKind.u64.wrap seq = seq := IntWalk.u64_in _ ⟨by have := HF.out; omega, by have := HF.out; omega⟩
 have wi : IntKind.u64.wrap id = id := IntWalk.u64_in _ ⟨by have := HF.out; omega, by have := HF.out; omega⟩
 have wq : IntKind.u8.wrap q = q := IntWalk.u8_in _ ⟨by have := HF.out; omega, by have := HF.out; omega⟩
 have wt : IntKind.u8.wrap s = s := IntWalk.u8_in _ ⟨by have := HF.out; omega, by have := HF.out; omega⟩
 have HL := Lib.hid hlen
 clear hlen
 obtain ⟨W0, hW0⟩ : ∃ W0, w.alloc (.cells #[.int .i64 k, .string ⟨c.toArray⟩, .int .i64 seq, .int .i64 id, .string ⟨t.toArray⟩, .string ⟨b.toArray⟩, .int .i64 q, .bool r, .int .i64 s] 25) = W0 := ⟨_, rfl⟩
 have k0 : Keeps w W0 [] := by rw [← hW0]; exact Keeps.alloc _ _
 have r0 : Row W0 w.heap.size 25 #[.int .i64 k, .string ⟨c.toArray⟩, .int .i64 seq, .int .i64 id, .string ⟨t.toArray⟩, .string ⟨b.toArray⟩, .int .i64 q, .bool r, .int .i64 s] := by rw [← hW0]; exact Row.new _ _ _
 have HR := Lib.hid (And.intro k0 r0)
 have x0 := r0.cell 0
 have x1 := r0.cell 1
 have x2 := r0.cell 2
 have x3 := r0.cell 3
 have x4 := r0.cell 4
 have x5 := r0.cell 5
 have x6 := r0.cell 6
 have x7 := r0.cell 7
 have x8 := r0.cell 8
 simp only [List.getElem?_toArray, List.getElem?_cons_zero, List.getElem?_cons_succ] at x0 x1 x2 x3 x4 x5 x6 x7 x8
 clear k0 r0
 go_enter Tryz.func15, Tryz.ntmps15
 go_wp2_with fail
 refine (refNumber_int _ seq 8 (by have := HF.out; omega) (by have := HF.out; omega) (by omega) (by omega)).mono ?_
 rintro e w1 ⟨v1, b1, rfl, ho1, hk1⟩
 have H1 := Lib.hid (And.intro ho1 hk1)
 have r1 := HR.out.2.keeps hk1
 clear x0 x1 x2 x3 x4 x5 x6 x7 x8 hW0 ho1 hk1
 have y0 := r1.cell 0
 have y1 := r1.cell 1
 have y2 := r1.cell 2
 have y3 := r1.cell 3
 have y4 := r1.cell 4
 have y5 := r1.cell 5
 have y6 := r1.cell 6
 have y7 := r1.cell 7
 have y8 := r1.cell 8
 simp only [List.getElem?_toArray, List.getElem?_cons_zero, List.getElem?_cons_succ] at y0 y1 y2 y3 y4 y5 y6 y7 y8
 clear r1
 go_wp2_with fail
 refine (refNumber_int _ id 8 (by have := HF.out; omega) (by have := HF.out; omega) (by omega) (by omega)).mono ?_
 rintro e w2 ⟨v2, b2, rfl, ho2, hk2⟩
 have H2 := Lib.hid (show Owned w2 w1.heap.size v2 (toBE 8 id.toNat) ∧ Owned w2 W0.heap.size v1 (toBE 8 seq.toNat) ∧ Keeps W0 w2 [] from ⟨ho2, own_keep H1.out.1 hk2 (by simp), H1.out.2.then_ hk2⟩)
 have r1 := HR.out.2.keeps H2.out.2.2
 clear y0 y1 y2 y3 y4 y5 y6 y7 y8 ho2 hk2 H1
 have y0 := r1.cell 0
 have y1 := r1.cell 1
 have y2 := r1.cell 2
 have y3 := r1.cell 3
 have y4 := r1.cell 4
 have y5 := r1.cell 5
 have y6 := r1.cell 6
 have y7 := r1.cell 7
 have y8 := r1.cell 8
 simp only [List.getElem?_toArray, List.getElem?_cons_zero, List.getElem?_cons_succ] at y0 y1 y2 y3 y4 y5 y6 y7 y8
 clear r1
 go_wp2_with fail
 refine (refText_any _ t (by have := HL.out; omega)).mono ?_
 rintro e w3 ⟨v3, rfl, ho3, hk3⟩
 have H3 := Lib.hid (show Owned w3 w2.heap.size v3 (toBE 2 t.length ++ t) ∧ Owned w3 w1.heap.size v2 (toBE 8 id.toNat) ∧ Owned w3 W0.heap.size v1 (toBE 8 seq.toNat) ∧ Keeps W0 w3 [] from ⟨ho3, own_keep H2.out.1 hk3 (by simp), own_keep H2.out.2.1 hk3 (by simp), H2.out.2.2.then_ hk3⟩)
 have r1 := HR.out.2.keeps H3.out.2.2.2
 clear y0 y1 y2 y3 y4 y5 y6 y7 y8 ho3 hk3 H2
 have y0 := r1.cell 0
 have y1 := r1.cell 1
 have y2 := r1.cell 2
 have y3 := r1.cell 3
 have y4 := r1.cell 4
 have y5 := r1.cell 5
 have y6 := r1.cell 6
 have y7 := r1.cell 7
 have y8 := r1.cell 8
 simp only [List.getElem?_toArray, List.getElem?_cons_zero, List.getElem?_cons_succ] at y0 y1 y2 y3 y4 y5 y6 y7 y8
 clear r1
 go_wp2_with fail
 refine (refText_any _ b (by have := HL.out; omega)).mono ?_
 rintro e w4 ⟨v4, rfl, ho4, hk4⟩
 have H4 := Lib.hid (show Owned w4 w3.heap.size v4 (toBE 2 b.length ++ b) ∧ Owned w4 w2.heap.size v3 (toBE 2 t.length ++ t) ∧ Owned w4 w1.heap.size v2 (toBE 8 id.toNat) ∧ Owned w4 W0.heap.size v1 (toBE 8 seq.toNat) ∧ Keeps W0 w4 [] from ⟨ho4, own_keep H3.out.1 hk4 (by simp), own_keep H3.out.2.1 hk4 (by simp), own_keep H3.out.2.2.1 hk4 (by simp), H3.out.2.2.2.then_ hk4⟩)
 have r1 := HR.out.2.keeps H4.out.2.2.2.2
 clear y0 y1 y2 y3 y4 y5 y6 y7 y8 ho4 hk4 H3
 have y0 := r1.cell 0
 have y1 := r1.cell 1
 have y2 := r1.cell 2
 have y3 := r1.cell 3
 have y4 := r1.cell 4
 have y5 := r1.cell 5
 have y6 := r1.cell 6
 have y7 := r1.cell 7
 have y8 := r1.cell 8
 simp only [List.getElem?_toArray, List.getElem?_cons_zero, List.getElem?_cons_succ] at y0 y1 y2 y3 y4 y5 y6 y7 y8
 clear r1
 obtain ⟨l1, e1⟩ : ∃ l, toBE 8 seq.toNat = l := ⟨_, rfl⟩
 obtain ⟨l2, e2⟩ : ∃ l, toBE 8 id.toNat = l := ⟨_, rfl⟩
 obtain ⟨l3, e3⟩ : ∃ l, toBE 2 t.length ++ t = l := ⟨_, rfl⟩
 obtain ⟨l4, e4⟩ : ∃ l, toBE 2 b.length ++ b = l := ⟨_, rfl⟩
 have HV := Lib.hid (show rcVal ⟨k, c, seq, id, t, b, q, r, s⟩ = l1 ++ (l2 ++ (l3 ++ (l4 ++ (toBE 1 q.toNat ++ ([bif r then 1 else 0] ++ toBE 1 s.toNat))))) from by rw [← e1, ← e2, ← e3, ← e4]; rfl)
 have s1 : (⟨l1.toArray⟩ : ByteArray).size = 8 := by rw [size_str, ← e1, toBE_length]
 have s2 : (⟨l2.toArray⟩ : ByteArray).size = 8 := by rw [size_str, ← e2, toBE_length]
 have s3 : (⟨l3.toArray⟩ : ByteArray).size ≤ 10002 := by have := HL.out; rw [size_str, ← e3]; simp [toBE_length]; omega
 have s4 : (⟨l4.toArray⟩ : ByteArray).size ≤ 10002 := by have := HL.out; rw [size_str, ← e4]; simp [toBE_length]; omega
 rw [e1, e2, e3, e4] at H4
 have z2 : ¬ 9223372036854775807 < (⟨l1.toArray⟩ : ByteArray).size + (⟨l2.toArray⟩ : ByteArray).size := by omega
 have z3 : ¬ 9223372036854775807 < (⟨l1.toArray⟩ : ByteArray).size + (⟨l2.toArray⟩ : ByteArray).size + (⟨l3.toArray⟩ : ByteArray).size := by omega
 have z4 : ¬ 9223372036854775807 < (⟨l1.toArray⟩ : ByteArray).size + (⟨l2.toArray⟩ : ByteArray).size + (⟨l3.toArray⟩ : ByteArray).size + (⟨l4.toArray⟩ : ByteArray).size := by omega
 have z5 : ¬ 9223372036854775807 < (⟨l1.toArray⟩ : ByteArray).size + (⟨l2.toArray⟩ : ByteArray).size + (⟨l3.toArray⟩ : ByteArray).size + (⟨l4.toArray⟩ : ByteArray).size + 3 := by omega
 clear s1 s2 s3 s4
 clear e1 e2 e3 e4
 obtain ⟨A1, c1, rfl, _, _, _, L1⟩ := H4.out.2.2.2.1.parts
 obtain ⟨A2, c2, rfl, _, _, _, L2⟩ := H4.out.2.2.1.parts
 obtain ⟨A3, c3, rfl, _, _, _, L3⟩ := H4.out.2.1.parts
 obtain ⟨A4, c4, rfl, _, _, _, L4⟩ := H4.out.1.parts
 have g1 := conv_str w4 _ A1 c1 _ L1
 have g2 := conv_str w4 _ A2 c2 _ L2
 have g3 := conv_str w4 _ A3 c3 _ L3
 have g4 := conv_str w4 _ A4 c4 _ L4
 clear L1 L2 L3 L4
 have hq8 := (show 0 ≤ q ∧ q ≤ 255 from ⟨by have := HF.out; omega, by have := HF.out; omega⟩)
 have hs8 := (show 0 ≤ s ∧ s ≤ 255 from ⟨by have := HF.out; omega, by have := HF.out; omega⟩)
 have g5 := conv_three w4 q s 0 hq8 hs8
 have g6 := conv_three w4 q s 1 hq8 hs8
 simp only [show (((0 : UInt8).toNat : Nat) : Int) = 0 from rfl] at g5
 simp only [show (((1 : UInt8).toNat : Nat) : Int) = 1 from rfl] at g6
 clear hq8 hs8
 cases r
 all_goals
  go_wp2_with fail
  go_ret
  refine ⟨?_, HR.out.1.then_ (H4.out.2.2.2.2.then_ (Keeps.alloc _ _))⟩
  rw [HV.out, toBE_one, toBE_one]
  unfold strV
  refine congrArg (fun z => Ending.returned (Value.string z)) ?_
  apply ByteArray.ext
  simp
end Go.Proofs.YtfglgeoookbppaaGreatDoor
