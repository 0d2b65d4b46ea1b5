/- Package keys: eight bytes, taken off. Package keys: numbers, read. -/
import Derived.Test.YtfglgeoookbppaaGreatDoorPa2

namespace Go.Proofs.YtfglgeoookbppaaGreatDoor
open Go.RowKit

/-- What is given up with. -/
abbrev kStop : Ending := .panicked [{ v := .iface 110 (.agg #[]), recovered := false }]

set_option maxRecDepth 100000 in
set_option maxHeartbeats 1000000 in
theorem kTaken_no (w : World) (b : Nat) (l : List UInt8) (hb : Row w b 9 #[strV l]) (hl : l.length < 8) :
  Calls Tryz.prog 109 #[.pointer (some ⟨b, 0, none⟩)] w fun e w' => e = kStop ∧ w = w' := by
 have c0 := hb.cell 0
 simp [strV] at c0
 have hd : decide ((8 : Int) ≤ (l.length : Int)) = false := by simp; omega
 go_enter Tryz.func109, Tryz.ntmps109
 go_wp2_with (go_at_call 85; refine (kMust_no _).mono ?_; rintro e w' ⟨rfl, rfl⟩)
 exact ⟨rfl, rfl, rfl⟩

theorem take_snoc8 (l : List UInt8) (j : Nat) (h : j < l.length) : l.take (j + 1) = l.take j ++ [l[j]] := List.take_succ_eq_append_getElem h
theorem beN_take_lt (l : List UInt8) (j : Nat) (h : j ≤ 7) : beN (l.take j) < 72057594037927936 := by
 have h1 := beN_lt (l.take j)
 have h2 : 256 ^ (l.take j).length ≤ 256 ^ 7 := Nat.pow_le_pow_right (by omega) (by rw [List.length_take]; omega)
 exact Nat.lt_of_lt_of_le h1 h2

theorem wrap_byte (b : UInt8) : IntKind.u64.wrap (b.toNat : Int) = (b.toNat : Int) := by
 have := b.toNat_lt
 rw [IntKind.wrap_u64]
 omega
theorem str_drop (l : List UInt8) (k : Nat) : (⟨l.toArray⟩ : ByteArray).extract k l.length = ⟨(l.drop k).toArray⟩ := by
 apply ByteArray.ext
 rw [ByteArray.data_extract]
 simp
 rw [List.take_of_length_le (by simp)]

set_option maxRecDepth 100000 in
set_option maxHeartbeats 2000000 in
theorem kTaken_any (w : World) (b : Nat) (l : List UInt8) (hb : Row w b 9 #[strV l]) (hl : 8 ≤ l.length) (hm : l.length ≤ 1000000) :
  Calls Tryz.prog 109 #[.pointer (some ⟨b, 0, none⟩)] w fun e w' => e = .returned (.int .u64 (beN (l.take 8) : Nat)) ∧ Row w' b 9 #[strV (l.drop 8)] ∧ Keeps w w' [b] := by
 have c0 := hb.cell 0
 have f0 := hb.frozen 0
 simp [strV] at c0
 have hd : decide ((8 : Int) ≤ (l.length : Int)) = true := by simp; omega
 have HB := Lib.hid hb
 clear hb
 go_enter Tryz.func109, Tryz.ntmps109
 go_wp2_with (go_at_call 85; refine (kMust_yes _).mono ?_; rintro e w' ⟨rfl, rfl⟩)
 go_loop [3, 11] (fun n i => ∃ j : Nat, j ≤ 8 ∧ i = .int .i64 j ∧ n = .int .u64 (beN (l.take j) : Nat)) (fun _ i => 8 - (intOf i).toNat)
 case atStart => exact ⟨0, by omega, rfl, by simp [beN]⟩
 case round =>
  obtain ⟨j, hj, rfl, rfl⟩ := hrel
  by_cases hj8 : j < 8
  ·have HS := Lib.hid (show beN (l.take (j + 1)) = beN (l.take j) * 256 + l[j].toNat by rw [take_snoc8 l j (by omega), beN_snoc])
   have hlt := beN_take_lt l j (by omega)
   have HO := Lib.hid (be_step (beN (l.take j)) l[j].toNat hlt l[j].toNat_lt)
   obtain ⟨N, hN⟩ : ∃ N, beN (l.take j) = N := ⟨_, rfl⟩
   rw [hN] at hlt HS HO ⊢
   clear hN
   have hjl : j < l.length := by omega
   go_wp2
   refine ⟨⟨j + 1, by omega, by go_num, ?_⟩, by simp [intOf]; omega⟩
   rw [HS.out]
   exact congrArg (Value.int .u64) ((congrArg (bits BinOp.or IntKind.u64 ((N : Int) * 256)) (wrap_byte l[j])).trans HO.out)
  ·obtain rfl : j = 8 := by omega
   have he := str_drop l 8
   go_wp2
   go_ret
   exact ⟨rfl, HB.out.store 0 _, Keeps.setCell _ _ _⟩
end Go.Proofs.YtfglgeoookbppaaGreatDoor

namespace Go.Proofs.YtfglgeoookbppaaGreatDoor
open Go.RowKit

theorem kRdI_door (W : World) (t : Array Value) (b : Nat) (x0 x1 x2 x3 : Value) (h2 : t.getD 2 undef = .pointer (some ⟨b, 0, none⟩))
  (r : Row W b 63 #[x0, x1, x2, x3]) (R : Ending → World → Prop) (hR : R (.returned (.agg #[x0, x1, x2, x3])) W) :
  bodyPost Tryz.prog Tryz.f108 R Exit.ret { tmps := t, defers := [] } W := by
 have c0 := r.cell 0
 have c1 := r.cell 1
 have c2 := r.cell 2
 have c3 := r.cell 3
 rw [Array.getD_eq_getD_getElem?] at h2
 simp at c0 c1 c2 c3
 refine bodyPost_ret (v := .agg #[x0, x1, x2, x3]) ?_ rfl hR
 simp [results, Tryz.results108, go_sem, h2, c0, c1, c2, c3]
theorem kRdF_door (W : World) (t : Array Value) (b : Nat) (x0 x1 x2 x3 : Value) (h2 : t.getD 2 undef = .pointer (some ⟨b, 0, none⟩))
  (r : Row W b 63 #[x0, x1, x2, x3]) (R : Ending → World → Prop) (hR : R (.returned (.agg #[x0, x1, x2, x3])) W) :
  bodyPost Tryz.prog Tryz.f115 R Exit.ret { tmps := t, defers := [] } W := by
 have c0 := r.cell 0
 have c1 := r.cell 1
 have c2 := r.cell 2
 have c3 := r.cell 3
 rw [Array.getD_eq_getD_getElem?] at h2
 simp at c0 c1 c2 c3
 refine bodyPost_ret (v := .agg #[x0, x1, x2, x3]) ?_ rfl hR
 simp [results, Tryz.results115, go_sem, h2, c0, c1, c2, c3]
theorem kRdT_door (W : World) (t : Array Value) (b : Nat) (x0 x1 x2 x3 : Value) (h2 : t.getD 2 undef = .pointer (some ⟨b, 0, none⟩))
  (r : Row W b 63 #[x0, x1, x2, x3]) (R : Ending → World → Prop) (hR : R (.returned (.agg #[x0, x1, x2, x3])) W) :
  bodyPost Tryz.prog Tryz.f123 R Exit.ret { tmps := t, defers := [] } W := by
 have c0 := r.cell 0
 have c1 := r.cell 1
 have c2 := r.cell 2
 have c3 := r.cell 3
 rw [Array.getD_eq_getD_getElem?] at h2
 simp at c0 c1 c2 c3
 refine bodyPost_ret (v := .agg #[x0, x1, x2, x3]) ?_ rfl hR
 simp [results, Tryz.results123, go_sem, h2, c0, c1, c2, c3]
/-- A part's cells, written. -/
theorem part_put {W : World} {b : Nat} {p0 p1 p2 p3 : Value} (h : Row W b 63 #[p0, p1, p2, p3]) (q0 q1 q2 q3 : Value) :
  Row ((((W.setCell ⟨b, 0, none⟩ q0).setCell ⟨b, 1, none⟩ q1).setCell ⟨b, 2, none⟩ q2).setCell ⟨b, 3, none⟩ q3) b 63 #[q0, q1, q2, q3] ∧
  Keeps W ((((W.setCell ⟨b, 0, none⟩ q0).setCell ⟨b, 1, none⟩ q1).setCell ⟨b, 2, none⟩ q2).setCell ⟨b, 3, none⟩ q3) [b] :=
 ⟨(((h.store 0 q0).store 1 q1).store 2 q2).store 3 q3, (((Keeps.setCell _ _ _).trans (Keeps.setCell _ _ _) (by simp)).trans (Keeps.setCell _ _ _) (by simp)).trans (Keeps.setCell _ _ _) (by simp)⟩

theorem xor_down (N : Nat) (h : N < 18446744073709551616) : IntKind.i64.wrap (bits BinOp.xor IntKind.u64 (N : Int) 9223372036854775808) = (N : Int) - 9223372036854775808 := by
 rw [xor_high N h, IntKind.wrap_i64]
 unfold fS
 split <;> omega
theorem beN8_lt (l : List UInt8) : beN (l.take 8) < 18446744073709551616 := by
 have h1 := beN_lt (l.take 8)
 have h2 : 256 ^ (l.take 8).length ≤ 256 ^ 8 := Nat.pow_le_pow_right (by omega) (by rw [List.length_take]; omega)
 exact Nat.lt_of_lt_of_le h1 h2

set_option maxRecDepth 100000 in
set_option maxHeartbeats 1000000 in
theorem kRdI_no (w : World) (b : Nat) (l : List UInt8) (hb : Row w b 9 #[strV l]) (hl : l.length < 8) :
  Calls Tryz.prog 108 #[.pointer (some ⟨b, 0, none⟩)] w fun e w' => e = kStop ∧ Keeps w w' [b] := by
 have HC := Lib.hid (show ∀ o, Calls Tryz.prog 109 #[.pointer (some ⟨b, 0, none⟩)] (w.alloc o) fun e w' => e = kStop ∧ w.alloc o = w' from fun o => kTaken_no _ b l (hb.alloc o) hl)
 clear hb hl
 go_enter Tryz.func108, Tryz.ntmps108
 go_wp2_with fail
 refine (HC.out _).mono ?_
 rintro e w1 ⟨rfl, rfl⟩
 exact ⟨rfl, rfl, (Keeps.alloc _ _).weaken (by simp)⟩

set_option maxRecDepth 100000 in
set_option maxHeartbeats 2000000 in
theorem kRdI_any (w : World) (b : Nat) (l : List UInt8) (hb : Row w b 9 #[strV l]) (hl : 8 ≤ l.length) (hm : l.length ≤ 1000000) :
  Calls Tryz.prog 108 #[.pointer (some ⟨b, 0, none⟩)] w fun e w' =>
   e = .returned (kpV ⟨1, (beN (l.take 8) : Int) - 9223372036854775808, 0, []⟩) ∧ Row w' b 9 #[strV (l.drop 8)] ∧ Keeps w w' [b] := by
 have hsf := @run_store_float Tryz.prog
 have HC := Lib.hid (show ∀ o, Calls Tryz.prog 109 #[.pointer (some ⟨b, 0, none⟩)] (w.alloc o) fun e w' => e = .returned (.int .u64 (beN (l.take 8) : Nat)) ∧ Row w' b 9 #[strV (l.drop 8)] ∧ Keeps (w.alloc o) w' [b] from fun o => kTaken_any _ b l (hb.alloc o) hl hm)
 have HB := Lib.hid hb
 have HX := Lib.hid (xor_down _ (beN8_lt l))
 generalize beN (l.take 8) = N at *
 clear hb
 go_enter Tryz.func108, Tryz.ntmps108
 go_wp2_with fail
 refine (HC.out _).mono ?_
 rintro e w1 ⟨rfl, hr, hk⟩
 have H1 := Lib.hid (And.intro hr (And.intro hk ((Row.new w 63 #[.int .i64 0, .int .i64 0, .float .f64 0, .string ⟨#[]⟩]).keep hk (by simp; exact Nat.ne_of_gt HB.out.lt))))
 clear hr hk
 have hx := HX.out
 go_wp2_with fail
 refine (kInt_any _ _).mono ?_
 rintro e w2 ⟨rfl, hk⟩
 have H2 := Lib.hid (And.intro (H1.out.1.keeps hk) (And.intro hk (H1.out.2.2.keeps hk)))
 clear hk hx
 have c0 := H2.out.2.2.cell 0
 have c1 := H2.out.2.2.cell 1
 have c2 := H2.out.2.2.cell 2
 have c3 := H2.out.2.2.cell 3
 simp only [List.getElem?_toArray, List.getElem?_cons_zero, List.getElem?_cons_succ] at c0 c1 c2 c3
 have g0 := H2.out.2.2.frozen 0
 have g1 := H2.out.2.2.frozen 1
 have g2 := H2.out.2.2.frozen 2
 have g3 := H2.out.2.2.frozen 3
 go_wp2_with fail
 obtain ⟨q1, q2⟩ := part_put H2.out.2.2 (.int .i64 1) (.int .i64 ((N : Int) - 9223372036854775808)) (.float .f64 0) (.string ⟨#[]⟩)
 have hne : b ≠ w.heap.size := Nat.ne_of_lt HB.out.lt
 refine kRdI_door _ _ _ _ _ _ _ rfl q1 _ ⟨rfl, H2.out.1.keep q2 (by simpa using hne), ?_⟩
 exact ((((Keeps.alloc w _).weaken (T := [b]) (by simp)).trans H1.out.2.1 (by simp)).trans H2.out.2.1 (by simp)).trans q2 (fun x hx hlt => by simp at hx; omega)
end Go.Proofs.YtfglgeoookbppaaGreatDoor
