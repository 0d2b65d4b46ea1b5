/- Package keys: floats, read. -/
import Derived.Test.YtfglgeoookbppaaGreatDoorPa14

namespace Go.Proofs.YtfglgeoookbppaaGreatDoor
open Go.RowKit Ieee

/-- The word of a number's bits in order. -/
def kWord (N : Nat) : Nat := if fS ≤ N then N - fS else 18446744073709551615 - N
set_option maxRecDepth 10000 in
theorem andNot_high (N : Nat) (h : N < 18446744073709551616) (hs : fS ≤ N) : bits BinOp.andNot IntKind.u64 (N : Int) 9223372036854775808 = ((N - fS : Nat) : Int) := by
 have h1 := u64_andNot_nat N 9223372036854775808 h (by omega)
 rw [show ((9223372036854775808 : Nat) : Int) = 9223372036854775808 from rfl] at h1
 have h2 : N &&& (18446744073709551615 - 9223372036854775808) = N - fS := by
  rw [show 18446744073709551615 - 9223372036854775808 = 2 ^ 63 - 1 from rfl, Nat.and_two_pow_sub_one_eq_mod]
  unfold fS at *
  omega
 rw [h1, h2]
theorem or_high2 (n : Nat) (h : n < 18446744073709551616) (hs : fS ≤ n) : bits BinOp.or IntKind.u64 (n : Int) 9223372036854775808 = (n : Int) := by
 have h1 := u64_or_nat n 9223372036854775808 h (by omega)
 rw [show ((9223372036854775808 : Nat) : Int) = 9223372036854775808 from rfl] at h1
 rw [h1]
 congr 1
 obtain ⟨m, rfl⟩ : ∃ m, n = 2 ^ 63 + m := ⟨n - 2 ^ 63, by unfold fS at *; omega⟩
 have h2 := Nat.two_pow_add_eq_or_of_lt (i := 63) (b := m) (by omega) 1
 rw [Nat.mul_one] at h2
 rw [show (9223372036854775808 : Nat) = 2 ^ 63 from rfl, h2, Nat.or_assoc, Nat.or_comm m, ← Nat.or_assoc, Nat.or_self]

set_option maxRecDepth 100000 in
set_option maxHeartbeats 1000000 in
theorem kRdF_no (w : World) (b : Nat) (l : List UInt8) (hb : Row w b 9 #[strV l]) (hl : l.length < 8) :
  Calls Tryz.prog 115 #[.pointer (some ⟨b, 0, none⟩)] w fun e w' => e = kStop ∧ Keeps w w' [b] := by
 have HC := Lib.hid (show ∀ o, Calls Tryz.prog 109 #[.pointer (some ⟨b, 0, none⟩)] (w.alloc o) fun e w' => e = kStop ∧ w.alloc o = w' from fun o => kTaken_no _ b l (hb.alloc o) hl)
 clear hb hl
 go_enter Tryz.func115, Tryz.ntmps115
 go_wp2_with fail
 refine (HC.out _).mono ?_
 rintro e w1 ⟨rfl, rfl⟩
 exact ⟨rfl, rfl, (Keeps.alloc _ _).weaken (by simp)⟩
theorem wholeW_lt (x : Nat) (h : x < 18446744073709551616) : wholeW x < 18446744073709551616 := by unfold wholeW; split <;> omega
theorem kWord_lt (N : Nat) (h : N < 18446744073709551616) : kWord N < 18446744073709551616 := by unfold kWord fS; split <;> omega

set_option maxRecDepth 100000 in
set_option maxHeartbeats 4000000 in
theorem kRdF_any (w : World) (b : Nat) (l : List UInt8) (hb : Row w b 9 #[strV l]) (hl : 8 ≤ l.length) (hm : l.length ≤ 1000000) (hq : kOf (wholeW (kWord (beN (l.take 8)))) = beN (l.take 8)) :
  Calls Tryz.prog 115 #[.pointer (some ⟨b, 0, none⟩)] w fun e w' =>
   e = .returned (kpV ⟨2, 0, wholeW (kWord (beN (l.take 8))), []⟩) ∧ Row w' b 9 #[strV (l.drop 8)] ∧ Keeps w w' [b] := by
 have hsf := @run_store_float Tryz.prog
 have hfb := run_f64from
 have HC := Lib.hid (show ∀ o, Calls Tryz.prog 109 #[.pointer (some ⟨b, 0, none⟩)] (w.alloc o) fun e w' => e = .returned (.int .u64 (beN (l.take 8) : Nat)) ∧ Row w' b 9 #[strV (l.drop 8)] ∧ Keeps (w.alloc o) w' [b] from fun o => kTaken_any _ b l (hb.alloc o) hl hm)
 have HB := Lib.hid hb
 have hN := beN8_lt l
 generalize beN (l.take 8) = N at *
 clear hb
 have ha := and_high N hN
 obtain ⟨x, hx⟩ : ∃ x, kWord N = x := ⟨_, rfl⟩
 have hxl : x < 18446744073709551616 := hx ▸ kWord_lt N hN
 have ha2 := and_high x hxl
 have hn := not_word x hxl
 obtain ⟨y, hy⟩ : ∃ y, wholeW x = y := ⟨_, rfl⟩
 have HY := Lib.hid (show y < 18446744073709551616 from hy ▸ wholeW_lt x hxl)
 have HFL := Lib.hid (show ∀ W, Calls Tryz.prog 116 #[.float .f64 x] W fun e w' => e = .returned (.agg #[.int .i64 2, .int .i64 0, .float .f64 y, .string ⟨#[]⟩]) ∧ Keeps W w' [] from fun W => by rw [← hy]; exact kFloat_any x W)
 have HK := Lib.hid (kBits_any y HY.out)
 rw [hx, hy] at hq ⊢
 clear hy
 obtain ⟨K, hK⟩ : ∃ K, kOf y = K := ⟨_, rfl⟩
 rw [hK] at HK hq
 clear hK
 subst hq
 by_cases hs : fS ≤ K
 ·rw [if_pos hs] at ha
  have hd := andNot_high K hN hs
  rw [kWord, if_pos hs] at hx
  rw [hx] at hd
  rw [if_neg (by unfold fS at *; omega)] at ha2
  have ho := or_high x (by unfold fS at *; omega)
  rw [show x + fS = K by omega] at ho
  have HS := Lib.hid (And.intro hs hx)
  clear hs hx
  go_enter Tryz.func115, Tryz.ntmps115
  go_wp2_with fail
  refine (HC.out _).mono ?_
  rintro e w1 ⟨rfl, hr, hk⟩
  have H1 := Lib.hid (And.intro hr (And.intro hk ((Row.new w 63 #[.int .i64 0, .int .i64 0, .float .f64 0, .string ⟨#[]⟩]).keep hk (by simp; exact Nat.ne_of_gt HB.out.lt))))
  clear hr hk
  go_wp2_with fail
  refine (HFL.out _).mono ?_
  rintro e w2 ⟨rfl, hk⟩
  have H2 := Lib.hid (And.intro (H1.out.1.keeps hk) (And.intro hk (H1.out.2.2.keeps hk)))
  clear hk
  have r3 := H2.out.2.2.alloc (.cells #[.int .i64 2, .int .i64 0, .float .f64 y, .string ⟨#[]⟩] 63)
  have c0 := r3.cell 0
  have c1 := r3.cell 1
  have c2 := r3.cell 2
  have c3 := r3.cell 3
  simp only [List.getElem?_toArray, List.getElem?_cons_zero, List.getElem?_cons_succ] at c0 c1 c2 c3
  have g0 := r3.frozen 0
  have g1 := r3.frozen 1
  have g2 := r3.frozen 2
  have g3 := r3.frozen 3
  go_wp2_with (first | (go_at_call 114; refine (HK.out _).mono ?_; rintro e w' ⟨rfl, rfl⟩) | (go_at_call 85; refine (kMust_yes _).mono ?_; rintro e w' ⟨rfl, rfl⟩))
  obtain ⟨q1, q2⟩ := part_put r3 (.int .i64 2) (.int .i64 0) (.float .f64 y) (.string ⟨#[]⟩)
  have hne : b ≠ w.heap.size := Nat.ne_of_lt HB.out.lt
  refine kRdF_door _ _ _ _ _ _ _ rfl q1 _ ⟨rfl, (H2.out.1.alloc _).keep q2 (by simpa using hne), ?_⟩
  exact (((((Keeps.alloc w _).weaken (T := [b]) (by simp)).trans H1.out.2.1 (by simp)).trans H2.out.2.1 (by simp)).trans (Keeps.alloc _ _) (by simp)).trans q2 (fun x hx hlt => by simp at hx; omega)
 ·rw [if_neg hs] at ha
  have hd := not_word K hN
  rw [kWord, if_neg hs] at hx
  rw [hx] at hd
  have hxs : fS ≤ x := by unfold fS at *; omega
  rw [if_pos hxs] at ha2
  have ho := or_high2 x hxl hxs
  rw [show 18446744073709551615 - x = K by omega] at hn
  have HS := Lib.hid (And.intro hs (And.intro hx hxs))
  clear hs hx hxs
  by_cases hkx : ((K : Int) == (x : Int)) = true
  ·skip
   go_enter Tryz.func115, Tryz.ntmps115
   go_wp2_with fail
   refine (HC.out _).mono ?_
   rintro e w1 ⟨rfl, hr, hk⟩
   have H1 := Lib.hid (And.intro hr (And.intro hk ((Row.new w 63 #[.int .i64 0, .int .i64 0, .float .f64 0, .string ⟨#[]⟩]).keep hk (by simp; exact Nat.ne_of_gt HB.out.lt))))
   clear hr hk
   go_wp2_with fail
   refine (HFL.out _).mono ?_
   rintro e w2 ⟨rfl, hk⟩
   have H2 := Lib.hid (And.intro (H1.out.1.keeps hk) (And.intro hk (H1.out.2.2.keeps hk)))
   clear hk
   have r3 := H2.out.2.2.alloc (.cells #[.int .i64 2, .int .i64 0, .float .f64 y, .string ⟨#[]⟩] 63)
   have c0 := r3.cell 0
   have c1 := r3.cell 1
   have c2 := r3.cell 2
   have c3 := r3.cell 3
   simp only [List.getElem?_toArray, List.getElem?_cons_zero, List.getElem?_cons_succ] at c0 c1 c2 c3
   have g0 := r3.frozen 0
   have g1 := r3.frozen 1
   have g2 := r3.frozen 2
   have g3 := r3.frozen 3
   go_wp2_with (first | (go_at_call 114; refine (HK.out _).mono ?_; rintro e w' ⟨rfl, rfl⟩) | (go_at_call 85; refine (kMust_yes _).mono ?_; rintro e w' ⟨rfl, rfl⟩))
   obtain ⟨q1, q2⟩ := part_put r3 (.int .i64 2) (.int .i64 0) (.float .f64 y) (.string ⟨#[]⟩)
   have hne : b ≠ w.heap.size := Nat.ne_of_lt HB.out.lt
   refine kRdF_door _ _ _ _ _ _ _ rfl q1 _ ⟨rfl, (H2.out.1.alloc _).keep q2 (by simpa using hne), ?_⟩
   exact (((((Keeps.alloc w _).weaken (T := [b]) (by simp)).trans H1.out.2.1 (by simp)).trans H2.out.2.1 (by simp)).trans (Keeps.alloc _ _) (by simp)).trans q2 (fun x hx hlt => by simp at hx; omega)
  ·have hkx := eq_false_of_ne_true hkx
   go_enter Tryz.func115, Tryz.ntmps115
   go_wp2_with fail
   refine (HC.out _).mono ?_
   rintro e w1 ⟨rfl, hr, hk⟩
   have H1 := Lib.hid (And.intro hr (And.intro hk ((Row.new w 63 #[.int .i64 0, .int .i64 0, .float .f64 0, .string ⟨#[]⟩]).keep hk (by simp; exact Nat.ne_of_gt HB.out.lt))))
   clear hr hk
   go_wp2_with fail
   refine (HFL.out _).mono ?_
   rintro e w2 ⟨rfl, hk⟩
   have H2 := Lib.hid (And.intro (H1.out.1.keeps hk) (And.intro hk (H1.out.2.2.keeps hk)))
   clear hk
   have r3 := H2.out.2.2.alloc (.cells #[.int .i64 2, .int .i64 0, .float .f64 y, .string ⟨#[]⟩] 63)
   have c0 := r3.cell 0
   have c1 := r3.cell 1
   have c2 := r3.cell 2
   have c3 := r3.cell 3
   simp only [List.getElem?_toArray, List.getElem?_cons_zero, List.getElem?_cons_succ] at c0 c1 c2 c3
   have g0 := r3.frozen 0
   have g1 := r3.frozen 1
   have g2 := r3.frozen 2
   have g3 := r3.frozen 3
   go_wp2_with (first | (go_at_call 114; refine (HK.out _).mono ?_; rintro e w' ⟨rfl, rfl⟩) | (go_at_call 85; refine (kMust_yes _).mono ?_; rintro e w' ⟨rfl, rfl⟩))
   obtain ⟨q1, q2⟩ := part_put r3 (.int .i64 2) (.int .i64 0) (.float .f64 y) (.string ⟨#[]⟩)
   have hne : b ≠ w.heap.size := Nat.ne_of_lt HB.out.lt
   refine kRdF_door _ _ _ _ _ _ _ rfl q1 _ ⟨rfl, (H2.out.1.alloc _).keep q2 (by simpa using hne), ?_⟩
   exact (((((Keeps.alloc w _).weaken (T := [b]) (by simp)).trans H1.out.2.1 (by simp)).trans H2.out.2.1 (by simp)).trans (Keeps.alloc _ _) (by simp)).trans q2 (fun x hx hlt => by simp at hx; omega)

set_option maxRecDepth 100000 in
set_option maxHeartbeats 8000000 in
theorem kRdF_bad (w : World) (b : Nat) (l : List UInt8) (hb : Row w b 9 #[strV l]) (hl : 8 ≤ l.length) (hm : l.length ≤ 1000000) (hq : kOf (wholeW (kWord (beN (l.take 8)))) ≠ beN (l.take 8)) :
  Calls Tryz.prog 115 #[.pointer (some ⟨b, 0, none⟩)] w fun e w' => e = kStop ∧ Keeps w w' [b] := by
 have hsf := @run_store_float Tryz.prog
 have hfb := run_f64from
 have HC := Lib.hid (show ∀ o, Calls Tryz.prog 109 #[.pointer (some ⟨b, 0, none⟩)] (w.alloc o) fun e w' => e = .returned (.int .u64 (beN (l.take 8) : Nat)) ∧ Row w' b 9 #[strV (l.drop 8)] ∧ Keeps (w.alloc o) w' [b] from fun o => kTaken_any _ b l (hb.alloc o) hl hm)
 have HB := Lib.hid hb
 have hN := beN8_lt l
 generalize beN (l.take 8) = N at *
 clear hb
 have ha := and_high N hN
 obtain ⟨x, hx⟩ : ∃ x, kWord N = x := ⟨_, rfl⟩
 have hxl : x < 18446744073709551616 := hx ▸ kWord_lt N hN
 have ha2 := and_high x hxl
 have hn := not_word x hxl
 obtain ⟨y, hy⟩ : ∃ y, wholeW x = y := ⟨_, rfl⟩
 have HY := Lib.hid (show y < 18446744073709551616 from hy ▸ wholeW_lt x hxl)
 have HFL := Lib.hid (show ∀ W, Calls Tryz.prog 116 #[.float .f64 x] W fun e w' => e = .returned (.agg #[.int .i64 2, .int .i64 0, .float .f64 y, .string ⟨#[]⟩]) ∧ Keeps W w' [] from fun W => by rw [← hy]; exact kFloat_any x W)
 have HK := Lib.hid (kBits_any y HY.out)
 rw [hx, hy] at hq
 clear hy
 obtain ⟨K, hK⟩ : ∃ K, kOf y = K := ⟨_, rfl⟩
 rw [hK] at HK hq
 clear hK
 have hkn : ((K : Int) == (N : Int)) = false := by simp; omega
 have HQ := Lib.hid hq
 clear hq
 by_cases hs : fS ≤ N
 ·rw [if_pos hs] at ha
  have hd := andNot_high N hN hs
  rw [kWord, if_pos hs] at hx
  rw [hx] at hd
  rw [if_neg (by unfold fS at *; omega)] at ha2
  have ho := or_high x (by unfold fS at *; omega)
  rw [show x + fS = N by omega] at ho
  have HS := Lib.hid (And.intro hs hx)
  clear hs hx
  obtain ⟨z, hz⟩ : ∃ z, 18446744073709551615 - x = z := ⟨_, rfl⟩
  rw [hz] at hn
  clear hz
  by_cases hkx : K = z
  ·subst hkx
   go_enter Tryz.func115, Tryz.ntmps115
   go_wp2_with fail
   refine (HC.out _).mono ?_
   rintro e w1 ⟨rfl, hr, hk⟩
   have H1 := Lib.hid (And.intro hr (And.intro hk ((Row.new w 63 #[.int .i64 0, .int .i64 0, .float .f64 0, .string ⟨#[]⟩]).keep hk (by simp; exact Nat.ne_of_gt HB.out.lt))))
   clear hr hk
   go_wp2_with fail
   refine (HFL.out _).mono ?_
   rintro e w2 ⟨rfl, hk⟩
   have H2 := Lib.hid (And.intro (H1.out.1.keeps hk) (And.intro hk (H1.out.2.2.keeps hk)))
   clear hk
   have r3 := H2.out.2.2.alloc (.cells #[.int .i64 2, .int .i64 0, .float .f64 y, .string ⟨#[]⟩] 63)
   have c0 := r3.cell 0
   have c1 := r3.cell 1
   have c2 := r3.cell 2
   have c3 := r3.cell 3
   simp only [List.getElem?_toArray, List.getElem?_cons_zero, List.getElem?_cons_succ] at c0 c1 c2 c3
   have g0 := r3.frozen 0
   have g1 := r3.frozen 1
   have g2 := r3.frozen 2
   have g3 := r3.frozen 3
   go_wp2_with (first | (go_at_call 114; refine (HK.out _).mono ?_; rintro e w' ⟨rfl, rfl⟩) | (go_at_call 85; refine (kMust_no _).mono ?_; rintro e w' ⟨rfl, rfl⟩))
   all_goals first | exact absurd hn.symm (by assumption) | exact absurd (show (_ : Int) = _ by assumption) (fun (e : (K : Int) = bits BinOp.xor IntKind.u64 IntKind.u64.max (x : Int)) => by rw [hn] at e; simp [e] at hkx) | skip
   all_goals first | refine ⟨rfl, rfl, ?_⟩ | (rename_i chain heq; injection heq with heq; subst heq; refine ⟨rfl, rfl, ?_⟩)
   all_goals exact ((((Keeps.alloc w _).weaken (T := [b]) (by simp)).trans H1.out.2.1 (by simp)).trans H2.out.2.1 (by simp)).trans (Keeps.alloc _ _) (by simp)
  ·have hkx : ((K : Int) == (z : Int)) = false := by simp; omega
   go_enter Tryz.func115, Tryz.ntmps115
   go_wp2_with fail
   refine (HC.out _).mono ?_
   rintro e w1 ⟨rfl, hr, hk⟩
   have H1 := Lib.hid (And.intro hr (And.intro hk ((Row.new w 63 #[.int .i64 0, .int .i64 0, .float .f64 0, .string ⟨#[]⟩]).keep hk (by simp; exact Nat.ne_of_gt HB.out.lt))))
   clear hr hk
   go_wp2_with fail
   refine (HFL.out _).mono ?_
   rintro e w2 ⟨rfl, hk⟩
   have H2 := Lib.hid (And.intro (H1.out.1.keeps hk) (And.intro hk (H1.out.2.2.keeps hk)))
   clear hk
   have r3 := H2.out.2.2.alloc (.cells #[.int .i64 2, .int .i64 0, .float .f64 y, .string ⟨#[]⟩] 63)
   have c0 := r3.cell 0
   have c1 := r3.cell 1
   have c2 := r3.cell 2
   have c3 := r3.cell 3
   simp only [List.getElem?_toArray, List.getElem?_cons_zero, List.getElem?_cons_succ] at c0 c1 c2 c3
   have g0 := r3.frozen 0
   have g1 := r3.frozen 1
   have g2 := r3.frozen 2
   have g3 := r3.frozen 3
   go_wp2_with (first | (go_at_call 114; refine (HK.out _).mono ?_; rintro e w' ⟨rfl, rfl⟩) | (go_at_call 85; refine (kMust_no _).mono ?_; rintro e w' ⟨rfl, rfl⟩))
   all_goals first | exact absurd hn.symm (by assumption) | exact absurd (show (_ : Int) = _ by assumption) (fun (e : (K : Int) = bits BinOp.xor IntKind.u64 IntKind.u64.max (x : Int)) => by rw [hn] at e; simp [e] at hkx) | skip
   all_goals first | refine ⟨rfl, rfl, ?_⟩ | (rename_i chain heq; injection heq with heq; subst heq; refine ⟨rfl, rfl, ?_⟩)
   all_goals exact ((((Keeps.alloc w _).weaken (T := [b]) (by simp)).trans H1.out.2.1 (by simp)).trans H2.out.2.1 (by simp)).trans (Keeps.alloc _ _) (by simp)
 ·rw [if_neg hs] at ha
  have hd := not_word N hN
  rw [kWord, if_neg hs] at hx
  rw [hx] at hd
  have hxs : fS ≤ x := by unfold fS at *; omega
  rw [if_pos hxs] at ha2
  have ho := or_high2 x hxl hxs
  rw [show 18446744073709551615 - x = N by omega] at hn
  have HS := Lib.hid (And.intro hs (And.intro hx hxs))
  clear hs hx hxs
  by_cases hkx : ((K : Int) == (x : Int)) = true
  ·skip
   go_enter Tryz.func115, Tryz.ntmps115
   go_wp2_with fail
   refine (HC.out _).mono ?_
   rintro e w1 ⟨rfl, hr, hk⟩
   have H1 := Lib.hid (And.intro hr (And.intro hk ((Row.new w 63 #[.int .i64 0, .int .i64 0, .float .f64 0, .string ⟨#[]⟩]).keep hk (by simp; exact Nat.ne_of_gt HB.out.lt))))
   clear hr hk
   go_wp2_with fail
   refine (HFL.out _).mono ?_
   rintro e w2 ⟨rfl, hk⟩
   have H2 := Lib.hid (And.intro (H1.out.1.keeps hk) (And.intro hk (H1.out.2.2.keeps hk)))
   clear hk
   have r3 := H2.out.2.2.alloc (.cells #[.int .i64 2, .int .i64 0, .float .f64 y, .string ⟨#[]⟩] 63)
   have c0 := r3.cell 0
   have c1 := r3.cell 1
   have c2 := r3.cell 2
   have c3 := r3.cell 3
   simp only [List.getElem?_toArray, List.getElem?_cons_zero, List.getElem?_cons_succ] at c0 c1 c2 c3
   have g0 := r3.frozen 0
   have g1 := r3.frozen 1
   have g2 := r3.frozen 2
   have g3 := r3.frozen 3
   go_wp2_with (first | (go_at_call 114; refine (HK.out _).mono ?_; rintro e w' ⟨rfl, rfl⟩) | (go_at_call 85; refine (kMust_no _).mono ?_; rintro e w' ⟨rfl, rfl⟩))
   all_goals first | exact absurd hn.symm (by assumption) | exact absurd (show (_ : Int) = _ by assumption) (fun (e : (K : Int) = bits BinOp.xor IntKind.u64 IntKind.u64.max (x : Int)) => by rw [hn] at e; simp [e] at hkx) | skip
   all_goals first | refine ⟨rfl, rfl, ?_⟩ | (rename_i chain heq; injection heq with heq; subst heq; refine ⟨rfl, rfl, ?_⟩)
   all_goals exact ((((Keeps.alloc w _).weaken (T := [b]) (by simp)).trans H1.out.2.1 (by simp)).trans H2.out.2.1 (by simp)).trans (Keeps.alloc _ _) (by simp)
  ·have hkx := eq_false_of_ne_true hkx
   go_enter Tryz.func115, Tryz.ntmps115
   go_wp2_with fail
   refine (HC.out _).mono ?_
   rintro e w1 ⟨rfl, hr, hk⟩
   have H1 := Lib.hid (And.intro hr (And.intro hk ((Row.new w 63 #[.int .i64 0, .int .i64 0, .float .f64 0, .string ⟨#[]⟩]).keep hk (by simp; exact Nat.ne_of_gt HB.out.lt))))
   clear hr hk
   go_wp2_with fail
   refine (HFL.out _).mono ?_
   rintro e w2 ⟨rfl, hk⟩
   have H2 := Lib.hid (And.intro (H1.out.1.keeps hk) (And.intro hk (H1.out.2.2.keeps hk)))
   clear hk
   have r3 := H2.out.2.2.alloc (.cells #[.int .i64 2, .int .i64 0, .float .f64 y, .string ⟨#[]⟩] 63)
   have c0 := r3.cell 0
   have c1 := r3.cell 1
   have c2 := r3.cell 2
   have c3 := r3.cell 3
   simp only [List.getElem?_toArray, List.getElem?_cons_zero, List.getElem?_cons_succ] at c0 c1 c2 c3
   have g0 := r3.frozen 0
   have g1 := r3.frozen 1
   have g2 := r3.frozen 2
   have g3 := r3.frozen 3
   go_wp2_with (first | (go_at_call 114; refine (HK.out _).mono ?_; rintro e w' ⟨rfl, rfl⟩) | (go_at_call 85; refine (kMust_no _).mono ?_; rintro e w' ⟨rfl, rfl⟩))
   all_goals first | exact absurd hn.symm (by assumption) | exact absurd (show (_ : Int) = _ by assumption) (fun (e : (K : Int) = bits BinOp.xor IntKind.u64 IntKind.u64.max (x : Int)) => by rw [hn] at e; simp [e] at hkx) | skip
   all_goals first | refine ⟨rfl, rfl, ?_⟩ | (rename_i chain heq; injection heq with heq; subst heq; refine ⟨rfl, rfl, ?_⟩)
   all_goals exact ((((Keeps.alloc w _).weaken (T := [b]) (by simp)).trans H1.out.2.1 (by simp)).trans H2.out.2.1 (by simp)).trans (Keeps.alloc _ _) (by simp)
end Go.Proofs.YtfglgeoookbppaaGreatDoor
