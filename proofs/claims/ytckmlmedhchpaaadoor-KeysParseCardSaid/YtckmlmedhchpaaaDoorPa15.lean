/- Package keys: what a kind has: may, raw, compare. Package keys: eight bytes, taken off. Package keys: numbers, read. Package keys: floats, read. -/
import Derived.Test.YtckmlmedhchpaaaDoorPa12
import Derived.Test.YtckmlmedhchpaaaDoorPa14

namespace Go.Proofs.YtckmlmedhchpaaaDoor
open Go.RowKit Ieee

/-- A part as a value; its cells. -/
def kpCells (p : KP) : List Value := [.int .i64 p.k, .int .i64 p.n, .float .f64 p.f, strV p.s]
def kpV (p : KP) : Value := .agg #[.int .i64 p.k, .int .i64 p.n, .float .f64 p.f, strV p.s]
theorem order_zero (x : Nat) : (FloatKind.f64.format.order x 0 == some Ordering.eq) = fz x := by
  change (double.order x 0 == some Ordering.eq) = _
  unfold fz
  by_cases h : fInf < x % fS
  · rw [order_nan x 0 (.inl h)]
    simp
    omega
  · rw [order_key x 0 (by omega) (by decide), show fKey 0 = 0 by decide]
    by_cases hz : x % fS = 0
    · rw [hz]
      have : fKey x = 0 := by unfold fKey; rw [hz]; simp
      rw [this]; rfl
    · have hne : fKey x ≠ 0 := by unfold fKey; split <;> omega
      have h1 : (compare (fKey x) 0) ≠ Ordering.eq := fun h => hne (Int.compare_eq_eq.1 h)
      cases hc : compare (fKey x) 0
      · simp [hz]
      · exact absurd hc h1
      · simp [hz]

/-- The highest bit, turned. -/
theorem xor_high (m : Nat) (h : m < 18446744073709551616) : bits BinOp.xor IntKind.u64 (m : Int) 9223372036854775808 = ((if m < fS then m + fS else m - fS : Nat) : Int) := by
  have h1 := u64_xor_nat m 9223372036854775808 h (by omega)
  rw [show ((9223372036854775808 : Nat) : Int) = 9223372036854775808 from rfl] at h1
  rw [h1]
  congr 1
  have d := Nat.xor_div_two_pow (a := m) (b := 2 ^ 63) (n := 63)
  have r := Nat.xor_mod_two_pow (a := m) (b := 2 ^ 63) (n := 63)
  rw [show (9223372036854775808 : Nat) = 2 ^ 63 from rfl]
  have e := Nat.div_add_mod (m ^^^ 2 ^ 63) (2 ^ 63)
  rw [d, r, show 2 ^ 63 / 2 ^ 63 = 1 from rfl, show 2 ^ 63 % 2 ^ 63 = 0 from rfl, Nat.xor_zero] at e
  unfold fS
  have e2 := Nat.div_add_mod m (2 ^ 63)
  split
  · rw [show m / 2 ^ 63 = 0 by omega] at e e2
    rw [show (0 : Nat) ^^^ 1 = 1 from rfl] at e
    omega
  · rw [show m / 2 ^ 63 = 1 by omega] at e e2
    rw [show (1 : Nat) ^^^ 1 = 0 from rfl] at e
    omega
theorem xor_up (n : Int) (h1 : -9223372036854775808 ≤ n) (h2 : n ≤ 9223372036854775807) : bits BinOp.xor IntKind.u64 (IntKind.u64.wrap n) 9223372036854775808 = ((kUp n : Nat) : Int) := by
  have hw : IntKind.u64.wrap n = ((n % 18446744073709551616).toNat : Int) := by
    rw [IntKind.wrap_u64]
    omega
  rw [hw, xor_high _ (by omega)]
  unfold kUp fS
  split <;> omega

set_option maxRecDepth 100000 in
set_option maxHeartbeats 2000000 in
theorem kMayI_any (p : KP) (w : World) : Calls Tryd.prog 35 #[kpV p] w fun e w' => e = .returned (.bool (p.s.isEmpty && fz p.f)) ∧ Keeps w w' [] := by
  obtain ⟨k, n, f, s⟩ := p
  unfold kpV strV
  have hsf := @run_store_float Tryd.prog
  rcases s with _ | ⟨b, s⟩
  · have h := order_zero f
    go_enter Tryd.func35, Tryd.ntmps35
    go_wp2
    go_ret
    exact ⟨by simp, Keeps.alloc _ _⟩
  · go_enter Tryd.func35, Tryd.ntmps35
    go_wp2
    go_ret
    exact ⟨by simp, Keeps.alloc _ _⟩
set_option maxRecDepth 100000 in
set_option maxHeartbeats 2000000 in
theorem kMayF_any (p : KP) (w : World) : Calls Tryd.prog 42 #[kpV p] w fun e w' => e = .returned (.bool (p.s.isEmpty && p.n == 0)) ∧ Keeps w w' [] := by
  obtain ⟨k, n, f, s⟩ := p
  unfold kpV strV
  have hsf := @run_store_float Tryd.prog
  rcases s with _ | ⟨b, s⟩
  · go_enter Tryd.func42, Tryd.ntmps42
    go_wp2
    go_ret
    exact ⟨by simp, Keeps.alloc _ _⟩
  · go_enter Tryd.func42, Tryd.ntmps42
    go_wp2
    go_ret
    exact ⟨by simp, Keeps.alloc _ _⟩
set_option maxRecDepth 100000 in
set_option maxHeartbeats 2000000 in
theorem kMayT_any (p : KP) (w : World) : Calls Tryd.prog 49 #[kpV p] w fun e w' => e = .returned (.bool (p.n == 0 && fz p.f)) ∧ Keeps w w' [] := by
  obtain ⟨k, n, f, s⟩ := p
  unfold kpV strV
  have hsf := @run_store_float Tryd.prog
  have h := order_zero f
  cases hn : n == 0
  all_goals
    go_enter Tryd.func49, Tryd.ntmps49
    go_wp2
    go_ret
    exact ⟨by simp, Keeps.alloc _ _⟩
set_option maxRecDepth 100000 in
set_option maxHeartbeats 2000000 in
theorem kRawI_any (p : KP) (hp : p.Ok) (w : World) : Calls Tryd.prog 36 #[kpV p] w fun e w' => e = .returned (strV (toBE 8 (kUp p.n))) ∧ Keeps w w' [] := by
  obtain ⟨k, n, f, s⟩ := p
  have hn1 := hp.n1
  have hn2 := hp.n2
  simp only at hn1 hn2
  unfold kpV strV
  have hsf := @run_store_float Tryd.prog
  have hx := xor_up n hn1 hn2
  have HL := Lib.hid (show kUp n < 18446744073709551616 by unfold kUp; omega)
  go_enter Tryd.func36, Tryd.ntmps36
  go_wp2_with (go_at_call 37; refine (kLaid_any _ _ HL.out).mono ?_; rintro e w' ⟨rfl, hk⟩)
  go_ret
  exact ⟨rfl, (Keeps.alloc _ _).trans hk (by simp)⟩
set_option maxRecDepth 100000 in
set_option maxHeartbeats 2000000 in
theorem kRawF_any (p : KP) (hp : p.Ok) (w : World) : Calls Tryd.prog 43 #[kpV p] w fun e w' => e = .returned (strV (toBE 8 (kOf p.f))) ∧ Keeps w w' [] := by
  obtain ⟨k, n, f, s⟩ := p
  have HF := Lib.hid hp.f
  unfold kpV strV
  have hsf := @run_store_float Tryd.prog
  have HL := Lib.hid (kOf_lt f HF.out)
  go_enter Tryd.func43, Tryd.ntmps43
  go_wp2_with (first
    | (go_at_call 44; refine (kBits_any _ HF.out _).mono ?_; rintro e w' ⟨rfl, rfl⟩)
    | (go_at_call 37; refine (kLaid_any _ _ HL.out).mono ?_; rintro e w' ⟨rfl, hk⟩))
  go_ret
  exact ⟨rfl, (Keeps.alloc _ _).trans hk (by simp)⟩
end Go.Proofs.YtckmlmedhchpaaaDoor

namespace Go.Proofs.YtckmlmedhchpaaaDoor
open Go.RowKit

/-- What is given up with. -/
abbrev kStop : Ending := .panicked [{ v := .iface 49 (.agg #[]), recovered := false }]

set_option maxRecDepth 100000 in
set_option maxHeartbeats 1000000 in
theorem kTaken_no (w : World) (b : Nat) (l : List UInt8) (hb : Row w b 9 #[strV l]) (hl : l.length < 8) :
    Calls Tryd.prog 39 #[.pointer (some ⟨b, 0, none⟩)] w fun e w' => e = kStop ∧ w = w' := by
  have c0 := hb.cell 0
  simp [strV] at c0
  have hd : decide ((8 : Int) ≤ (l.length : Int)) = false := by simp; omega
  go_enter Tryd.func39, Tryd.ntmps39
  go_wp2_with (go_at_call 24; refine (kMust_no _).mono ?_; rintro e w' ⟨rfl, rfl⟩)
  exact ⟨rfl, rfl, rfl⟩

theorem take_snoc8 (l : List UInt8) (j : Nat) (h : j < l.length) : l.take (j + 1) = l.take j ++ [l[j]] := List.take_succ_eq_append_getElem h
theorem beN_take_lt (l : List UInt8) (j : Nat) (h : j ≤ 7) : beN (l.take j) < 72057594037927936 := by
  have h1 := beN_lt (l.take j)
  have h2 : 256 ^ (l.take j).length ≤ 256 ^ 7 := Nat.pow_le_pow_right (by omega) (by rw [List.length_take]; omega)
  exact Nat.lt_of_lt_of_le h1 h2

theorem wrap_byte (b : UInt8) : IntKind.u64.wrap (b.toNat : Int) = (b.toNat : Int) := by
  have := b.toNat_lt
  rw [IntKind.wrap_u64]
  omega
theorem str_drop (l : List UInt8) (k : Nat) : (⟨l.toArray⟩ : ByteArray).extract k l.length = ⟨(l.drop k).toArray⟩ := by
  apply ByteArray.ext
  rw [ByteArray.data_extract]
  simp
  rw [List.take_of_length_le (by simp)]

set_option maxRecDepth 100000 in
set_option maxHeartbeats 2000000 in
theorem kTaken_any (w : World) (b : Nat) (l : List UInt8) (hb : Row w b 9 #[strV l]) (hl : 8 ≤ l.length) (hm : l.length ≤ 1000000) :
    Calls Tryd.prog 39 #[.pointer (some ⟨b, 0, none⟩)] w fun e w' => e = .returned (.int .u64 (beN (l.take 8) : Nat)) ∧ Row w' b 9 #[strV (l.drop 8)] ∧ Keeps w w' [b] := by
  have c0 := hb.cell 0
  have f0 := hb.frozen 0
  simp [strV] at c0
  have hd : decide ((8 : Int) ≤ (l.length : Int)) = true := by simp; omega
  have HB := Lib.hid hb
  clear hb
  go_enter Tryd.func39, Tryd.ntmps39
  go_wp2_with (go_at_call 24; refine (kMust_yes _).mono ?_; rintro e w' ⟨rfl, rfl⟩)
  go_loop [3, 11] (fun n i => ∃ j : Nat, j ≤ 8 ∧ i = .int .i64 j ∧ n = .int .u64 (beN (l.take j) : Nat)) (fun _ i => 8 - (intOf i).toNat)
  case atStart => exact ⟨0, by omega, rfl, by simp [beN]⟩
  case round =>
    obtain ⟨j, hj, rfl, rfl⟩ := hrel
    by_cases hj8 : j < 8
    · have HS := Lib.hid (show beN (l.take (j + 1)) = beN (l.take j) * 256 + l[j].toNat by rw [take_snoc8 l j (by omega), beN_snoc])
      have hlt := beN_take_lt l j (by omega)
      have HO := Lib.hid (be_step (beN (l.take j)) l[j].toNat hlt l[j].toNat_lt)
      obtain ⟨N, hN⟩ : ∃ N, beN (l.take j) = N := ⟨_, rfl⟩
      rw [hN] at hlt HS HO ⊢
      clear hN
      have hjl : j < l.length := by omega
      go_wp2
      refine ⟨⟨j + 1, by omega, by go_num, ?_⟩, by simp [intOf]; omega⟩
      rw [HS.out]
      exact congrArg (Value.int .u64) ((congrArg (bits BinOp.or IntKind.u64 ((N : Int) * 256)) (wrap_byte l[j])).trans HO.out)
    · obtain rfl : j = 8 := by omega
      have he := str_drop l 8
      go_wp2
      go_ret
      exact ⟨rfl, HB.out.store 0 _, Keeps.setCell _ _ _⟩
end Go.Proofs.YtckmlmedhchpaaaDoor

namespace Go.Proofs.YtckmlmedhchpaaaDoor
open Go.RowKit

theorem kRdI_door (W : World) (t : Array Value) (b : Nat) (x0 x1 x2 x3 : Value) (h2 : t.getD 2 undef = .pointer (some ⟨b, 0, none⟩))
    (r : Row W b 34 #[x0, x1, x2, x3]) (R : Ending → World → Prop) (hR : R (.returned (.agg #[x0, x1, x2, x3])) W) :
    bodyPost Tryd.prog Tryd.f38 R Exit.ret { tmps := t, defers := [] } W := by
  have c0 := r.cell 0
  have c1 := r.cell 1
  have c2 := r.cell 2
  have c3 := r.cell 3
  rw [Array.getD_eq_getD_getElem?] at h2
  simp at c0 c1 c2 c3
  refine bodyPost_ret (v := .agg #[x0, x1, x2, x3]) ?_ rfl hR
  simp [results, Tryd.results38, go_sem, h2, c0, c1, c2, c3]
theorem kRdF_door (W : World) (t : Array Value) (b : Nat) (x0 x1 x2 x3 : Value) (h2 : t.getD 2 undef = .pointer (some ⟨b, 0, none⟩))
    (r : Row W b 34 #[x0, x1, x2, x3]) (R : Ending → World → Prop) (hR : R (.returned (.agg #[x0, x1, x2, x3])) W) :
    bodyPost Tryd.prog Tryd.f45 R Exit.ret { tmps := t, defers := [] } W := by
  have c0 := r.cell 0
  have c1 := r.cell 1
  have c2 := r.cell 2
  have c3 := r.cell 3
  rw [Array.getD_eq_getD_getElem?] at h2
  simp at c0 c1 c2 c3
  refine bodyPost_ret (v := .agg #[x0, x1, x2, x3]) ?_ rfl hR
  simp [results, Tryd.results45, go_sem, h2, c0, c1, c2, c3]
theorem kRdT_door (W : World) (t : Array Value) (b : Nat) (x0 x1 x2 x3 : Value) (h2 : t.getD 2 undef = .pointer (some ⟨b, 0, none⟩))
    (r : Row W b 34 #[x0, x1, x2, x3]) (R : Ending → World → Prop) (hR : R (.returned (.agg #[x0, x1, x2, x3])) W) :
    bodyPost Tryd.prog Tryd.f52 R Exit.ret { tmps := t, defers := [] } W := by
  have c0 := r.cell 0
  have c1 := r.cell 1
  have c2 := r.cell 2
  have c3 := r.cell 3
  rw [Array.getD_eq_getD_getElem?] at h2
  simp at c0 c1 c2 c3
  refine bodyPost_ret (v := .agg #[x0, x1, x2, x3]) ?_ rfl hR
  simp [results, Tryd.results52, go_sem, h2, c0, c1, c2, c3]
/-- A part's cells, written. -/
theorem part_put {W : World} {b : Nat} {p0 p1 p2 p3 : Value} (h : Row W b 34 #[p0, p1, p2, p3]) (q0 q1 q2 q3 : Value) :
    Row ((((W.setCell ⟨b, 0, none⟩ q0).setCell ⟨b, 1, none⟩ q1).setCell ⟨b, 2, none⟩ q2).setCell ⟨b, 3, none⟩ q3) b 34 #[q0, q1, q2, q3] ∧
    Keeps W ((((W.setCell ⟨b, 0, none⟩ q0).setCell ⟨b, 1, none⟩ q1).setCell ⟨b, 2, none⟩ q2).setCell ⟨b, 3, none⟩ q3) [b] :=
  ⟨(((h.store 0 q0).store 1 q1).store 2 q2).store 3 q3, (((Keeps.setCell _ _ _).trans (Keeps.setCell _ _ _) (by simp)).trans (Keeps.setCell _ _ _) (by simp)).trans (Keeps.setCell _ _ _) (by simp)⟩

theorem xor_down (N : Nat) (h : N < 18446744073709551616) : IntKind.i64.wrap (bits BinOp.xor IntKind.u64 (N : Int) 9223372036854775808) = (N : Int) - 9223372036854775808 := by
  rw [xor_high N h, IntKind.wrap_i64]
  unfold fS
  split <;> omega
theorem beN8_lt (l : List UInt8) : beN (l.take 8) < 18446744073709551616 := by
  have h1 := beN_lt (l.take 8)
  have h2 : 256 ^ (l.take 8).length ≤ 256 ^ 8 := Nat.pow_le_pow_right (by omega) (by rw [List.length_take]; omega)
  exact Nat.lt_of_lt_of_le h1 h2

set_option maxRecDepth 100000 in
set_option maxHeartbeats 1000000 in
theorem kRdI_no (w : World) (b : Nat) (l : List UInt8) (hb : Row w b 9 #[strV l]) (hl : l.length < 8) :
    Calls Tryd.prog 38 #[.pointer (some ⟨b, 0, none⟩)] w fun e w' => e = kStop ∧ Keeps w w' [b] := by
  have HC := Lib.hid (show ∀ o, Calls Tryd.prog 39 #[.pointer (some ⟨b, 0, none⟩)] (w.alloc o) fun e w' => e = kStop ∧ w.alloc o = w' from fun o => kTaken_no _ b l (hb.alloc o) hl)
  clear hb hl
  go_enter Tryd.func38, Tryd.ntmps38
  go_wp2_with fail
  refine (HC.out _).mono ?_
  rintro e w1 ⟨rfl, rfl⟩
  exact ⟨rfl, rfl, (Keeps.alloc _ _).weaken (by simp)⟩

set_option maxRecDepth 100000 in
set_option maxHeartbeats 2000000 in
theorem kRdI_any (w : World) (b : Nat) (l : List UInt8) (hb : Row w b 9 #[strV l]) (hl : 8 ≤ l.length) (hm : l.length ≤ 1000000) :
    Calls Tryd.prog 38 #[.pointer (some ⟨b, 0, none⟩)] w fun e w' =>
      e = .returned (kpV ⟨1, (beN (l.take 8) : Int) - 9223372036854775808, 0, []⟩) ∧ Row w' b 9 #[strV (l.drop 8)] ∧ Keeps w w' [b] := by
  have hsf := @run_store_float Tryd.prog
  have HC := Lib.hid (show ∀ o, Calls Tryd.prog 39 #[.pointer (some ⟨b, 0, none⟩)] (w.alloc o) fun e w' => e = .returned (.int .u64 (beN (l.take 8) : Nat)) ∧ Row w' b 9 #[strV (l.drop 8)] ∧ Keeps (w.alloc o) w' [b] from fun o => kTaken_any _ b l (hb.alloc o) hl hm)
  have HB := Lib.hid hb
  have HX := Lib.hid (xor_down _ (beN8_lt l))
  generalize beN (l.take 8) = N at *
  clear hb
  go_enter Tryd.func38, Tryd.ntmps38
  go_wp2_with fail
  refine (HC.out _).mono ?_
  rintro e w1 ⟨rfl, hr, hk⟩
  have H1 := Lib.hid (And.intro hr (And.intro hk ((Row.new w 34 #[.int .i64 0, .int .i64 0, .float .f64 0, .string ⟨#[]⟩]).keep hk (by simp; exact Nat.ne_of_gt HB.out.lt))))
  clear hr hk
  have hx := HX.out
  go_wp2_with fail
  refine (kInt_any _ _).mono ?_
  rintro e w2 ⟨rfl, hk⟩
  have H2 := Lib.hid (And.intro (H1.out.1.keeps hk) (And.intro hk (H1.out.2.2.keeps hk)))
  clear hk hx
  have c0 := H2.out.2.2.cell 0
  have c1 := H2.out.2.2.cell 1
  have c2 := H2.out.2.2.cell 2
  have c3 := H2.out.2.2.cell 3
  simp only [List.getElem?_toArray, List.getElem?_cons_zero, List.getElem?_cons_succ] at c0 c1 c2 c3
  have g0 := H2.out.2.2.frozen 0
  have g1 := H2.out.2.2.frozen 1
  have g2 := H2.out.2.2.frozen 2
  have g3 := H2.out.2.2.frozen 3
  go_wp2_with fail
  obtain ⟨q1, q2⟩ := part_put H2.out.2.2 (.int .i64 1) (.int .i64 ((N : Int) - 9223372036854775808)) (.float .f64 0) (.string ⟨#[]⟩)
  have hne : b ≠ w.heap.size := Nat.ne_of_lt HB.out.lt
  refine kRdI_door _ _ _ _ _ _ _ rfl q1 _ ⟨rfl, H2.out.1.keep q2 (by simpa using hne), ?_⟩
  exact ((((Keeps.alloc w _).weaken (T := [b]) (by simp)).trans H1.out.2.1 (by simp)).trans H2.out.2.1 (by simp)).trans q2 (fun x hx hlt => by simp at hx; omega)
end Go.Proofs.YtckmlmedhchpaaaDoor

namespace Go.Proofs.YtckmlmedhchpaaaDoor
open Go.RowKit Ieee

/-- The word of a number's bits in order. -/
def kWord (N : Nat) : Nat := if fS ≤ N then N - fS else 18446744073709551615 - N
set_option maxRecDepth 10000 in
theorem andNot_high (N : Nat) (h : N < 18446744073709551616) (hs : fS ≤ N) : bits BinOp.andNot IntKind.u64 (N : Int) 9223372036854775808 = ((N - fS : Nat) : Int) := by
  have h1 := u64_andNot_nat N 9223372036854775808 h (by omega)
  rw [show ((9223372036854775808 : Nat) : Int) = 9223372036854775808 from rfl] at h1
  have h2 : N &&& (18446744073709551615 - 9223372036854775808) = N - fS := by
    rw [show 18446744073709551615 - 9223372036854775808 = 2 ^ 63 - 1 from rfl, Nat.and_two_pow_sub_one_eq_mod]
    unfold fS at *
    omega
  rw [h1, h2]
theorem or_high2 (n : Nat) (h : n < 18446744073709551616) (hs : fS ≤ n) : bits BinOp.or IntKind.u64 (n : Int) 9223372036854775808 = (n : Int) := by
  have h1 := u64_or_nat n 9223372036854775808 h (by omega)
  rw [show ((9223372036854775808 : Nat) : Int) = 9223372036854775808 from rfl] at h1
  rw [h1]
  congr 1
  obtain ⟨m, rfl⟩ : ∃ m, n = 2 ^ 63 + m := ⟨n - 2 ^ 63, by unfold fS at *; omega⟩
  have h2 := Nat.two_pow_add_eq_or_of_lt (i := 63) (b := m) (by omega) 1
  rw [Nat.mul_one] at h2
  rw [show (9223372036854775808 : Nat) = 2 ^ 63 from rfl, h2, Nat.or_assoc, Nat.or_comm m, ← Nat.or_assoc, Nat.or_self]

set_option maxRecDepth 100000 in
set_option maxHeartbeats 1000000 in
theorem kRdF_no (w : World) (b : Nat) (l : List UInt8) (hb : Row w b 9 #[strV l]) (hl : l.length < 8) :
    Calls Tryd.prog 45 #[.pointer (some ⟨b, 0, none⟩)] w fun e w' => e = kStop ∧ Keeps w w' [b] := by
  have HC := Lib.hid (show ∀ o, Calls Tryd.prog 39 #[.pointer (some ⟨b, 0, none⟩)] (w.alloc o) fun e w' => e = kStop ∧ w.alloc o = w' from fun o => kTaken_no _ b l (hb.alloc o) hl)
  clear hb hl
  go_enter Tryd.func45, Tryd.ntmps45
  go_wp2_with fail
  refine (HC.out _).mono ?_
  rintro e w1 ⟨rfl, rfl⟩
  exact ⟨rfl, rfl, (Keeps.alloc _ _).weaken (by simp)⟩
theorem wholeW_lt (x : Nat) (h : x < 18446744073709551616) : wholeW x < 18446744073709551616 := by unfold wholeW; split <;> omega
theorem kWord_lt (N : Nat) (h : N < 18446744073709551616) : kWord N < 18446744073709551616 := by unfold kWord fS; split <;> omega

set_option maxRecDepth 100000 in
set_option maxHeartbeats 4000000 in
theorem kRdF_any (w : World) (b : Nat) (l : List UInt8) (hb : Row w b 9 #[strV l]) (hl : 8 ≤ l.length) (hm : l.length ≤ 1000000) (hq : kOf (wholeW (kWord (beN (l.take 8)))) = beN (l.take 8)) :
    Calls Tryd.prog 45 #[.pointer (some ⟨b, 0, none⟩)] w fun e w' =>
      e = .returned (kpV ⟨2, 0, wholeW (kWord (beN (l.take 8))), []⟩) ∧ Row w' b 9 #[strV (l.drop 8)] ∧ Keeps w w' [b] := by
  have hsf := @run_store_float Tryd.prog
  have hfb := run_f64from
  have HC := Lib.hid (show ∀ o, Calls Tryd.prog 39 #[.pointer (some ⟨b, 0, none⟩)] (w.alloc o) fun e w' => e = .returned (.int .u64 (beN (l.take 8) : Nat)) ∧ Row w' b 9 #[strV (l.drop 8)] ∧ Keeps (w.alloc o) w' [b] from fun o => kTaken_any _ b l (hb.alloc o) hl hm)
  have HB := Lib.hid hb
  have hN := beN8_lt l
  generalize beN (l.take 8) = N at *
  clear hb
  have ha := and_high N hN
  obtain ⟨x, hx⟩ : ∃ x, kWord N = x := ⟨_, rfl⟩
  have hxl : x < 18446744073709551616 := hx ▸ kWord_lt N hN
  have ha2 := and_high x hxl
  have hn := not_word x hxl
  obtain ⟨y, hy⟩ : ∃ y, wholeW x = y := ⟨_, rfl⟩
  have HY := Lib.hid (show y < 18446744073709551616 from hy ▸ wholeW_lt x hxl)
  have HFL := Lib.hid (show ∀ W, Calls Tryd.prog 16 #[.float .f64 x] W fun e w' => e = .returned (.agg #[.int .i64 2, .int .i64 0, .float .f64 y, .string ⟨#[]⟩]) ∧ Keeps W w' [] from fun W => by rw [← hy]; exact kFloat_any x W)
  have HK := Lib.hid (kBits_any y HY.out)
  rw [hx, hy] at hq ⊢
  clear hy
  obtain ⟨K, hK⟩ : ∃ K, kOf y = K := ⟨_, rfl⟩
  rw [hK] at HK hq
  clear hK
  subst hq
  by_cases hs : fS ≤ K
  · rw [if_pos hs] at ha
    have hd := andNot_high K hN hs
    rw [kWord, if_pos hs] at hx
    rw [hx] at hd
    rw [if_neg (by unfold fS at *; omega)] at ha2
    have ho := or_high x (by unfold fS at *; omega)
    rw [show x + fS = K by omega] at ho
    have HS := Lib.hid (And.intro hs hx)
    clear hs hx
    go_enter Tryd.func45, Tryd.ntmps45
    go_wp2_with fail
    refine (HC.out _).mono ?_
    rintro e w1 ⟨rfl, hr, hk⟩
    have H1 := Lib.hid (And.intro hr (And.intro hk ((Row.new w 34 #[.int .i64 0, .int .i64 0, .float .f64 0, .string ⟨#[]⟩]).keep hk (by simp; exact Nat.ne_of_gt HB.out.lt))))
    clear hr hk
    go_wp2_with fail
    refine (HFL.out _).mono ?_
    rintro e w2 ⟨rfl, hk⟩
    have H2 := Lib.hid (And.intro (H1.out.1.keeps hk) (And.intro hk (H1.out.2.2.keeps hk)))
    clear hk
    have r3 := H2.out.2.2.alloc (.cells #[.int .i64 2, .int .i64 0, .float .f64 y, .string ⟨#[]⟩] 34)
    have c0 := r3.cell 0
    have c1 := r3.cell 1
    have c2 := r3.cell 2
    have c3 := r3.cell 3
    simp only [List.getElem?_toArray, List.getElem?_cons_zero, List.getElem?_cons_succ] at c0 c1 c2 c3
    have g0 := r3.frozen 0
    have g1 := r3.frozen 1
    have g2 := r3.frozen 2
    have g3 := r3.frozen 3
    go_wp2_with (first | (go_at_call 44; refine (HK.out _).mono ?_; rintro e w' ⟨rfl, rfl⟩) | (go_at_call 24; refine (kMust_yes _).mono ?_; rintro e w' ⟨rfl, rfl⟩))
    obtain ⟨q1, q2⟩ := part_put r3 (.int .i64 2) (.int .i64 0) (.float .f64 y) (.string ⟨#[]⟩)
    have hne : b ≠ w.heap.size := Nat.ne_of_lt HB.out.lt
    refine kRdF_door _ _ _ _ _ _ _ rfl q1 _ ⟨rfl, (H2.out.1.alloc _).keep q2 (by simpa using hne), ?_⟩
    exact (((((Keeps.alloc w _).weaken (T := [b]) (by simp)).trans H1.out.2.1 (by simp)).trans H2.out.2.1 (by simp)).trans (Keeps.alloc _ _) (by simp)).trans q2 (fun x hx hlt => by simp at hx; omega)
  · rw [if_neg hs] at ha
    have hd := not_word K hN
    rw [kWord, if_neg hs] at hx
    rw [hx] at hd
    have hxs : fS ≤ x := by unfold fS at *; omega
    rw [if_pos hxs] at ha2
    have ho := or_high2 x hxl hxs
    rw [show 18446744073709551615 - x = K by omega] at hn
    have HS := Lib.hid (And.intro hs (And.intro hx hxs))
    clear hs hx hxs
    by_cases hkx : ((K : Int) == (x : Int)) = true
    · skip
      go_enter Tryd.func45, Tryd.ntmps45
      go_wp2_with fail
      refine (HC.out _).mono ?_
      rintro e w1 ⟨rfl, hr, hk⟩
      have H1 := Lib.hid (And.intro hr (And.intro hk ((Row.new w 34 #[.int .i64 0, .int .i64 0, .float .f64 0, .string ⟨#[]⟩]).keep hk (by simp; exact Nat.ne_of_gt HB.out.lt))))
      clear hr hk
      go_wp2_with fail
      refine (HFL.out _).mono ?_
      rintro e w2 ⟨rfl, hk⟩
      have H2 := Lib.hid (And.intro (H1.out.1.keeps hk) (And.intro hk (H1.out.2.2.keeps hk)))
      clear hk
      have r3 := H2.out.2.2.alloc (.cells #[.int .i64 2, .int .i64 0, .float .f64 y, .string ⟨#[]⟩] 34)
      have c0 := r3.cell 0
      have c1 := r3.cell 1
      have c2 := r3.cell 2
      have c3 := r3.cell 3
      simp only [List.getElem?_toArray, List.getElem?_cons_zero, List.getElem?_cons_succ] at c0 c1 c2 c3
      have g0 := r3.frozen 0
      have g1 := r3.frozen 1
      have g2 := r3.frozen 2
      have g3 := r3.frozen 3
      go_wp2_with (first | (go_at_call 44; refine (HK.out _).mono ?_; rintro e w' ⟨rfl, rfl⟩) | (go_at_call 24; refine (kMust_yes _).mono ?_; rintro e w' ⟨rfl, rfl⟩))
      obtain ⟨q1, q2⟩ := part_put r3 (.int .i64 2) (.int .i64 0) (.float .f64 y) (.string ⟨#[]⟩)
      have hne : b ≠ w.heap.size := Nat.ne_of_lt HB.out.lt
      refine kRdF_door _ _ _ _ _ _ _ rfl q1 _ ⟨rfl, (H2.out.1.alloc _).keep q2 (by simpa using hne), ?_⟩
      exact (((((Keeps.alloc w _).weaken (T := [b]) (by simp)).trans H1.out.2.1 (by simp)).trans H2.out.2.1 (by simp)).trans (Keeps.alloc _ _) (by simp)).trans q2 (fun x hx hlt => by simp at hx; omega)
    · have hkx := eq_false_of_ne_true hkx
      go_enter Tryd.func45, Tryd.ntmps45
      go_wp2_with fail
      refine (HC.out _).mono ?_
      rintro e w1 ⟨rfl, hr, hk⟩
      have H1 := Lib.hid (And.intro hr (And.intro hk ((Row.new w 34 #[.int .i64 0, .int .i64 0, .float .f64 0, .string ⟨#[]⟩]).keep hk (by simp; exact Nat.ne_of_gt HB.out.lt))))
      clear hr hk
      go_wp2_with fail
      refine (HFL.out _).mono ?_
      rintro e w2 ⟨rfl, hk⟩
      have H2 := Lib.hid (And.intro (H1.out.1.keeps hk) (And.intro hk (H1.out.2.2.keeps hk)))
      clear hk
      have r3 := H2.out.2.2.alloc (.cells #[.int .i64 2, .int .i64 0, .float .f64 y, .string ⟨#[]⟩] 34)
      have c0 := r3.cell 0
      have c1 := r3.cell 1
      have c2 := r3.cell 2
      have c3 := r3.cell 3
      simp only [List.getElem?_toArray, List.getElem?_cons_zero, List.getElem?_cons_succ] at c0 c1 c2 c3
      have g0 := r3.frozen 0
      have g1 := r3.frozen 1
      have g2 := r3.frozen 2
      have g3 := r3.frozen 3
      go_wp2_with (first | (go_at_call 44; refine (HK.out _).mono ?_; rintro e w' ⟨rfl, rfl⟩) | (go_at_call 24; refine (kMust_yes _).mono ?_; rintro e w' ⟨rfl, rfl⟩))
      obtain ⟨q1, q2⟩ := part_put r3 (.int .i64 2) (.int .i64 0) (.float .f64 y) (.string ⟨#[]⟩)
      have hne : b ≠ w.heap.size := Nat.ne_of_lt HB.out.lt
      refine kRdF_door _ _ _ _ _ _ _ rfl q1 _ ⟨rfl, (H2.out.1.alloc _).keep q2 (by simpa using hne), ?_⟩
      exact (((((Keeps.alloc w _).weaken (T := [b]) (by simp)).trans H1.out.2.1 (by simp)).trans H2.out.2.1 (by simp)).trans (Keeps.alloc _ _) (by simp)).trans q2 (fun x hx hlt => by simp at hx; omega)

set_option maxRecDepth 100000 in
set_option maxHeartbeats 8000000 in
theorem kRdF_bad (w : World) (b : Nat) (l : List UInt8) (hb : Row w b 9 #[strV l]) (hl : 8 ≤ l.length) (hm : l.length ≤ 1000000) (hq : kOf (wholeW (kWord (beN (l.take 8)))) ≠ beN (l.take 8)) :
    Calls Tryd.prog 45 #[.pointer (some ⟨b, 0, none⟩)] w fun e w' => e = kStop ∧ Keeps w w' [b] := by
  have hsf := @run_store_float Tryd.prog
  have hfb := run_f64from
  have HC := Lib.hid (show ∀ o, Calls Tryd.prog 39 #[.pointer (some ⟨b, 0, none⟩)] (w.alloc o) fun e w' => e = .returned (.int .u64 (beN (l.take 8) : Nat)) ∧ Row w' b 9 #[strV (l.drop 8)] ∧ Keeps (w.alloc o) w' [b] from fun o => kTaken_any _ b l (hb.alloc o) hl hm)
  have HB := Lib.hid hb
  have hN := beN8_lt l
  generalize beN (l.take 8) = N at *
  clear hb
  have ha := and_high N hN
  obtain ⟨x, hx⟩ : ∃ x, kWord N = x := ⟨_, rfl⟩
  have hxl : x < 18446744073709551616 := hx ▸ kWord_lt N hN
  have ha2 := and_high x hxl
  have hn := not_word x hxl
  obtain ⟨y, hy⟩ : ∃ y, wholeW x = y := ⟨_, rfl⟩
  have HY := Lib.hid (show y < 18446744073709551616 from hy ▸ wholeW_lt x hxl)
  have HFL := Lib.hid (show ∀ W, Calls Tryd.prog 16 #[.float .f64 x] W fun e w' => e = .returned (.agg #[.int .i64 2, .int .i64 0, .float .f64 y, .string ⟨#[]⟩]) ∧ Keeps W w' [] from fun W => by rw [← hy]; exact kFloat_any x W)
  have HK := Lib.hid (kBits_any y HY.out)
  rw [hx, hy] at hq
  clear hy
  obtain ⟨K, hK⟩ : ∃ K, kOf y = K := ⟨_, rfl⟩
  rw [hK] at HK hq
  clear hK
  have hkn : ((K : Int) == (N : Int)) = false := by simp; omega
  have HQ := Lib.hid hq
  clear hq
  by_cases hs : fS ≤ N
  · rw [if_pos hs] at ha
    have hd := andNot_high N hN hs
    rw [kWord, if_pos hs] at hx
    rw [hx] at hd
    rw [if_neg (by unfold fS at *; omega)] at ha2
    have ho := or_high x (by unfold fS at *; omega)
    rw [show x + fS = N by omega] at ho
    have HS := Lib.hid (And.intro hs hx)
    clear hs hx
    obtain ⟨z, hz⟩ : ∃ z, 18446744073709551615 - x = z := ⟨_, rfl⟩
    rw [hz] at hn
    clear hz
    by_cases hkx : K = z
    · subst hkx
      go_enter Tryd.func45, Tryd.ntmps45
      go_wp2_with fail
      refine (HC.out _).mono ?_
      rintro e w1 ⟨rfl, hr, hk⟩
      have H1 := Lib.hid (And.intro hr (And.intro hk ((Row.new w 34 #[.int .i64 0, .int .i64 0, .float .f64 0, .string ⟨#[]⟩]).keep hk (by simp; exact Nat.ne_of_gt HB.out.lt))))
      clear hr hk
      go_wp2_with fail
      refine (HFL.out _).mono ?_
      rintro e w2 ⟨rfl, hk⟩
      have H2 := Lib.hid (And.intro (H1.out.1.keeps hk) (And.intro hk (H1.out.2.2.keeps hk)))
      clear hk
      have r3 := H2.out.2.2.alloc (.cells #[.int .i64 2, .int .i64 0, .float .f64 y, .string ⟨#[]⟩] 34)
      have c0 := r3.cell 0
      have c1 := r3.cell 1
      have c2 := r3.cell 2
      have c3 := r3.cell 3
      simp only [List.getElem?_toArray, List.getElem?_cons_zero, List.getElem?_cons_succ] at c0 c1 c2 c3
      have g0 := r3.frozen 0
      have g1 := r3.frozen 1
      have g2 := r3.frozen 2
      have g3 := r3.frozen 3
      go_wp2_with (first | (go_at_call 44; refine (HK.out _).mono ?_; rintro e w' ⟨rfl, rfl⟩) | (go_at_call 24; refine (kMust_no _).mono ?_; rintro e w' ⟨rfl, rfl⟩))
      all_goals first | exact absurd hn.symm (by assumption) | exact absurd (show (_ : Int) = _ by assumption) (fun (e : (K : Int) = bits BinOp.xor IntKind.u64 IntKind.u64.max (x : Int)) => by rw [hn] at e; simp [e] at hkx) | skip
      all_goals first | refine ⟨rfl, rfl, ?_⟩ | (rename_i chain heq; injection heq with heq; subst heq; refine ⟨rfl, rfl, ?_⟩)
      all_goals exact ((((Keeps.alloc w _).weaken (T := [b]) (by simp)).trans H1.out.2.1 (by simp)).trans H2.out.2.1 (by simp)).trans (Keeps.alloc _ _) (by simp)
    · have hkx : ((K : Int) == (z : Int)) = false := by simp; omega
      go_enter Tryd.func45, Tryd.ntmps45
      go_wp2_with fail
      refine (HC.out _).mono ?_
      rintro e w1 ⟨rfl, hr, hk⟩
      have H1 := Lib.hid (And.intro hr (And.intro hk ((Row.new w 34 #[.int .i64 0, .int .i64 0, .float .f64 0, .string ⟨#[]⟩]).keep hk (by simp; exact Nat.ne_of_gt HB.out.lt))))
      clear hr hk
      go_wp2_with fail
      refine (HFL.out _).mono ?_
      rintro e w2 ⟨rfl, hk⟩
      have H2 := Lib.hid (And.intro (H1.out.1.keeps hk) (And.intro hk (H1.out.2.2.keeps hk)))
      clear hk
      have r3 := H2.out.2.2.alloc (.cells #[.int .i64 2, .int .i64 0, .float .f64 y, .string ⟨#[]⟩] 34)
      have c0 := r3.cell 0
      have c1 := r3.cell 1
      have c2 := r3.cell 2
      have c3 := r3.cell 3
      simp only [List.getElem?_toArray, List.getElem?_cons_zero, List.getElem?_cons_succ] at c0 c1 c2 c3
      have g0 := r3.frozen 0
      have g1 := r3.frozen 1
      have g2 := r3.frozen 2
      have g3 := r3.frozen 3
      go_wp2_with (first | (go_at_call 44; refine (HK.out _).mono ?_; rintro e w' ⟨rfl, rfl⟩) | (go_at_call 24; refine (kMust_no _).mono ?_; rintro e w' ⟨rfl, rfl⟩))
      all_goals first | exact absurd hn.symm (by assumption) | exact absurd (show (_ : Int) = _ by assumption) (fun (e : (K : Int) = bits BinOp.xor IntKind.u64 IntKind.u64.max (x : Int)) => by rw [hn] at e; simp [e] at hkx) | skip
      all_goals first | refine ⟨rfl, rfl, ?_⟩ | (rename_i chain heq; injection heq with heq; subst heq; refine ⟨rfl, rfl, ?_⟩)
      all_goals exact ((((Keeps.alloc w _).weaken (T := [b]) (by simp)).trans H1.out.2.1 (by simp)).trans H2.out.2.1 (by simp)).trans (Keeps.alloc _ _) (by simp)
  · rw [if_neg hs] at ha
    have hd := not_word N hN
    rw [kWord, if_neg hs] at hx
    rw [hx] at hd
    have hxs : fS ≤ x := by unfold fS at *; omega
    rw [if_pos hxs] at ha2
    have ho := or_high2 x hxl hxs
    rw [show 18446744073709551615 - x = N by omega] at hn
    have HS := Lib.hid (And.intro hs (And.intro hx hxs))
    clear hs hx hxs
    by_cases hkx : ((K : Int) == (x : Int)) = true
    · skip
      go_enter Tryd.func45, Tryd.ntmps45
      go_wp2_with fail
      refine (HC.out _).mono ?_
      rintro e w1 ⟨rfl, hr, hk⟩
      have H1 := Lib.hid (And.intro hr (And.intro hk ((Row.new w 34 #[.int .i64 0, .int .i64 0, .float .f64 0, .string ⟨#[]⟩]).keep hk (by simp; exact Nat.ne_of_gt HB.out.lt))))
      clear hr hk
      go_wp2_with fail
      refine (HFL.out _).mono ?_
      rintro e w2 ⟨rfl, hk⟩
      have H2 := Lib.hid (And.intro (H1.out.1.keeps hk) (And.intro hk (H1.out.2.2.keeps hk)))
      clear hk
      have r3 := H2.out.2.2.alloc (.cells #[.int .i64 2, .int .i64 0, .float .f64 y, .string ⟨#[]⟩] 34)
      have c0 := r3.cell 0
      have c1 := r3.cell 1
      have c2 := r3.cell 2
      have c3 := r3.cell 3
      simp only [List.getElem?_toArray, List.getElem?_cons_zero, List.getElem?_cons_succ] at c0 c1 c2 c3
      have g0 := r3.frozen 0
      have g1 := r3.frozen 1
      have g2 := r3.frozen 2
      have g3 := r3.frozen 3
      go_wp2_with (first | (go_at_call 44; refine (HK.out _).mono ?_; rintro e w' ⟨rfl, rfl⟩) | (go_at_call 24; refine (kMust_no _).mono ?_; rintro e w' ⟨rfl, rfl⟩))
      all_goals first | exact absurd hn.symm (by assumption) | exact absurd (show (_ : Int) = _ by assumption) (fun (e : (K : Int) = bits BinOp.xor IntKind.u64 IntKind.u64.max (x : Int)) => by rw [hn] at e; simp [e] at hkx) | skip
      all_goals first | refine ⟨rfl, rfl, ?_⟩ | (rename_i chain heq; injection heq with heq; subst heq; refine ⟨rfl, rfl, ?_⟩)
      all_goals exact ((((Keeps.alloc w _).weaken (T := [b]) (by simp)).trans H1.out.2.1 (by simp)).trans H2.out.2.1 (by simp)).trans (Keeps.alloc _ _) (by simp)
    · have hkx := eq_false_of_ne_true hkx
      go_enter Tryd.func45, Tryd.ntmps45
      go_wp2_with fail
      refine (HC.out _).mono ?_
      rintro e w1 ⟨rfl, hr, hk⟩
      have H1 := Lib.hid (And.intro hr (And.intro hk ((Row.new w 34 #[.int .i64 0, .int .i64 0, .float .f64 0, .string ⟨#[]⟩]).keep hk (by simp; exact Nat.ne_of_gt HB.out.lt))))
      clear hr hk
      go_wp2_with fail
      refine (HFL.out _).mono ?_
      rintro e w2 ⟨rfl, hk⟩
      have H2 := Lib.hid (And.intro (H1.out.1.keeps hk) (And.intro hk (H1.out.2.2.keeps hk)))
      clear hk
      have r3 := H2.out.2.2.alloc (.cells #[.int .i64 2, .int .i64 0, .float .f64 y, .string ⟨#[]⟩] 34)
      have c0 := r3.cell 0
      have c1 := r3.cell 1
      have c2 := r3.cell 2
      have c3 := r3.cell 3
      simp only [List.getElem?_toArray, List.getElem?_cons_zero, List.getElem?_cons_succ] at c0 c1 c2 c3
      have g0 := r3.frozen 0
      have g1 := r3.frozen 1
      have g2 := r3.frozen 2
      have g3 := r3.frozen 3
      go_wp2_with (first | (go_at_call 44; refine (HK.out _).mono ?_; rintro e w' ⟨rfl, rfl⟩) | (go_at_call 24; refine (kMust_no _).mono ?_; rintro e w' ⟨rfl, rfl⟩))
      all_goals first | exact absurd hn.symm (by assumption) | exact absurd (show (_ : Int) = _ by assumption) (fun (e : (K : Int) = bits BinOp.xor IntKind.u64 IntKind.u64.max (x : Int)) => by rw [hn] at e; simp [e] at hkx) | skip
      all_goals first | refine ⟨rfl, rfl, ?_⟩ | (rename_i chain heq; injection heq with heq; subst heq; refine ⟨rfl, rfl, ?_⟩)
      all_goals exact ((((Keeps.alloc w _).weaken (T := [b]) (by simp)).trans H1.out.2.1 (by simp)).trans H2.out.2.1 (by simp)).trans (Keeps.alloc _ _) (by simp)
end Go.Proofs.YtckmlmedhchpaaaDoor
