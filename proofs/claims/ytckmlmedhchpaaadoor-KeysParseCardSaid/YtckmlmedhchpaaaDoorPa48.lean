/- Package pigeonryref18: read (under way). Package pigeonryref18: read, texts. -/
import Derived.Test.YtckmlmedhchpaaaDoorPa46
import Derived.Test.YtckmlmedhchpaaaDoorPa47

namespace Go.Proofs.YtckmlmedhchpaaaDoor
open Go.RowKit Ieee

set_option maxRecDepth 100000 in
set_option maxHeartbeats 4000000 in
theorem refRead_short (b : UInt8) (l : List UInt8) (hb : b = 1 ∨ b = 2) (hl : l.length < 8) (w : World) :
    Calls Tryd.prog 26 #[.string ⟨(b :: l).toArray⟩] w fun e w' => ∃ p, e = .returned (.tuple #[kpV p, .string ⟨#[]⟩, .bool false]) ∧ Keeps w w' [] := by
  have hsf := @run_store_float Tryd.prog
  have s1 : (⟨(b :: l).toArray⟩ : ByteArray).size = l.length + 1 := by simp [ByteArray.size]
  have ix : ∀ h, (⟨(b :: l).toArray⟩ : ByteArray)[0]'h = b := fun _ => rfl
  have hl2 : (l.length : Int) + 1 < 9 := by omega
  clear hl
  rcases hb with rfl | rfl
  · go_enter Tryd.func26, Tryd.ntmps26
    go_wp2_with fail
    refine bodyPost_ret (v := .tuple #[.agg #[.int .i64 1, .int .i64 0, .float .f64 0, .string ⟨#[]⟩], .string ⟨#[]⟩, .bool false]) (by simp [results, Tryd.results26, go_sem]) rfl ⟨⟨1, 0, 0, []⟩, rfl, ?_⟩
    exact (Keeps.alloc _ _).trans (Keeps.alloc _ _) (by simp)
  · go_enter Tryd.func26, Tryd.ntmps26
    go_wp2_with fail
    refine bodyPost_ret (v := .tuple #[.agg #[.int .i64 2, .int .i64 0, .float .f64 0, .string ⟨#[]⟩], .string ⟨#[]⟩, .bool false]) (by simp [results, Tryd.results26, go_sem]) rfl ⟨⟨2, 0, 0, []⟩, rfl, ?_⟩
    exact (Keeps.alloc _ _).trans (Keeps.alloc _ _) (by simp)
theorem beN_next (l : List UInt8) (j : Nat) (h : j < l.length) : beN (l.take (j + 1)) = beN (l.take j) * 256 + l[j].toNat := by
  rw [List.take_succ_eq_append_getElem h, beN_snoc]
def AtN (l : List UInt8) (k N : Nat) : Prop := 1 ≤ k ∧ k ≤ 9 ∧ N = beN (l.take (k - 1))
theorem rr_door (W : World) (t : Array Value) (b : Nat) (x0 x1 x2 x3 y1 y2 : Value) (h2 : t.getD 2 undef = .pointer (some ⟨b, 0, none⟩)) (h3 : t.getD 3 undef = y1) (h4 : t.getD 4 undef = y2)
    (r : Row W b 34 #[x0, x1, x2, x3]) (R : Ending → World → Prop) (hR : R (.returned (.tuple #[.agg #[x0, x1, x2, x3], y1, y2])) W) :
    bodyPost Tryd.prog Tryd.f26 R Exit.ret { tmps := t, defers := [] } W := by
  have c0 := r.cell 0
  have c1 := r.cell 1
  have c2 := r.cell 2
  have c3 := r.cell 3
  rw [Array.getD_eq_getD_getElem?] at h2 h3 h4
  simp at c0 c1 c2 c3
  refine bodyPost_ret (v := .tuple #[.agg #[x0, x1, x2, x3], y1, y2]) ?_ rfl hR
  simp [results, Tryd.results26, go_sem, h2, h3, h4, c0, c1, c2, c3]
/-- The two parts' cells at the end: one cell of the one is written, then the other one. -/
theorem rr_put {w W : World} {p0 p1 p2 p3 : Value} (h : Row W w.heap.size 34 #[p0, p1, p2, p3]) (hk : Keeps w W []) (i : Nat) (v q0 q1 q2 q3 : Value) :
    Row (((((W.setCell ⟨w.heap.size + 1, i, none⟩ v).setCell ⟨w.heap.size, 0, none⟩ q0).setCell ⟨w.heap.size, 1, none⟩ q1).setCell ⟨w.heap.size, 2, none⟩ q2).setCell ⟨w.heap.size, 3, none⟩ q3).drew w.heap.size 34 #[q0, q1, q2, q3] ∧
    Keeps w (((((W.setCell ⟨w.heap.size + 1, i, none⟩ v).setCell ⟨w.heap.size, 0, none⟩ q0).setCell ⟨w.heap.size, 1, none⟩ q1).setCell ⟨w.heap.size, 2, none⟩ q2).setCell ⟨w.heap.size, 3, none⟩ q3).drew [] := by
  obtain ⟨a, b⟩ := part_put (h.far (p := ⟨w.heap.size + 1, i, none⟩) (by simp) v) q0 q1 q2 q3
  exact ⟨a.drewN 1, ((hk.trans (Keeps.setCell _ _ _) (by simp)).trans b (by simp)).trans (Keeps.drew _) (by simp)⟩
set_option maxRecDepth 100000 in
set_option maxHeartbeats 4000000 in
theorem refRead_int (l : List UInt8) (hl : 8 ≤ l.length) (hm : l.length ≤ 1000000) (w : World) :
    Calls Tryd.prog 26 #[.string ⟨(1 :: l).toArray⟩] w fun e w' => e = .returned (.tuple #[kpV ⟨1, (beN (l.take 8) : Int) - 9223372036854775808, 0, []⟩, strV (l.drop 8), .bool true]) ∧ Keeps w w' [] := by
  unfold kpV strV
  have hsf := @run_store_float Tryd.prog
  have s1 : (⟨(1 :: l).toArray⟩ : ByteArray).size = l.length + 1 := by simp [ByteArray.size]
  have ix : ∀ h, (⟨(1 :: l).toArray⟩ : ByteArray)[0]'h = 1 := fun _ => rfl
  have hl2 : ¬ ((l.length : Int) + 1 < 9) := by omega
  go_enter Tryd.func26, Tryd.ntmps26
  go_wp2_with fail
  obtain ⟨W, hW⟩ : ∃ W, (w.alloc (.cells #[.int .i64 0, .int .i64 0, .float .f64 0, .string ⟨#[]⟩] 34)).alloc (.cells #[.int .i64 1, .int .i64 0, .float .f64 0, .string ⟨#[]⟩] 34) = W := ⟨_, rfl⟩
  rw [hW]
  have HW := Lib.hid hW
  clear hW
  go_loop [6, 7] (fun n i => ∃ k N : Nat, n = .int .u64 (N : Nat) ∧ i = .int .i64 (k : Nat) ∧ Hid (AtN l k N)) (fun _ i => 9 - (intOf i).toNat)
  case atStart => exact ⟨1, 0, rfl, rfl, ⟨by omega, by omega, rfl⟩⟩
  case round =>
    obtain ⟨k, N, rfl, rfl, H⟩ := hrel
    by_cases hk9 : k < 9
    · obtain ⟨j, rfl⟩ : ∃ j, k = j + 1 := ⟨k - 1, by have := H.out.1; omega⟩
      have hjl : j < l.length := by omega
      have HB := Lib.hid (beN_next l j hjl)
      obtain ⟨c, hc⟩ : ∃ c, l[j] = c := ⟨_, rfl⟩
      have ix2 : ∀ h, (⟨(1 :: l).toArray⟩ : ByteArray)[j + 1]'h = c := fun h => by
        rw [← hc]
        show ((1 :: l).toArray)[j + 1] = _
        simp
      rw [hc] at HB
      have hlt : N < 72057594037927936 := by rw [H.out.2.2]; exact beN_take_lt l j (by omega)
      clear hc
      have wc : IntKind.u64.wrap (c.toNat : Int) = (c.toNat : Int) := wrap_byte c
      have hcb := c.toNat_lt
      go_wp2
      refine ⟨⟨j + 1 + 1, N * 256 + c.toNat, ?_, by go_num, ⟨by omega, by omega, ?_⟩⟩, by simp [intOf]; omega⟩
      · exact congrArg (Value.int .u64) (by omega)
      · show N * 256 + c.toNat = beN (l.take (j + 1))
        rw [HB.out, H.out.2.2]; rfl
    · obtain rfl : k = 9 := by have := H.out.2.1; omega
      have HN : N = beN (l.take 8) := H.out.2.2
      have hb8 := beN8_lt l
      subst HN
      obtain ⟨N, hN⟩ : ∃ N, beN (l.take 8) = N := ⟨_, rfl⟩
      rw [hN] at hb8 ⊢
      obtain ⟨hr5, hr2, hkp⟩ : Row W (w.heap.size + 1) 34 #[.int .i64 1, .int .i64 0, .float .f64 0, .string ⟨#[]⟩] ∧ Row W w.heap.size 34 #[.int .i64 0, .int .i64 0, .float .f64 0, .string ⟨#[]⟩] ∧ Keeps w W [] := by
        rw [← HW.out]
        exact ⟨by have := Row.new (w.alloc (.cells #[.int .i64 0, .int .i64 0, .float .f64 0, .string ⟨#[]⟩] 34)) 34 #[.int .i64 1, .int .i64 0, .float .f64 0, .string ⟨#[]⟩]; simpa using this, (Row.new w _ _).alloc _, (Keeps.alloc _ _).trans (Keeps.alloc _ _) (by simp)⟩
      have HR := Lib.hid (And.intro hr5 (And.intro hr2 hkp))
      have HE := Lib.hid (show (⟨(1 :: l).toArray⟩ : ByteArray).extract 9 (l.length + 1) = ⟨(l.drop 8).toArray⟩ from str_drop (1 :: l) 9)
      have HN := Lib.hid hN
      clear hr5 hr2 hkp H hN
      have hx := xor_down N hb8
      have c0 := HR.out.1.cell 0
      have c1 := HR.out.1.cell 1
      have c2 := HR.out.1.cell 2
      have c3 := HR.out.1.cell 3
      simp only [List.getElem?_toArray, List.getElem?_cons_zero, List.getElem?_cons_succ] at c0 c1 c2 c3
      have g0 := HR.out.1.frozen 0
      have g1 := HR.out.1.frozen 1
      have g2 := HR.out.1.frozen 2
      have g3 := HR.out.1.frozen 3
      have d0 := HR.out.2.1.cell 0
      have d1 := HR.out.2.1.cell 1
      have d2 := HR.out.2.1.cell 2
      have d3 := HR.out.2.1.cell 3
      simp only [List.getElem?_toArray, List.getElem?_cons_zero, List.getElem?_cons_succ] at d0 d1 d2 d3
      have h0 := HR.out.2.1.frozen 0
      have h1 := HR.out.2.1.frozen 1
      have h2 := HR.out.2.1.frozen 2
      have h3 := HR.out.2.1.frozen 3
      go_wp2_with fail
      go_region
      go_wp2_with fail
      obtain ⟨e1, e2⟩ := rr_put HR.out.2.1 HR.out.2.2 1 (.int .i64 ((N : Int) - 9223372036854775808)) (.int .i64 1) (.int .i64 ((N : Int) - 9223372036854775808)) (.float .f64 0) (.string ⟨#[]⟩)
      refine rr_door _ _ _ _ _ _ _ _ _ rfl rfl rfl e1 _ ⟨?_, e2⟩
      rw [HN.out]
      exact congrArg (fun z => Ending.returned (.tuple #[.agg #[.int .i64 1, .int .i64 ((N : Int) - 9223372036854775808), .float .f64 0, .string ⟨#[]⟩], .string z, .bool true])) HE.out
/-- A number that was read: the word itself, or any that is no number. -/
def FW (N : Nat) (l : List UInt8) (w : World) (e : Ending) (w' : World) : Prop := ∃ y, e = .returned (.tuple #[kpV ⟨2, 0, y, []⟩, strV (l.drop 8), .bool true]) ∧ Keeps w w' [] ∧ y < 18446744073709551616 ∧ (kWord N % fS ≤ fInf → y = kWord N) ∧ (fInf < kWord N % fS → fInf < y % fS)
set_option maxRecDepth 100000 in
set_option maxHeartbeats 4000000 in
theorem refRead_float (l : List UInt8) (hl : 8 ≤ l.length) (hm : l.length ≤ 1000000) (w : World) :
    Calls Tryd.prog 26 #[.string ⟨(2 :: l).toArray⟩] w (FW (beN (l.take 8)) l w) := by
  have hsf := @run_store_float Tryd.prog
  have s1 : (⟨(2 :: l).toArray⟩ : ByteArray).size = l.length + 1 := by simp [ByteArray.size]
  have ix : ∀ h, (⟨(2 :: l).toArray⟩ : ByteArray)[0]'h = 2 := fun _ => rfl
  have hl2 : ¬ ((l.length : Int) + 1 < 9) := by omega
  go_enter Tryd.func26, Tryd.ntmps26
  go_wp2_with fail
  obtain ⟨W, hW⟩ : ∃ W, (w.alloc (.cells #[.int .i64 0, .int .i64 0, .float .f64 0, .string ⟨#[]⟩] 34)).alloc (.cells #[.int .i64 2, .int .i64 0, .float .f64 0, .string ⟨#[]⟩] 34) = W := ⟨_, rfl⟩
  rw [hW]
  have HW := Lib.hid hW
  clear hW
  go_loop [6, 7] (fun n i => ∃ k N : Nat, n = .int .u64 (N : Nat) ∧ i = .int .i64 (k : Nat) ∧ Hid (AtN l k N)) (fun _ i => 9 - (intOf i).toNat)
  case atStart => exact ⟨1, 0, rfl, rfl, ⟨by omega, by omega, rfl⟩⟩
  case round =>
    obtain ⟨k, N, rfl, rfl, H⟩ := hrel
    by_cases hk9 : k < 9
    · obtain ⟨j, rfl⟩ : ∃ j, k = j + 1 := ⟨k - 1, by have := H.out.1; omega⟩
      have hjl : j < l.length := by omega
      have HB := Lib.hid (beN_next l j hjl)
      obtain ⟨c, hc⟩ : ∃ c, l[j] = c := ⟨_, rfl⟩
      have ix2 : ∀ h, (⟨(2 :: l).toArray⟩ : ByteArray)[j + 1]'h = c := fun h => by
        rw [← hc]
        show ((2 :: l).toArray)[j + 1] = _
        simp
      rw [hc] at HB
      have hlt : N < 72057594037927936 := by rw [H.out.2.2]; exact beN_take_lt l j (by omega)
      clear hc
      have wc : IntKind.u64.wrap (c.toNat : Int) = (c.toNat : Int) := wrap_byte c
      have hcb := c.toNat_lt
      go_wp2
      refine ⟨⟨j + 1 + 1, N * 256 + c.toNat, ?_, by go_num, ⟨by omega, by omega, ?_⟩⟩, by simp [intOf]; omega⟩
      · exact congrArg (Value.int .u64) (by omega)
      · show N * 256 + c.toNat = beN (l.take (j + 1))
        rw [HB.out, H.out.2.2]; rfl
    · obtain rfl : k = 9 := by have := H.out.2.1; omega
      have HN : N = beN (l.take 8) := H.out.2.2
      have hb8 := beN8_lt l
      subst HN
      obtain ⟨N, hN⟩ : ∃ N, beN (l.take 8) = N := ⟨_, rfl⟩
      rw [hN] at hb8 ⊢
      obtain ⟨hr5, hr2, hkp⟩ : Row W (w.heap.size + 1) 34 #[.int .i64 2, .int .i64 0, .float .f64 0, .string ⟨#[]⟩] ∧ Row W w.heap.size 34 #[.int .i64 0, .int .i64 0, .float .f64 0, .string ⟨#[]⟩] ∧ Keeps w W [] := by
        rw [← HW.out]
        exact ⟨by have := Row.new (w.alloc (.cells #[.int .i64 0, .int .i64 0, .float .f64 0, .string ⟨#[]⟩] 34)) 34 #[.int .i64 2, .int .i64 0, .float .f64 0, .string ⟨#[]⟩]; simpa using this, (Row.new w _ _).alloc _, (Keeps.alloc _ _).trans (Keeps.alloc _ _) (by simp)⟩
      have HR := Lib.hid (And.intro hr5 (And.intro hr2 hkp))
      have HE := Lib.hid (show (⟨(2 :: l).toArray⟩ : ByteArray).extract 9 (l.length + 1) = ⟨(l.drop 8).toArray⟩ from str_drop (2 :: l) 9)
      have HN := Lib.hid hN
      clear hr5 hr2 hkp H hN
      obtain ⟨x, hx⟩ : ∃ x, kWord N = x := ⟨_, rfl⟩
      have hxb : x < 18446744073709551616 := by rw [← hx]; unfold kWord fS; split <;> omega
      have HF := Lib.hid (fun W => refFloat_any x hxb W)
      have HX := Lib.hid hx
      have hbI : (N : Int) < 18446744073709551616 := by omega
      have hd : (if (9223372036854775808 : Int) ≤ (N : Int) then (N : Int) - 9223372036854775808 else 18446744073709551615 - (N : Int)) = (x : Int) := by rw [← hx]; unfold kWord fS; split <;> split <;> omega
      clear hx hb8 hxb
      have HW2 := Lib.hid (show kWord (beN (l.take 8)) = x by rw [HN.out, HX.out])
      by_cases hN63 : (9223372036854775808 : Int) ≤ (N : Int)
      · rw [if_pos hN63] at hd
        go_wp2_with fail
        refine (HF.out _).mono ?_
        rintro e w1 ⟨y, rfl, hk, hy⟩
        have H1 := Lib.hid (And.intro (HR.out.1.keeps hk) (And.intro (HR.out.2.1.keeps hk) (HR.out.2.2.trans hk (by simp))))
        have HY := Lib.hid hy
        clear hk hy hd hN63 hbI
        have c0 := H1.out.1.cell 0
        have c1 := H1.out.1.cell 1
        have c2 := H1.out.1.cell 2
        have c3 := H1.out.1.cell 3
        simp only [List.getElem?_toArray, List.getElem?_cons_zero, List.getElem?_cons_succ] at c0 c1 c2 c3
        have g0 := H1.out.1.frozen 0
        have g1 := H1.out.1.frozen 1
        have g2 := H1.out.1.frozen 2
        have g3 := H1.out.1.frozen 3
        have d0 := H1.out.2.1.cell 0
        have d1 := H1.out.2.1.cell 1
        have d2 := H1.out.2.1.cell 2
        have d3 := H1.out.2.1.cell 3
        simp only [List.getElem?_toArray, List.getElem?_cons_zero, List.getElem?_cons_succ] at d0 d1 d2 d3
        have h0 := H1.out.2.1.frozen 0
        have h1 := H1.out.2.1.frozen 1
        have h2 := H1.out.2.1.frozen 2
        have h3 := H1.out.2.1.frozen 3
        go_wp2_with fail
        go_region
        go_wp2_with fail
        obtain ⟨e1, e2⟩ := rr_put H1.out.2.1 H1.out.2.2 2 (.float .f64 y) (.int .i64 2) (.int .i64 0) (.float .f64 y) (.string ⟨#[]⟩)
        refine rr_door _ _ _ _ _ _ _ _ _ rfl rfl rfl e1 _ ⟨y, ?_, e2, ?_⟩
        · exact congrArg (fun z => Ending.returned (.tuple #[.agg #[.int .i64 2, .int .i64 0, .float .f64 y, .string ⟨#[]⟩], .string z, .bool true])) HE.out
        · rw [HW2.out]; exact HY.out
      · rw [if_neg hN63] at hd
        go_wp2_with fail
        refine (HF.out _).mono ?_
        rintro e w1 ⟨y, rfl, hk, hy⟩
        have H1 := Lib.hid (And.intro (HR.out.1.keeps hk) (And.intro (HR.out.2.1.keeps hk) (HR.out.2.2.trans hk (by simp))))
        have HY := Lib.hid hy
        clear hk hy hd hN63 hbI
        have c0 := H1.out.1.cell 0
        have c1 := H1.out.1.cell 1
        have c2 := H1.out.1.cell 2
        have c3 := H1.out.1.cell 3
        simp only [List.getElem?_toArray, List.getElem?_cons_zero, List.getElem?_cons_succ] at c0 c1 c2 c3
        have g0 := H1.out.1.frozen 0
        have g1 := H1.out.1.frozen 1
        have g2 := H1.out.1.frozen 2
        have g3 := H1.out.1.frozen 3
        have d0 := H1.out.2.1.cell 0
        have d1 := H1.out.2.1.cell 1
        have d2 := H1.out.2.1.cell 2
        have d3 := H1.out.2.1.cell 3
        simp only [List.getElem?_toArray, List.getElem?_cons_zero, List.getElem?_cons_succ] at d0 d1 d2 d3
        have h0 := H1.out.2.1.frozen 0
        have h1 := H1.out.2.1.frozen 1
        have h2 := H1.out.2.1.frozen 2
        have h3 := H1.out.2.1.frozen 3
        go_wp2_with fail
        go_region
        go_wp2_with fail
        obtain ⟨e1, e2⟩ := rr_put H1.out.2.1 H1.out.2.2 2 (.float .f64 y) (.int .i64 2) (.int .i64 0) (.float .f64 y) (.string ⟨#[]⟩)
        refine rr_door _ _ _ _ _ _ _ _ _ rfl rfl rfl e1 _ ⟨y, ?_, e2, ?_⟩
        · exact congrArg (fun z => Ending.returned (.tuple #[.agg #[.int .i64 2, .int .i64 0, .float .f64 y, .string ⟨#[]⟩], .string z, .bool true])) HE.out
        · rw [HW2.out]; exact HY.out
end Go.Proofs.YtckmlmedhchpaaaDoor

namespace Go.Proofs.YtckmlmedhchpaaaDoor
open Go.RowKit Ieee

/-- What has been read of a text. -/
structure RT (w : World) (b : UInt8) (l : List UInt8) (k : Nat) (acc : List UInt8) (wr : World) : Prop where
  k1 : 1 ≤ k
  k2 : k ≤ l.length + 1
  n : acc.length + 1 ≤ k
  r5 : Row wr (w.heap.size + 1) 34 #[.int .i64 (b.toNat : Int), .int .i64 0, .float .f64 0, .string ⟨acc.toArray⟩]
  r2 : Row wr w.heap.size 34 #[.int .i64 0, .int .i64 0, .float .f64 0, .string ⟨#[]⟩]
  h : Keeps w wr []
  u : rUnesc l = (rUnesc (l.drop (k - 1))).map fun (s, t) => (acc ++ s, t)
/-- What reading a text answers. -/
def RTx (w : World) (b : UInt8) (l : List UInt8) (e : Ending) (w' : World) : Prop := Keeps w w' [] ∧ match rUnesc l with
  | none => ∃ p, e = .returned (.tuple #[kpV p, .string ⟨#[]⟩, .bool false])
  | some (s, t) => e = .returned (.tuple #[kpV ⟨b.toNat, 0, 0, s⟩, strV t, .bool true])
theorem drop_two {α : Type} (l : List α) (j : Nat) (h : j + 1 < l.length) : l.drop j = l[j] :: l[j + 1] :: l.drop (j + 2) := by
  rw [List.drop_eq_getElem_cons (by omega), List.drop_eq_getElem_cons h]
set_option maxRecDepth 100000 in
set_option maxHeartbeats 8000000 in
theorem refRead_text (b : UInt8) (l : List UInt8) (h1 : b ≠ 1) (h2 : b ≠ 2) (hm : l.length ≤ 1000000) (w : World) :
    Calls Tryd.prog 26 #[.string ⟨(b :: l).toArray⟩] w (RTx w b l) := by
  have hsf := @run_store_float Tryd.prog
  have s1 : (⟨(b :: l).toArray⟩ : ByteArray).size = l.length + 1 := by simp [ByteArray.size]
  have ix : ∀ h, (⟨(b :: l).toArray⟩ : ByteArray)[0]'h = b := fun _ => rfl
  have hb := b.toNat_lt
  have b1 : ((b.toNat : Int) == 1) = false := by rw [beq_eq_false_iff_ne]; exact fun h => h1 (UInt8.toNat_inj.1 (show b.toNat = 1 by omega))
  have b2 : ((b.toNat : Int) == 2) = false := by rw [beq_eq_false_iff_ne]; exact fun h => h2 (UInt8.toNat_inj.1 (show b.toNat = 2 by omega))
  clear h1 h2
  go_enter Tryd.func26, Tryd.ntmps26
  go_wp2_with fail
  go_loopw [8] (fun i wr => ∃ (k : Nat) (acc : List UInt8), i = .int .i64 (k : Nat) ∧ Hid (RT w b l k acc wr)) (fun i _ => l.length + 2 - (intOf i).toNat)
  case atStart =>
    refine ⟨1, [], rfl, ⟨by omega, by omega, by simp, ?_, ?_, ?_, ?_⟩⟩
    · have := Row.new (w.alloc (.cells #[.int .i64 0, .int .i64 0, .float .f64 0, .string ⟨#[]⟩] 34)) 34 #[.int .i64 (b.toNat : Int), .int .i64 0, .float .f64 0, .string ⟨#[]⟩]
      simpa using this
    · exact (Row.new w _ _).alloc _
    · exact (Keeps.alloc _ _).trans (Keeps.alloc _ _) (by simp)
    · simp
  case round =>
    obtain ⟨k, acc, rfl, H⟩ := hrel
    have c0 := H.out.r5.cell 0
    have c1 := H.out.r5.cell 1
    have c2 := H.out.r5.cell 2
    have c3 := H.out.r5.cell 3
    simp only [List.getElem?_toArray, List.getElem?_cons_zero, List.getElem?_cons_succ] at c0 c1 c2 c3
    have g0 := H.out.r5.frozen 0
    have g1 := H.out.r5.frozen 1
    have g2 := H.out.r5.frozen 2
    have g3 := H.out.r5.frozen 3
    have d0 := H.out.r2.cell 0
    have d1 := H.out.r2.cell 1
    have d2 := H.out.r2.cell 2
    have d3 := H.out.r2.cell 3
    simp only [List.getElem?_toArray, List.getElem?_cons_zero, List.getElem?_cons_succ] at d0 d1 d2 d3
    have f0 := H.out.r2.frozen 0
    have f1 := H.out.r2.frozen 1
    have f2 := H.out.r2.frozen 2
    have f3 := H.out.r2.frozen 3
    by_cases hkl : k < l.length
    · obtain ⟨j, rfl⟩ : ∃ j, k = j + 1 := ⟨k - 1, by have := H.out.k1; omega⟩
      have HD := Lib.hid (drop_two l j hkl)
      obtain ⟨x, hx⟩ : ∃ x, l[j] = x := ⟨_, rfl⟩
      obtain ⟨y, hy⟩ : ∃ y, l[j + 1] = y := ⟨_, rfl⟩
      have ix2 : ∀ h, (⟨(b :: l).toArray⟩ : ByteArray)[j + 1]'h = x := fun h => by
        rw [← hx]
        show ((b :: l).toArray)[j + 1] = _
        simp
      have ix3 : ∀ h, (⟨(b :: l).toArray⟩ : ByteArray)[j + 1 + 1]'h = y := fun h => by
        rw [← hy]
        show ((b :: l).toArray)[j + 1 + 1] = _
        simp
      rw [hx, hy] at HD
      have ex : (⟨(b :: l).toArray⟩ : ByteArray).extract (j + 1) (j + 1 + 1) = ⟨#[x]⟩ := by
        apply ByteArray.ext
        rw [← hx]
        have hd : List.take 1 (List.drop j l) = [l[j]] := by rw [List.drop_eq_getElem_cons (by omega)]; rfl
        simp [hd]
      have hal : (⟨acc.toArray⟩ : ByteArray).size = acc.length := by simp [ByteArray.size]
      have han : acc.length < 1000001 := by have := H.out.n; omega
      have s3 : (⟨#[x]⟩ : ByteArray).size = 1 := rfl
      have hxb := x.toNat_lt
      have hyb := y.toNat_lt
      clear hx hy
      by_cases hx0 : x = 0
      · subst hx0
        have bz : (((0 : UInt8).toNat : Int) == 0) = true := rfl
        by_cases hy1 : y = 1
        · subst hy1
          have by1 : (((1 : UInt8).toNat : Int) == 1) = true := rfl
          go_wp2_with fail
          go_region
          go_wp2_with fail
          obtain ⟨e1, e2⟩ := part_put H.out.r2 (.int .i64 (b.toNat : Int)) (.int .i64 0) (.float .f64 0) (.string ⟨acc.toArray⟩)
          refine rr_door _ _ _ _ _ _ _ _ _ rfl rfl rfl (e1.drewN 1) _ ⟨(H.out.h.trans e2 (by simp)).trans (Keeps.drew _) (by simp), ?_⟩
          have hu := H.out.u
          rw [show j + 1 - 1 = j from rfl, HD.out, rUnesc, if_pos rfl, if_pos rfl] at hu
          rw [hu]
          show _ = Ending.returned (.tuple #[kpV ⟨b.toNat, 0, 0, acc ++ []⟩, strV (l.drop (j + 2)), .bool true])
          rw [List.append_nil]
          exact congrArg (fun z => Ending.returned (.tuple #[.agg #[.int .i64 (b.toNat : Int), .int .i64 0, .float .f64 0, .string ⟨acc.toArray⟩], .string z, .bool true])) (str_drop (b :: l) (j + 3))
        · have by1 : ((y.toNat : Int) == 1) = false := by rw [beq_eq_false_iff_ne]; exact fun h => hy1 (UInt8.toNat_inj.1 (show y.toNat = 1 by omega))
          have e0 := Lib.hid (bytes_append acc [0])
          have s0 : (⟨#[0]⟩ : ByteArray).size = 1 := rfl
          go_wp2_with fail
          refine ⟨⟨j + 1 + 1 + 1, acc ++ [0], by go_num, ?_⟩, by simp [intOf]; omega⟩
          rw [e0.out]
          have hn := H.out.n
          refine ⟨by omega, by omega, by simp; omega, H.out.r5.store 3 _, H.out.r2.far (by simp) _, H.out.h.trans (Keeps.setCell _ _ _) (by simp), ?_⟩
          rw [H.out.u, show j + 1 - 1 = j from rfl, HD.out, rUnesc, if_pos rfl, if_neg hy1]
          show Option.map _ (Option.map _ (rUnesc (l.drop (j + 2)))) = Option.map _ (rUnesc (l.drop (j + 2)))
          cases rUnesc (l.drop (j + 2)) <;> simp
      · have bz : ((x.toNat : Int) == 0) = false := by rw [beq_eq_false_iff_ne]; exact fun h => hx0 (UInt8.toNat_inj.1 (show x.toNat = 0 by omega))
        go_wp2_with fail
        have e0 := Lib.hid (bytes_append acc [x])
        go_region
        go_wp2_with fail
        refine ⟨⟨j + 1 + 1, acc ++ [x], by go_num, ?_⟩, by simp [intOf]; omega⟩
        rw [e0.out]
        have hn := H.out.n
        refine ⟨by omega, by omega, by simp; omega, (H.out.r5.store 3 _).drewN 1, (H.out.r2.far (by simp) _).drewN 1, (H.out.h.trans (Keeps.setCell _ _ _) (by simp)).trans (Keeps.drew _) (by simp), ?_⟩
        rw [H.out.u, show j + 1 - 1 = j from rfl, HD.out, rUnesc_byte _ hx0, show j + 1 + 1 - 1 = j + 1 from rfl]
        have hd1 : l.drop (j + 1) = y :: l.drop (j + 2) := by have := congrArg List.tail HD.out; simpa using this
        rw [hd1]
        cases rUnesc (y :: l.drop (j + 2)) <;> simp
    · have hkb : k < 1000003 := by have := H.out.k2; omega
      have hge : (l.length : Int) ≤ (k : Int) := by omega
      go_wp2_with fail
      obtain ⟨e1, e2⟩ := part_put H.out.r2 (.int .i64 (b.toNat : Int)) (.int .i64 0) (.float .f64 0) (.string ⟨acc.toArray⟩)
      refine rr_door _ _ _ _ _ _ _ _ _ rfl rfl rfl e1 _ ⟨H.out.h.trans e2 (by simp), ?_⟩
      have hu := H.out.u
      have hz : rUnesc (l.drop (k - 1)) = none := by
        have hl : (l.drop (k - 1)).length ≤ 1 := by rw [List.length_drop]; omega
        rcases hd : l.drop (k - 1) with _ | ⟨x, _ | ⟨y, r⟩⟩
        · rfl
        · rfl
        · rw [hd] at hl; simp at hl
      rw [hz] at hu
      rw [hu]
      exact ⟨⟨b.toNat, 0, 0, acc⟩, rfl⟩
/-- What reading a part answers. -/
def RRd (w : World) (b : UInt8) (l : List UInt8) (e : Ending) (w' : World) : Prop := Keeps w w' [] ∧
  ((∃ p t, RdAs b l t p ∧ e = .returned (.tuple #[kpV p, strV t, .bool true])) ∨ (rRd b l = none ∧ ∃ p, e = .returned (.tuple #[kpV p, .string ⟨#[]⟩, .bool false])))
theorem kOf_nan {x : Nat} (h : fInf < x % fS) : kOf x = 18444492273895866368 := kOrd_nan h
theorem refRead_any (b : UInt8) (l : List UInt8) (hm : l.length ≤ 1000000) (w : World) :
    Calls Tryd.prog 26 #[.string ⟨(b :: l).toArray⟩] w (RRd w b l) := by
  have hb8 := beN8_lt l
  by_cases h1 : b = 1
  · subst h1
    rcases Nat.lt_or_ge l.length 8 with h8 | h8
    · refine (refRead_short 1 l (.inl rfl) h8 w).mono fun e w' ⟨p, he, hk⟩ => ⟨hk, .inr ⟨?_, p, he⟩⟩
      unfold rRd
      rw [if_pos rfl, if_neg (by omega)]
    · refine (refRead_int l h8 hm w).mono fun e w' ⟨he, hk⟩ => ⟨hk, .inl ⟨_, _, ⟨⟨1, (beN (l.take 8) : Int) - 9223372036854775808, 0, []⟩, ?_, ⟨rfl, rfl, rfl, rfl, .inr rfl⟩, ?_⟩, he⟩⟩
      · unfold rRd
        rw [if_pos rfl, if_pos h8]
      · constructor <;> (dsimp only; omega)
  · by_cases h2 : b = 2
    · subst h2
      rcases Nat.lt_or_ge l.length 8 with h8 | h8
      · refine (refRead_short 2 l (.inr rfl) h8 w).mono fun e w' ⟨p, he, hk⟩ => ⟨hk, .inr ⟨?_, p, he⟩⟩
        unfold rRd
        rw [if_neg (by decide), if_pos rfl, if_neg (by omega)]
      · refine (refRead_float l h8 hm w).mono fun e w' ⟨y, he, hk, hy, g1, g2⟩ => ⟨hk, .inl ⟨⟨2, 0, y, []⟩, _, ⟨⟨2, 0, kWord (beN (l.take 8)), []⟩, ?_, ⟨rfl, rfl, rfl, ?_, .inl rfl⟩, ?_⟩, he⟩⟩
        · unfold rRd
          rw [if_neg (by decide), if_pos rfl, if_pos h8]
        · show kOf y = kOf (kWord (beN (l.take 8)))
          rcases Nat.lt_or_ge fInf (kWord (beN (l.take 8)) % fS) with h | h
          · rw [kOf_nan h, kOf_nan (g2 h)]
          · rw [g1 h]
        · constructor <;> (dsimp only; omega)
    · refine (refRead_text b l h1 h2 hm w).mono fun e w' ⟨hk, h⟩ => ⟨hk, ?_⟩
      have hr : rRd b l = (rUnesc l).map fun (s, t) => (⟨b.toNat, 0, 0, s⟩, t) := by
        unfold rRd
        rw [if_neg h1, if_neg h2]
      cases hu : rUnesc l with
      | none =>
        rw [hu] at h hr
        exact .inr ⟨hr, h⟩
      | some x =>
        obtain ⟨s, t⟩ := x
        rw [hu] at h hr
        have hb := b.toNat_lt
        refine .inl ⟨_, _, ⟨_, hr, ⟨rfl, rfl, rfl, rfl, .inr rfl⟩, ?_⟩, h⟩
        constructor <;> (dsimp only; omega)
end Go.Proofs.YtckmlmedhchpaaaDoor
