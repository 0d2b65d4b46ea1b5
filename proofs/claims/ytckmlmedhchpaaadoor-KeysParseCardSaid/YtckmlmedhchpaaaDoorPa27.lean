/- Package keys: how parts stand: the library's Compare; what a kind has. -/
import Derived.Test.YtckmlmedhchpaaaDoorPa21

namespace Go.Proofs.YtckmlmedhchpaaaDoor
open Go.RowKit

/-- How two stand. -/
def cmpI (a b : Int) : Int := if a < b then -1 else if b < a then 1 else 0
set_option maxRecDepth 100000 in
set_option maxHeartbeats 1000000 in
theorem cmpKind_any (a b : Int) (w : World) : Calls Tryd.prog 34 #[.int .i64 a, .int .i64 b] w fun e w' => e = .returned (.int .i64 (cmpI a b)) ∧ w = w' := by
  have ha : ((a : Int) != a) = false := by simp
  have hb : ((b : Int) != b) = false := by simp
  unfold cmpI
  by_cases h1 : a < b
  · rw [if_pos h1]
    go_enter Tryd.func34, Tryd.ntmps34
    go_wp2
    go_ret
    exact ⟨rfl, rfl⟩
  · by_cases h2 : b < a
    · rw [if_neg h1, if_pos h2]
      go_enter Tryd.func34, Tryd.ntmps34
      go_wp2
      go_ret
      exact ⟨rfl, rfl⟩
    · rw [if_neg h1, if_neg h2]
      go_enter Tryd.func34, Tryd.ntmps34
      go_wp2
      go_ret
      exact ⟨rfl, rfl⟩
set_option maxRecDepth 100000 in
set_option maxHeartbeats 1000000 in
theorem cmpI64_any (a b : Int) (w : World) : Calls Tryd.prog 41 #[.int .i64 a, .int .i64 b] w fun e w' => e = .returned (.int .i64 (cmpI a b)) ∧ w = w' := by
  have ha : ((a : Int) != a) = false := by simp
  have hb : ((b : Int) != b) = false := by simp
  unfold cmpI
  by_cases h1 : a < b
  · rw [if_pos h1]
    go_enter Tryd.func41, Tryd.ntmps41
    go_wp2
    go_ret
    exact ⟨rfl, rfl⟩
  · by_cases h2 : b < a
    · rw [if_neg h1, if_pos h2]
      go_enter Tryd.func41, Tryd.ntmps41
      go_wp2
      go_ret
      exact ⟨rfl, rfl⟩
    · rw [if_neg h1, if_neg h2]
      go_enter Tryd.func41, Tryd.ntmps41
      go_wp2
      go_ret
      exact ⟨rfl, rfl⟩
set_option maxRecDepth 100000 in
set_option maxHeartbeats 1000000 in
theorem cmpU64_any (a b : Int) (w : World) : Calls Tryd.prog 48 #[.int .u64 a, .int .u64 b] w fun e w' => e = .returned (.int .i64 (cmpI a b)) ∧ w = w' := by
  have ha : ((a : Int) != a) = false := by simp
  have hb : ((b : Int) != b) = false := by simp
  unfold cmpI
  by_cases h1 : a < b
  · rw [if_pos h1]
    go_enter Tryd.func48, Tryd.ntmps48
    go_wp2
    go_ret
    exact ⟨rfl, rfl⟩
  · by_cases h2 : b < a
    · rw [if_neg h1, if_pos h2]
      go_enter Tryd.func48, Tryd.ntmps48
      go_wp2
      go_ret
      exact ⟨rfl, rfl⟩
    · rw [if_neg h1, if_neg h2]
      go_enter Tryd.func48, Tryd.ntmps48
      go_wp2
      go_ret
      exact ⟨rfl, rfl⟩
set_option maxRecDepth 100000 in
set_option maxHeartbeats 1000000 in
theorem cmpInt_any (a b : Int) (w : World) : Calls Tryd.prog 58 #[.int .i64 a, .int .i64 b] w fun e w' => e = .returned (.int .i64 (cmpI a b)) ∧ w = w' := by
  have ha : ((a : Int) != a) = false := by simp
  have hb : ((b : Int) != b) = false := by simp
  unfold cmpI
  by_cases h1 : a < b
  · rw [if_pos h1]
    go_enter Tryd.func58, Tryd.ntmps58
    go_wp2
    go_ret
    exact ⟨rfl, rfl⟩
  · by_cases h2 : b < a
    · rw [if_neg h1, if_pos h2]
      go_enter Tryd.func58, Tryd.ntmps58
      go_wp2
      go_ret
      exact ⟨rfl, rfl⟩
    · rw [if_neg h1, if_neg h2]
      go_enter Tryd.func58, Tryd.ntmps58
      go_wp2
      go_ret
      exact ⟨rfl, rfl⟩

theorem strV_toList (a : List UInt8) : (⟨a.toArray⟩ : ByteArray).toList = a := by rw [Lib.toList_data]
theorem bLt_irrefl (a : List UInt8) : Op.bytesLess a a = false := by
  induction a with
  | nil => rfl
  | cons x a ih => simp [Op.bytesLess, ih]
theorem bLt_tri (a b : List UInt8) : Op.bytesLess a b = true ∨ a = b ∨ Op.bytesLess b a = true := by
  induction a generalizing b with
  | nil => cases b <;> simp [Op.bytesLess]
  | cons x a ih =>
    cases b with
    | nil => simp [Op.bytesLess]
    | cons y b =>
      rcases UInt8.lt_or_lt_of_ne (a := x) (b := y) |> fun h => (Classical.em (x = y)).elim (fun e => Or.inl e) (fun e => Or.inr (h e)) with h | h | h
      · subst h
        rcases ih b with h | h | h
        · simp [Op.bytesLess, h]
        · simp [h]
        · simp [Op.bytesLess, h]
      · simp [Op.bytesLess, h]
      · simp [Op.bytesLess, h]
theorem bLt_asymm (a b : List UInt8) (h : Op.bytesLess a b = true) : Op.bytesLess b a = false := by
  induction a generalizing b with
  | nil => cases b <;> simp [Op.bytesLess] at h ⊢
  | cons x a ih =>
    cases b with
    | nil => simp [Op.bytesLess] at h
    | cons y b =>
      simp only [Op.bytesLess, Bool.or_eq_true, decide_eq_true_eq, Bool.and_eq_true, beq_iff_eq] at h
      rcases h with h | ⟨h, h2⟩
      · have h3 : ¬ y < x := UInt8.not_lt.2 (UInt8.le_of_lt h)
        have h4 : (y == x) = false := by simp; exact fun e => UInt8.lt_irrefl _ (e ▸ h)
        simp [Op.bytesLess, h3, h4]
      · subst h
        simp [Op.bytesLess, ih b h2]
def cmpS (a b : List UInt8) : Int := if Op.bytesLess a b = true then -1 else if a = b then 0 else 1
set_option maxRecDepth 100000 in
set_option maxHeartbeats 1000000 in
theorem cmpStr_any (a b : List UInt8) (w : World) : Calls Tryd.prog 54 #[strV a, strV b] w fun e w' => e = .returned (.int .i64 (cmpS a b)) ∧ w = w' := by
  have ea := strV_toList a
  have eb := strV_toList b
  unfold cmpS strV
  by_cases h1 : Op.bytesLess a b = true
  · rw [if_pos h1]
    go_enter Tryd.func54, Tryd.ntmps54
    go_wp2
    go_ret
    exact ⟨rfl, rfl⟩
  · rw [if_neg h1]
    have h1 := eq_false_of_ne_true h1
    by_cases h2 : (a == b) = true
    · rw [if_pos (beq_iff_eq.1 h2)]
      go_enter Tryd.func54, Tryd.ntmps54
      go_wp2
      go_ret
      exact ⟨rfl, rfl⟩
    · rw [if_neg fun e => h2 (beq_iff_eq.2 e)]
      have h2 := eq_false_of_ne_true h2
      go_enter Tryd.func54, Tryd.ntmps54
      go_wp2
      go_ret
      exact ⟨rfl, rfl⟩

/-- How two parts of one kind stand. -/
def cmpOne (p q : KP) : Int := if p.k = 1 then cmpI p.n q.n else if p.k = 2 then cmpI (kOf p.f : Nat) (kOf q.f : Nat) else cmpS p.s q.s
set_option maxRecDepth 100000 in
set_option maxHeartbeats 2000000 in
theorem kCmpI_any (p q : KP) (hp : p.Ok) (hq : q.Ok) (w : World) : Calls Tryd.prog 40 #[kpV p, kpV q] w fun e w' => e = .returned (.int .i64 (cmpI p.n q.n)) ∧ Keeps w w' [] := by
  have HF := Lib.hid hp.f
  have HG := Lib.hid hq.f
  obtain ⟨k, n, f, s⟩ := p
  obtain ⟨k2, n2, f2, s2⟩ := q
  clear hp hq
  unfold kpV strV
  have hsf := @run_store_float Tryd.prog
  go_enter Tryd.func40, Tryd.ntmps40
  go_wp2_with (go_at_call 41; refine (cmpI64_any _ _ _).mono ?_; rintro e w' ⟨rfl, rfl⟩)
  go_ret
  exact ⟨rfl, (Keeps.alloc _ _).trans (Keeps.alloc _ _) (by simp)⟩
set_option maxRecDepth 100000 in
set_option maxHeartbeats 2000000 in
theorem kCmpF_any (p q : KP) (hp : p.Ok) (hq : q.Ok) (w : World) : Calls Tryd.prog 47 #[kpV p, kpV q] w fun e w' => e = .returned (.int .i64 (cmpI (kOf p.f : Nat) (kOf q.f : Nat))) ∧ Keeps w w' [] := by
  have HF := Lib.hid hp.f
  have HG := Lib.hid hq.f
  obtain ⟨k, n, f, s⟩ := p
  obtain ⟨k2, n2, f2, s2⟩ := q
  clear hp hq
  unfold kpV strV
  have hsf := @run_store_float Tryd.prog
  go_enter Tryd.func47, Tryd.ntmps47
  go_wp2_with fail
  obtain ⟨W1, hW1⟩ : ∃ W', w.alloc (.cells #[.int .i64 k, .int .i64 n, .float .f64 f, .string ⟨s.toArray⟩] 34) = W' := ⟨_, rfl⟩
  obtain ⟨W0, hW0⟩ : ∃ W', W1.alloc (.cells #[.int .i64 k2, .int .i64 n2, .float .f64 f2, .string ⟨s2.toArray⟩] 34) = W' := ⟨_, rfl⟩
  have hk0 : Keeps w W0 [] := by rw [← hW0, ← hW1]; exact (Keeps.alloc _ _).trans (Keeps.alloc _ _) (by simp)
  have hr1 : Row W0 w.heap.size 34 #[.int .i64 k, .int .i64 n, .float .f64 f, .string ⟨s.toArray⟩] := by rw [← hW0, ← hW1]; exact (Row.new _ _ _).alloc _
  have hr2 : Row W0 (w.heap.size + 1) 34 #[.int .i64 k2, .int .i64 n2, .float .f64 f2, .string ⟨s2.toArray⟩] := by
    have := Row.new W1 34 #[.int .i64 k2, .int .i64 n2, .float .f64 f2, .string ⟨s2.toArray⟩]
    rw [hW0] at this
    rw [show w.heap.size + 1 = W1.heap.size by rw [← hW1]; simp]
    exact this
  rw [hW1, hW0]
  clear hW0 hW1
  obtain ⟨N, hN⟩ : ∃ N, w.heap.size = N := ⟨_, rfl⟩
  obtain ⟨N2, hN2⟩ : ∃ N2, N + 1 = N2 := ⟨_, rfl⟩
  rw [hN, hN2] at hr2
  rw [hN] at hr1 ⊢
  rw [hN2]
  have HK := Lib.hid hk0
  have M1 := fun (W : World) (hW : Keeps W0 W []) => (hr1.keep hW (by simp)).cell 0
  have M2 := fun (W : World) (hW : Keeps W0 W []) => (hr1.keep hW (by simp)).cell 1
  have M3 := fun (W : World) (hW : Keeps W0 W []) => (hr1.keep hW (by simp)).cell 2
  have M4 := fun (W : World) (hW : Keeps W0 W []) => (hr1.keep hW (by simp)).cell 3
  have L1 := fun (W : World) (hW : Keeps W0 W []) => (hr2.keep hW (by simp)).cell 0
  have L2 := fun (W : World) (hW : Keeps W0 W []) => (hr2.keep hW (by simp)).cell 1
  have L3 := fun (W : World) (hW : Keeps W0 W []) => (hr2.keep hW (by simp)).cell 2
  have L4 := fun (W : World) (hW : Keeps W0 W []) => (hr2.keep hW (by simp)).cell 3
  clear hN hN2 hk0 hr1 hr2
  refine wp_region_keeps _ (by kernel_rfl) rfl (by kernel_rfl) ?_
  apply loose_is
  · intro W vals hW hkn
    clear hkn
    refine ⟨?_⟩
    simp only [fill]
    go_simp
    first | exact ⟨Keeps.refl _ _, rfl⟩ | exact ⟨Keeps.alloc _ _, rfl⟩
  simp only [addEnt]
  apply loose_is
  · intro W vals hW hkn
    clear hkn
    refine ⟨?_⟩
    simp only [fill]
    go_simp
    first | exact ⟨Keeps.refl _ _, rfl⟩ | exact ⟨Keeps.alloc _ _, rfl⟩
  simp only [addEnt]
  apply loose_is
  · intro W vals hW hkn
    clear hkn
    refine ⟨?_⟩
    simp only [fill]
    go_simp
    refine looseUpon_calls ?_
    exact (kBits_any _ HF.out W).mono (by rintro e w3 ⟨rfl, rfl⟩; exact ⟨_, rfl, Keeps.refl _ _, rfl⟩)
  simp only [addEnt]
  apply loose_is
  · intro W vals hW hkn
    clear hkn
    refine ⟨?_⟩
    simp only [fill]
    go_simp
    first | exact ⟨Keeps.refl _ _, rfl⟩ | exact ⟨Keeps.alloc _ _, rfl⟩
  simp only [addEnt]
  apply loose_is
  · intro W vals hW hkn
    clear hkn
    refine ⟨?_⟩
    simp only [fill]
    go_simp
    first | exact ⟨Keeps.refl _ _, rfl⟩ | exact ⟨Keeps.alloc _ _, rfl⟩
  simp only [addEnt]
  apply loose_is
  · intro W vals hW hkn
    clear hkn
    refine ⟨?_⟩
    simp only [fill]
    go_simp
    refine looseUpon_calls ?_
    exact (kBits_any _ HG.out W).mono (by rintro e w3 ⟨rfl, rfl⟩; exact ⟨_, rfl, Keeps.refl _ _, rfl⟩)
  simp only [addEnt]
  apply loose_is
  · intro W vals hW hkn
    clear hkn
    refine ⟨?_⟩
    simp only [fill]
    go_simp
    refine looseUpon_calls ?_
    exact (cmpU64_any _ _ W).mono (by rintro e w3 ⟨rfl, rfl⟩; exact ⟨_, rfl, Keeps.refl _ _, rfl⟩)
  simp only [addEnt]
  apply loose_is
  · intro W vals hW hkn
    clear hkn
    refine ⟨?_⟩
    simp only [fill]
    go_simp
    first | exact ⟨Keeps.refl _ _, rfl⟩ | exact ⟨Keeps.alloc _ _, rfl⟩
  simp only [addEnt]
  refine loose_nil (fun W vals hW hkn => ?_)
  simp only [knowsAll] at hkn
  try simp only [and_true] at hkn
  simp only [fill, Act.put, List.setIfInBounds_toArray, List.set_cons_succ, List.set_cons_zero]
  have HK2 := Lib.hid hW
  clear hW hkn M1 M2 M3 M4 L1 L2 L3 L4
  go_wp2_with fail
  go_ret
  exact ⟨rfl, HK.out.trans HK2.out (by simp)⟩
set_option maxRecDepth 100000 in
set_option maxHeartbeats 2000000 in
theorem kCmpT_any (p q : KP) (hp : p.Ok) (hq : q.Ok) (w : World) : Calls Tryd.prog 53 #[kpV p, kpV q] w fun e w' => e = .returned (.int .i64 (cmpS p.s q.s)) ∧ Keeps w w' [] := by
  have HF := Lib.hid hp.f
  have HG := Lib.hid hq.f
  obtain ⟨k, n, f, s⟩ := p
  obtain ⟨k2, n2, f2, s2⟩ := q
  clear hp hq
  unfold kpV strV
  have hsf := @run_store_float Tryd.prog
  go_enter Tryd.func53, Tryd.ntmps53
  go_wp2_with (go_at_call 54; refine (cmpStr_any _ _ _).mono ?_; rintro e w' ⟨rfl, rfl⟩)
  go_ret
  exact ⟨rfl, (Keeps.alloc _ _).trans (Keeps.alloc _ _) (by simp)⟩
end Go.Proofs.YtckmlmedhchpaaaDoor
