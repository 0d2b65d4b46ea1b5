/- Package pigeonryref18: sign, one, Compare; pigeonrylaw18: few. Package pigeonryref18: Compare. -/
import Derived.Test.YtckmlmedhchpaaaDoorPa32
import Derived.Test.YtckmlmedhchpaaaDoorPa28

namespace Go.Proofs.YtckmlmedhchpaaaDoor
open Go.RowKit Ieee

theorem sign_any (b : Bool) (w : World) : Calls Tryd.prog 28 #[.bool b] w fun e w' => e = .returned (.int .i64 (if b then -1 else 1)) ∧ w = w' := by
  cases b
  · go_enter Tryd.func28, Tryd.ntmps28
    go_wp2
    go_ret
    exact ⟨rfl, rfl⟩
  · go_enter Tryd.func28, Tryd.ntmps28
    go_wp2
    go_ret
    exact ⟨rfl, rfl⟩
theorem sgn_cmpI (a b : Int) (h : a ≠ b) : (if decide (a < b) then -1 else 1 : Int) = cmpI a b := by
  unfold cmpI
  by_cases h1 : a < b
  · simp [h1]
  · have h2 : b < a := by omega
    simp [h1, h2]
set_option maxRecDepth 100000 in
set_option maxHeartbeats 2000000 in
theorem one_apart (p q : KP) (h : p.k ≠ q.k) (w : World) : Calls Tryd.prog 27 #[kpV p, kpV q] w fun e w' => e = .returned (.int .i64 (kCmp1 p q)) ∧ Keeps w w' [] := by
  have HV := Lib.hid (show kCmp1 p q = (if decide (p.k < q.k) then -1 else 1) by unfold kCmp1; rw [if_neg h, sgn_cmpI _ _ h])
  have kk : (p.k != q.k) = true := by simpa using h
  clear h
  obtain ⟨k, n, f, s⟩ := p
  obtain ⟨k2, n2, f2, s2⟩ := q
  dsimp only at kk HV
  by_cases hl : k < k2
  · rw [if_pos (by simpa using hl)] at HV
    unfold kpV strV
    have hsf := @run_store_float Tryd.prog
    go_enter Tryd.func27, Tryd.ntmps27
    go_wp2_with (go_at_call 28; refine (sign_any _ _).mono ?_; rintro e w' ⟨rfl, rfl⟩)
    go_ret
    exact ⟨by rw [HV.out]; rfl, (Keeps.alloc _ _).trans (Keeps.alloc _ _) (by simp)⟩
  · rw [if_neg (by simpa using hl)] at HV
    unfold kpV strV
    have hsf := @run_store_float Tryd.prog
    go_enter Tryd.func27, Tryd.ntmps27
    go_wp2_with (go_at_call 28; refine (sign_any _ _).mono ?_; rintro e w' ⟨rfl, rfl⟩)
    go_ret
    exact ⟨by rw [HV.out]; rfl, (Keeps.alloc _ _).trans (Keeps.alloc _ _) (by simp)⟩
set_option maxRecDepth 100000 in
set_option maxHeartbeats 2000000 in
theorem one_int (n n2 : Int) (f f2 : Nat) (s s2 : List UInt8) (w : World) : Calls Tryd.prog 27 #[kpV ⟨1, n, f, s⟩, kpV ⟨1, n2, f2, s2⟩] w fun e w' => e = .returned (.int .i64 (kCmp1 ⟨1, n, f, s⟩ ⟨1, n2, f2, s2⟩)) ∧ Keeps w w' [] := by
  by_cases h : n = n2
  · subst h
    have HV := Lib.hid (show kCmp1 ⟨1, n, f, s⟩ ⟨1, n, f2, s2⟩ = 0 from cmpI_eq n)
    have kk : (n != n) = false := by simp
    unfold kpV strV
    have hsf := @run_store_float Tryd.prog
    go_enter Tryd.func27, Tryd.ntmps27
    go_wp2_with (go_at_call 28; refine (sign_any _ _).mono ?_; rintro e w' ⟨rfl, rfl⟩)
    go_ret
    exact ⟨by rw [HV.out]; rfl, (Keeps.alloc _ _).trans (Keeps.alloc _ _) (by simp)⟩
  · have HV := Lib.hid (show kCmp1 ⟨1, n, f, s⟩ ⟨1, n2, f2, s2⟩ = (if decide (n < n2) then -1 else 1) from (sgn_cmpI _ _ h).symm)
    have kk : (n != n2) = true := by simpa using h
    clear h
    by_cases hl : n < n2
    · rw [if_pos (by simpa using hl)] at HV
      unfold kpV strV
      have hsf := @run_store_float Tryd.prog
      go_enter Tryd.func27, Tryd.ntmps27
      go_wp2_with (go_at_call 28; refine (sign_any _ _).mono ?_; rintro e w' ⟨rfl, rfl⟩)
      go_ret
      exact ⟨by rw [HV.out]; rfl, (Keeps.alloc _ _).trans (Keeps.alloc _ _) (by simp)⟩
    · rw [if_neg (by simpa using hl)] at HV
      unfold kpV strV
      have hsf := @run_store_float Tryd.prog
      go_enter Tryd.func27, Tryd.ntmps27
      go_wp2_with (go_at_call 28; refine (sign_any _ _).mono ?_; rintro e w' ⟨rfl, rfl⟩)
      go_ret
      exact ⟨by rw [HV.out]; rfl, (Keeps.alloc _ _).trans (Keeps.alloc _ _) (by simp)⟩
set_option maxRecDepth 100000 in
set_option maxHeartbeats 2000000 in
theorem one_text (n n2 : Int) (f f2 : Nat) (s s2 : List UInt8) (w : World) : Calls Tryd.prog 27 #[kpV ⟨3, n, f, s⟩, kpV ⟨3, n2, f2, s2⟩] w fun e w' => e = .returned (.int .i64 (kCmp1 ⟨3, n, f, s⟩ ⟨3, n2, f2, s2⟩)) ∧ Keeps w w' [] := by
  have ea := strV_toList s
  have eb := strV_toList s2
  by_cases h : s = s2
  · subst h
    have HV := Lib.hid (show kCmp1 ⟨3, n, f, s⟩ ⟨3, n2, f2, s⟩ = 0 by show cmpS s s = 0; unfold cmpS; rw [bLt_irrefl, if_neg (by decide), if_pos rfl])
    have kk : (s != s) = false := by simp
    unfold kpV strV
    have hsf := @run_store_float Tryd.prog
    go_enter Tryd.func27, Tryd.ntmps27
    go_wp2_with (go_at_call 28; refine (sign_any _ _).mono ?_; rintro e w' ⟨rfl, rfl⟩)
    go_ret
    exact ⟨by rw [HV.out]; rfl, (Keeps.alloc _ _).trans (Keeps.alloc _ _) (by simp)⟩
  · have HV := Lib.hid (show kCmp1 ⟨3, n, f, s⟩ ⟨3, n2, f2, s2⟩ = (if Op.bytesLess s s2 then -1 else 1) by show cmpS s s2 = _; unfold cmpS; rw [if_neg h])
    have kk : (s == s2) = false := by simpa using h
    clear h
    by_cases hl : Op.bytesLess s s2 = true
    · rw [if_pos hl] at HV
      unfold kpV strV
      have hsf := @run_store_float Tryd.prog
      go_enter Tryd.func27, Tryd.ntmps27
      go_wp2_with (go_at_call 28; refine (sign_any _ _).mono ?_; rintro e w' ⟨rfl, rfl⟩)
      go_ret
      exact ⟨by rw [HV.out]; rfl, (Keeps.alloc _ _).trans (Keeps.alloc _ _) (by simp)⟩
    · rw [if_neg hl] at HV
      have hl := eq_false_of_ne_true hl
      unfold kpV strV
      have hsf := @run_store_float Tryd.prog
      go_enter Tryd.func27, Tryd.ntmps27
      go_wp2_with (go_at_call 28; refine (sign_any _ _).mono ?_; rintro e w' ⟨rfl, rfl⟩)
      go_ret
      exact ⟨by rw [HV.out]; rfl, (Keeps.alloc _ _).trans (Keeps.alloc _ _) (by simp)⟩
theorem order_ne (x y : Nat) (nx : x % fS ≤ fInf) (ny : y % fS ≤ fInf) : (FloatKind.f64.format.order x y != some Ordering.eq) = !decide (fKey x = fKey y) := by
  rw [bne, order_eq x y nx ny]
set_option maxRecDepth 100000 in
set_option maxHeartbeats 4000000 in
theorem one_float (n n2 : Int) (f f2 : Nat) (s s2 : List UInt8) (hf : f < 18446744073709551616) (hf2 : f2 < 18446744073709551616) (w : World) :
    Calls Tryd.prog 27 #[kpV ⟨2, n, f, s⟩, kpV ⟨2, n2, f2, s2⟩] w fun e w' => e = .returned (.int .i64 (kCmp1 ⟨2, n, f, s⟩ ⟨2, n2, f2, s2⟩)) ∧ Keeps w w' [] := by
  have HK : kCmp1 ⟨2, n, f, s⟩ ⟨2, n2, f2, s2⟩ = cmpI (kOf f : Nat) (kOf f2 : Nat) := rfl
  have n1 := order_self_nan f
  have m1 := order_self_nan f2
  by_cases h1 : fInf < f % fS
  · by_cases h2 : fInf < f2 % fS
    · have HV := Lib.hid (show kCmp1 ⟨2, n, f, s⟩ ⟨2, n2, f2, s2⟩ = 0 by rw [HK]; unfold kOf; rw [kOrd_nan h1, kOrd_nan h2]; rfl)
      simp only [h1, h2, decide_true] at n1 m1
      clear HK h1 h2 hf hf2
      unfold kpV strV
      have hsf := @run_store_float Tryd.prog
      go_enter Tryd.func27, Tryd.ntmps27
      go_wp2_with (go_at_call 28; refine (sign_any _ _).mono ?_; rintro e w' ⟨rfl, rfl⟩)
      go_ret
      exact ⟨by rw [HV.out]; rfl, (Keeps.alloc _ _).trans (Keeps.alloc _ _) (by simp)⟩
    · have HV := Lib.hid (show kCmp1 ⟨2, n, f, s⟩ ⟨2, n2, f2, s2⟩ = 1 by
        have := kOrd_nan_lt hf2 (by omega) h1
        rw [HK]; unfold kOf cmpI; rw [if_neg (by omega), if_pos (by omega)])
      simp only [h1, h2, decide_true, decide_false] at n1 m1
      clear HK h1 h2 hf hf2
      unfold kpV strV
      have hsf := @run_store_float Tryd.prog
      go_enter Tryd.func27, Tryd.ntmps27
      go_wp2_with (go_at_call 28; refine (sign_any _ _).mono ?_; rintro e w' ⟨rfl, rfl⟩)
      go_ret
      exact ⟨by rw [HV.out]; rfl, (Keeps.alloc _ _).trans (Keeps.alloc _ _) (by simp)⟩
  · by_cases h2 : fInf < f2 % fS
    · have HV := Lib.hid (show kCmp1 ⟨2, n, f, s⟩ ⟨2, n2, f2, s2⟩ = -1 by
        have := kOrd_nan_lt hf (by omega) h2
        rw [HK]; unfold kOf cmpI; rw [if_pos (by omega)])
      simp only [h1, h2, decide_true, decide_false] at n1 m1
      clear HK h1 h2 hf hf2
      unfold kpV strV
      have hsf := @run_store_float Tryd.prog
      go_enter Tryd.func27, Tryd.ntmps27
      go_wp2_with (go_at_call 28; refine (sign_any _ _).mono ?_; rintro e w' ⟨rfl, rfl⟩)
      go_ret
      exact ⟨by rw [HV.out]; rfl, (Keeps.alloc _ _).trans (Keeps.alloc _ _) (by simp)⟩
    · have nx : f % fS ≤ fInf := by omega
      have ny : f2 % fS ≤ fInf := by omega
      simp only [h1, h2, decide_false] at n1 m1
      have ke := order_ne f f2 nx ny
      have kl := order_lt f f2 nx ny
      have e1 := kOrd_eq hf hf2 nx ny
      have e2 := kOrd_lt hf hf2 nx ny
      by_cases h : fKey f = fKey f2
      · have HV := Lib.hid (show kCmp1 ⟨2, n, f, s⟩ ⟨2, n2, f2, s2⟩ = 0 by rw [HK]; unfold kOf; rw [e1.2 h]; exact cmpI_eq _)
        simp only [h, decide_true, Bool.not_true] at ke
        clear HK h1 h2 hf hf2 e1 e2 nx ny kl
        unfold kpV strV
        have hsf := @run_store_float Tryd.prog
        go_enter Tryd.func27, Tryd.ntmps27
        go_wp2_with (go_at_call 28; refine (sign_any _ _).mono ?_; rintro e w' ⟨rfl, rfl⟩)
        go_ret
        exact ⟨by rw [HV.out]; rfl, (Keeps.alloc _ _).trans (Keeps.alloc _ _) (by simp)⟩
      · have HV := Lib.hid (show kCmp1 ⟨2, n, f, s⟩ ⟨2, n2, f2, s2⟩ = (if decide (fKey f < fKey f2) then -1 else 1) by
          rw [HK]; unfold kOf
          have hne : ((kOrd (kBits f) : Nat) : Int) ≠ (kOrd (kBits f2) : Nat) := fun h3 => h (e1.1 (by omega))
          rw [← sgn_cmpI _ _ hne]
          congr 1
          rw [eq_iff_iff, decide_eq_true_eq, decide_eq_true_eq, ← e2]
          omega)
        simp only [h, decide_false, Bool.not_false] at ke
        obtain ⟨LT, hLT⟩ : ∃ b, decide (fKey f < fKey f2) = b := ⟨_, rfl⟩
        rw [hLT] at kl HV
        clear HK h1 h2 hf hf2 e1 e2 nx ny h hLT
        cases LT
        · rw [if_neg (by decide)] at HV
          unfold kpV strV
          have hsf := @run_store_float Tryd.prog
          go_enter Tryd.func27, Tryd.ntmps27
          go_wp2_with (go_at_call 28; refine (sign_any _ _).mono ?_; rintro e w' ⟨rfl, rfl⟩)
          go_ret
          exact ⟨by rw [HV.out]; rfl, (Keeps.alloc _ _).trans (Keeps.alloc _ _) (by simp)⟩
        · rw [if_pos rfl] at HV
          unfold kpV strV
          have hsf := @run_store_float Tryd.prog
          go_enter Tryd.func27, Tryd.ntmps27
          go_wp2_with (go_at_call 28; refine (sign_any _ _).mono ?_; rintro e w' ⟨rfl, rfl⟩)
          go_ret
          exact ⟨by rw [HV.out]; rfl, (Keeps.alloc _ _).trans (Keeps.alloc _ _) (by simp)⟩
set_option maxRecDepth 100000 in
set_option maxHeartbeats 2000000 in
theorem one_other (k : Int) (hk : kIs k = false) (n n2 : Int) (f f2 : Nat) (s s2 : List UInt8) (w : World) : Calls Tryd.prog 27 #[kpV ⟨k, n, f, s⟩, kpV ⟨k, n2, f2, s2⟩] w fun e w' => e = .returned (.int .i64 (kCmp1 ⟨k, n, f, s⟩ ⟨k, n2, f2, s2⟩)) ∧ Keeps w w' [] := by
  have HV := Lib.hid (show kCmp1 ⟨k, n, f, s⟩ ⟨k, n2, f2, s2⟩ = 0 by show (if k = k then (if kIs k = true then _ else 0) else _) = (0 : Int); rw [if_pos rfl, hk, if_neg (by decide)])
  have k1 : (k == 1) = false := by simp only [beq_eq_false_iff_ne]; rintro rfl; cases hk
  have k2 : (k == 2) = false := by simp only [beq_eq_false_iff_ne]; rintro rfl; cases hk
  have k3 : (k == 3) = false := by simp only [beq_eq_false_iff_ne]; rintro rfl; cases hk
  have kk : (k != k) = false := by simp
  clear hk
  unfold kpV strV
  have hsf := @run_store_float Tryd.prog
  go_enter Tryd.func27, Tryd.ntmps27
  go_wp2_with (go_at_call 28; refine (sign_any _ _).mono ?_; rintro e w' ⟨rfl, rfl⟩)
  go_ret
  exact ⟨by rw [HV.out]; rfl, (Keeps.alloc _ _).trans (Keeps.alloc _ _) (by simp)⟩
theorem one_any (p q : KP) (hp : p.Ok) (hq : q.Ok) (w : World) : Calls Tryd.prog 27 #[kpV p, kpV q] w fun e w' => e = .returned (.int .i64 (kCmp1 p q)) ∧ Keeps w w' [] := by
  by_cases h : p.k = q.k
  · have hf := hp.f
    have hf2 := hq.f
    obtain ⟨k, n, f, s⟩ := p
    obtain ⟨k2, n2, f2, s2⟩ := q
    dsimp only at h hf hf2
    subst h
    rcases kind_cases k with rfl | rfl | rfl | hki
    · exact one_int n n2 f f2 s s2 w
    · exact one_float n n2 f f2 s s2 hf hf2 w
    · exact one_text n n2 f f2 s s2 w
    · exact one_other k (by simp [kIs, hki]) n n2 f f2 s s2 w
  · exact one_apart p q h w
end Go.Proofs.YtckmlmedhchpaaaDoor

namespace Go.Proofs.YtckmlmedhchpaaaDoor
open Go.RowKit

set_option maxRecDepth 100000 in
set_option maxHeartbeats 4000000 in
theorem refCompare_any (w : World) (A B : Option Addr) (ca cb : Nat) (a b : List KP) (hoa : ∀ p ∈ a, p.Ok) (hob : ∀ p ∈ b, p.Ok) (hA : Lies w w.heap.size A (kFlat a)) (hB : Lies w w.heap.size B (kFlat b))
    (hla : a.length ≤ 1000000) (hlb : b.length ≤ 1000000) :
    Calls Tryd.prog 12 #[.slice A a.length ca, .slice B b.length cb] w fun e w' => e = .returned (.int .i64 (kCmp a b)) ∧ Keeps w w' [] := by
  go_enter Tryd.func12, Tryd.ntmps12
  go_wp2_with fail
  go_loopw [5] (fun i wr => ∃ j : Nat, j ≤ a.length ∧ j ≤ b.length ∧ i = .int .i64 j ∧ Hid (kCmp a b = kCmp (a.drop j) (b.drop j)) ∧ Keeps w wr []) (fun i _ => a.length - (intOf i).toNat)
  case atStart => exact ⟨0, by omega, by omega, rfl, Lib.hid rfl, Keeps.refl _ _⟩
  case round =>
    obtain ⟨j, hj1, hj2, rfl, HE, hkp⟩ := hrel
    by_cases hjm : j < a.length ∧ j < b.length
    · have hja : j < a.length := hjm.1
      have hjb : j < b.length := hjm.2
      obtain ⟨b1, o1, rfl, hb1, hc1⟩ := kpAt hA (Nat.le_refl _) hja
      obtain ⟨b2, o2, rfl, hb2, hc2⟩ := kpAt hB (Nat.le_refl _) hjb
      have hp := hoa a[j] (List.getElem_mem _)
      have hq := hob b[j] (List.getElem_mem _)
      have HS := Lib.hid (kCmp_step hja hjb)
      obtain ⟨p, hpd⟩ : ∃ p, p = a[j] := ⟨_, rfl⟩
      obtain ⟨q, hqd⟩ : ∃ q, q = b[j] := ⟨_, rfl⟩
      rw [← hpd, ← hqd] at HS
      rw [← hpd] at hc1 hp
      rw [← hqd] at hc2 hq
      have HH := Lib.hid (And.intro hc1 (And.intro hc2 (And.intro hp (And.intro hq hkp))))
      clear hpd hqd hc1 hc2 hp hq hkp hoa hob hA hB hjm
      go_wp2_with fail
      obtain ⟨k, n, f, s⟩ := p
      obtain ⟨k2, n2, f2, s2⟩ := q
      have M1 := fun (W : World) (hW : Keeps wr W []) => (HH.out.1 W (HH.out.2.2.2.2.trans hW (by simp))).1
      have M2 := fun (W : World) (hW : Keeps wr W []) => (HH.out.1 W (HH.out.2.2.2.2.trans hW (by simp))).2.1
      have M3 := fun (W : World) (hW : Keeps wr W []) => (HH.out.1 W (HH.out.2.2.2.2.trans hW (by simp))).2.2.1
      have M4 := fun (W : World) (hW : Keeps wr W []) => (HH.out.1 W (HH.out.2.2.2.2.trans hW (by simp))).2.2.2
      have L1 := fun (W : World) (hW : Keeps wr W []) => (HH.out.2.1 W (HH.out.2.2.2.2.trans hW (by simp))).1
      have L2 := fun (W : World) (hW : Keeps wr W []) => (HH.out.2.1 W (HH.out.2.2.2.2.trans hW (by simp))).2.1
      have L3 := fun (W : World) (hW : Keeps wr W []) => (HH.out.2.1 W (HH.out.2.2.2.2.trans hW (by simp))).2.2.1
      have L4 := fun (W : World) (hW : Keeps wr W []) => (HH.out.2.1 W (HH.out.2.2.2.2.trans hW (by simp))).2.2.2
      simp only [strV] at M4 L4
      refine wp_region_keeps _ (by kernel_rfl) rfl (by kernel_rfl) ?_
      apply loose_is
      · intro W vals hW hkn
        clear hkn
        refine ⟨?_⟩
        simp only [fill]
        go_simp
        first | exact ⟨Keeps.refl _ _, rfl⟩ | exact ⟨Keeps.alloc _ _, rfl⟩
      simp only [addEnt]
      apply loose_is
      · intro W vals hW hkn
        clear hkn
        refine ⟨?_⟩
        simp only [fill]
        go_simp
        first | exact ⟨Keeps.refl _ _, rfl⟩ | exact ⟨Keeps.alloc _ _, rfl⟩
      simp only [addEnt]
      apply loose_is
      · intro W vals hW hkn
        clear hkn
        refine ⟨?_⟩
        simp only [fill]
        go_simp
        first | exact ⟨Keeps.refl _ _, rfl⟩ | exact ⟨Keeps.alloc _ _, rfl⟩
      simp only [addEnt]
      apply loose_is
      · intro W vals hW hkn
        clear hkn
        refine ⟨?_⟩
        simp only [fill]
        go_simp
        first | exact ⟨Keeps.refl _ _, rfl⟩ | exact ⟨Keeps.alloc _ _, rfl⟩
      simp only [addEnt]
      apply loose_is
      · intro W vals hW hkn
        clear hkn
        refine ⟨?_⟩
        simp only [fill]
        go_simp
        first | exact ⟨Keeps.refl _ _, rfl⟩ | exact ⟨Keeps.alloc _ _, rfl⟩
      simp only [addEnt]
      apply loose_is
      · intro W vals hW hkn
        clear hkn
        refine ⟨?_⟩
        simp only [fill]
        go_simp
        first | exact ⟨Keeps.refl _ _, rfl⟩ | exact ⟨Keeps.alloc _ _, rfl⟩
      simp only [addEnt]
      apply loose_is
      · intro W vals hW hkn
        clear hkn
        refine ⟨?_⟩
        simp only [fill]
        go_simp
        first | exact ⟨Keeps.refl _ _, rfl⟩ | exact ⟨Keeps.alloc _ _, rfl⟩
      simp only [addEnt]
      apply loose_is
      · intro W vals hW hkn
        clear hkn
        refine ⟨?_⟩
        simp only [fill]
        go_simp
        first | exact ⟨Keeps.refl _ _, rfl⟩ | exact ⟨Keeps.alloc _ _, rfl⟩
      simp only [addEnt]
      apply loose_is
      · intro W vals hW hkn
        clear hkn
        refine ⟨?_⟩
        simp only [fill]
        go_simp
        refine looseUpon_calls ?_
        exact (one_any ⟨k, n, f, s⟩ ⟨k2, n2, f2, s2⟩ HH.out.2.2.1 HH.out.2.2.2.1 W).mono (by rintro e w3 ⟨rfl, hk3⟩; exact ⟨_, rfl, hk3, rfl⟩)
      simp only [addEnt]
      apply loose_is
      · intro W vals hW hkn
        clear hkn
        refine ⟨?_⟩
        simp only [fill]
        go_simp
        first | exact ⟨Keeps.refl _ _, rfl⟩ | exact ⟨Keeps.alloc _ _, rfl⟩
      simp only [addEnt]
      refine loose_nil (fun W vals hW hkn => ?_)
      simp only [knowsAll] at hkn
      try simp only [and_true] at hkn
      simp only [fill, Act.put, List.setIfInBounds_toArray, List.set_cons_succ, List.set_cons_zero]
      have HK := Lib.hid (HH.out.2.2.2.2.trans hW (by simp))
      clear hW hkn M1 M2 M3 M4 L1 L2 L3 L4
      obtain ⟨c, hc⟩ : ∃ c, kCmp1 ⟨k, n, f, s⟩ ⟨k2, n2, f2, s2⟩ = c := ⟨_, rfl⟩
      rw [hc] at HS ⊢
      clear hc
      by_cases hc0 : c = 0
      · subst hc0
        rw [if_pos rfl] at HS
        go_wp2_with fail
        exact ⟨⟨j + 1, by omega, by omega, by go_num, Lib.hid (HE.out.trans HS.out), HK.out⟩, by simp [intOf]; omega⟩
      · rw [if_neg hc0] at HS
        have hc1 : (c != 0) = true := by simp [hc0]
        have HC := Lib.hid hc0
        clear hc0
        go_wp2_with fail
        go_ret
        exact ⟨by rw [HE.out, HS.out]; rfl, HK.out⟩
    · have HR := Lib.hid (show kCmp a b = cmpI a.length b.length by
        rw [HE.out]
        exact kCmp_end hj1 hj2 hjm)
      have HK := Lib.hid hkp
      clear hkp hoa hob hA hB HE
      have hj3 : ¬ ((j : Int) < a.length ∧ (j : Int) < b.length) := by omega
      have ends : (a.length : Int) = b.length ∨ (a.length : Int) < b.length ∨ (b.length : Int) < a.length := by omega
      by_cases h1 : (j : Int) < a.length
      · have h2 : ¬ (j : Int) < b.length := fun h => hj3 ⟨h1, h⟩
        have h4 : (a.length : Int) ≠ b.length := by omega
        have h5 : ((a.length : Int) == b.length) = false := by simpa using h4
        have h6 : ¬ ((a.length : Int) < b.length) := by omega
        have HV := Lib.hid (show kCmp a b = 1 by rw [HR.out]; unfold cmpI; rw [if_neg (by omega), if_pos (by omega)])
        clear hjm hj3 ends h4
        go_wp2_with (go_at_call 28; refine (sign_any _ _).mono ?_; rintro e w' ⟨rfl, rfl⟩)
        go_ret
        exact ⟨by rw [HV.out]; rfl, HK.out⟩
      · clear hjm hj3
        rcases ends with h4 | h4 | h4
        · have h5 : ((a.length : Int) == b.length) = true := by simpa using h4
          have HV := Lib.hid (show kCmp a b = 0 by rw [HR.out, h4]; exact cmpI_eq _)
          go_wp2_with (go_at_call 28; refine (sign_any _ _).mono ?_; rintro e w' ⟨rfl, rfl⟩)
          go_ret
          exact ⟨by rw [HV.out]; rfl, HK.out⟩
        · have h5 : ((a.length : Int) == b.length) = false := by simp; omega
          have HV := Lib.hid (show kCmp a b = -1 by rw [HR.out]; unfold cmpI; rw [if_pos h4])
          go_wp2_with (go_at_call 28; refine (sign_any _ _).mono ?_; rintro e w' ⟨rfl, rfl⟩)
          go_ret
          exact ⟨by rw [HV.out]; rfl, HK.out⟩
        · omega
end Go.Proofs.YtckmlmedhchpaaaDoor
