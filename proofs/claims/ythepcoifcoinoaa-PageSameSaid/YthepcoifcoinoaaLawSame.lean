/- The statement PageSame (layer 4): the walk. -/
import Derived.Test.YthepcoifcoinoaaKnown4
import Derived.Test.YthepcoifcoinoaaOpen
namespace Go.Proofs.Ythepcoifcoinoaa
open Go.RowKit

set_option maxRecDepth 100000 in
set_option maxHeartbeats 2000000 in
theorem pageSame_long (w : World) (k1 t1 n1 : Int) (A1 : Option Addr) (m1 c1 : Nat) (k2 t2 n2 : Int) (A2 : Option Addr) (m2 c2 : Nat) (k : Int) (h : 300 < m1 ∨ 300 < m2) (hm1 : m1 ≤ 9223372036854775807) (hm2 : m2 ≤ 9223372036854775807) :
    Calls Try.prog 7 #[.agg #[.int .i64 k1, .int .i64 t1, .int .i64 n1, .slice A1 m1 c1], .agg #[.int .i64 k2, .int .i64 t2, .int .i64 n2, .slice A2 m2 c2], .int .i64 k] w fun e w' => e = .returned (.bool true) ∧ Keeps w w' [] := by
  by_cases h1 : 300 < m1
  · have d1 : decide ((300 : Int) < (m1 : Int)) = true := by simp; omega
    clear h h1
    go_enter Try.func7, Try.ntmps7
    go_wp2_with fail
    refine (known4_any _).mono ?_
    rintro e w1 ⟨rfl, hk1⟩
    have H := Lib.hid (((Keeps.alloc _ _).then_alloc _).then_ hk1)
    clear hk1
    go_wp2
    go_ret
    exact ⟨rfl, H.out⟩
  · have d1 : decide ((300 : Int) < (m1 : Int)) = false := by simp; omega
    have d2 : decide ((300 : Int) < (m2 : Int)) = true := by simp; omega
    clear h h1
    go_enter Try.func7, Try.ntmps7
    go_wp2_with fail
    refine (known4_any _).mono ?_
    rintro e w1 ⟨rfl, hk1⟩
    have H := Lib.hid (((Keeps.alloc _ _).then_alloc _).then_ hk1)
    clear hk1
    go_wp2
    go_ret
    exact ⟨rfl, H.out⟩

set_option maxRecDepth 100000 in
set_option maxHeartbeats 2000000 in
theorem pageSame_short (w : World) (k1 t1 n1 : Int) (A1 : Option Addr) (c1 : Nat) (l1 : List UInt8) (k2 t2 n2 : Int) (A2 : Option Addr) (c2 : Nat) (l2 : List UInt8) (k : Int)
    (hL1 : Lies w w.heap.size A1 (l1.map byteV)) (hL2 : Lies w w.heap.size A2 (l2.map byteV)) (h1 : l1.length ≤ 300) (h2 : l2.length ≤ 300) :
    Calls Try.prog 7 #[.agg #[.int .i64 k1, .int .i64 t1, .int .i64 n1, .slice A1 l1.length c1], .agg #[.int .i64 k2, .int .i64 t2, .int .i64 n2, .slice A2 l2.length c2], .int .i64 k] w fun e w' => e = .returned (.bool true) ∧ Keeps w w' [] := by
  have d1 : decide ((300 : Int) < (l1.length : Int)) = false := by simp; omega
  have d2 : decide ((300 : Int) < (l2.length : Int)) = false := by simp; omega
  have HL1 := Lib.hid hL1
  have HL2 := Lib.hid hL2
  clear hL1 hL2
  obtain ⟨S, hS⟩ : ∃ S, samePg k1 t1 n1 l1 k2 t2 n2 l2 = S := ⟨_, rfl⟩
  have HS := Lib.hid hS
  clear hS
  by_cases hk : 1 ≤ k ∧ k ≤ 5
  · have b1 : decide (1 ≤ k) = true := by simp [hk]
    have b2 : decide (k ≤ 5) = true := by simp [hk]
    have HKI := Lib.hid (show (kindName k).toList.isEmpty = false by
      have : k = 1 ∨ k = 2 ∨ k = 3 ∨ k = 4 ∨ k = 5 := by omega
      rcases this with rfl | rfl | rfl | rfl | rfl <;> decide +kernel)
    go_enter Try.func7, Try.ntmps7
    go_wp2_with fail
    refine (textYes_any k hk _).mono ?_
    rintro e w1 ⟨rfl, hk1⟩
    have r1 := ((Row.new w 26 #[.int .i64 k1, .int .i64 t1, .int .i64 n1, .slice A1 l1.length c1]).alloc (.cells #[.int .i64 k2, .int .i64 t2, .int .i64 n2, .slice A2 l2.length c2] 26)).keep hk1 (by simp)
    have r2 : Row w1 (w.heap.size + 1) 26 #[.int .i64 k2, .int .i64 t2, .int .i64 n2, .slice A2 l2.length c2] := World.size_alloc w _ ▸ (Row.new (w.alloc (.cells #[.int .i64 k1, .int .i64 t1, .int .i64 n1, .slice A1 l1.length c1] 26)) 26 #[.int .i64 k2, .int .i64 t2, .int .i64 n2, .slice A2 l2.length c2]).keep hk1 (by simp)
    have H1 := Lib.hid (And.intro (((Keeps.alloc _ _).then_alloc _).then_ hk1) (And.intro r1 r2))
    clear hk1 r1 r2
    have ke : (kindName k).toList.isEmpty = false := HKI.out
    go_wp2_with fail
    have M1 := fun (W : World) (hW : Keeps w1 W []) => (H1.out.2.1.keep hW (by simp)).cell 0
    have M2 := fun (W : World) (hW : Keeps w1 W []) => (H1.out.2.1.keep hW (by simp)).cell 1
    have M3 := fun (W : World) (hW : Keeps w1 W []) => (H1.out.2.1.keep hW (by simp)).cell 2
    have M4 := fun (W : World) (hW : Keeps w1 W []) => (H1.out.2.1.keep hW (by simp)).cell 3
    have N1 := fun (W : World) (hW : Keeps w1 W []) => (H1.out.2.2.keep hW (by simp)).cell 0
    have N2 := fun (W : World) (hW : Keeps w1 W []) => (H1.out.2.2.keep hW (by simp)).cell 1
    have N3 := fun (W : World) (hW : Keeps w1 W []) => (H1.out.2.2.keep hW (by simp)).cell 2
    have N4 := fun (W : World) (hW : Keeps w1 W []) => (H1.out.2.2.keep hW (by simp)).cell 3
    have LL1 := Lib.hid (show ∀ W, Keeps w1 W [] → Lies W W.heap.size A1 (l1.map byteV) from fun W hW => (HL1.out.below ((H1.out.1.then_ hW).below (Nat.le_refl _) (by simp))).mono (H1.out.1.then_ hW).size)
    have LL2 := Lib.hid (show ∀ W, Keeps w1 W [] → Lies W W.heap.size A2 (l2.map byteV) from fun W hW => (HL2.out.below ((H1.out.1.then_ hW).below (Nat.le_refl _) (by simp))).mono (H1.out.1.then_ hW).size)
    have S1 := Lib.hid (show ∀ W, Keeps w1 W [] → Calls Try.prog 22 #[.agg #[.int .i64 k1, .int .i64 t1, .int .i64 n1, .slice A1 l1.length c1], .agg #[.int .i64 k2, .int .i64 t2, .int .i64 n2, .slice A2 l2.length c2]] W fun e w' => e = .returned (.bool S) ∧ Keeps w1 w' [] from fun W hW => (same_any W k1 t1 n1 A1 c1 l1 k2 t2 n2 A2 c2 l2 (LL1.out W hW) (LL2.out W hW)).mono (by rintro e w2 ⟨rfl, hk⟩; exact ⟨by rw [HS.out], hW.then_ hk⟩))
    have S2 := Lib.hid (show ∀ W, Keeps w1 W [] → Calls Try.prog 16 #[.agg #[.int .i64 k1, .int .i64 t1, .int .i64 n1, .slice A1 l1.length c1], .agg #[.int .i64 k2, .int .i64 t2, .int .i64 n2, .slice A2 l2.length c2]] W fun e w' => e = .returned (.bool S) ∧ Keeps w1 w' [] from fun W hW => (refSame_any W k1 t1 n1 A1 c1 l1 k2 t2 n2 A2 c2 l2 (LL1.out W hW) (LL2.out W hW)).mono (by rintro e w2 ⟨rfl, hk⟩; exact ⟨by rw [HS.out], hW.then_ hk⟩))
    have S3 := Lib.hid (show ∀ W, Keeps w1 W [] → Calls Try.prog 22 #[.agg #[.int .i64 k1, .int .i64 t1, .int .i64 n1, .slice A1 l1.length c1], .agg #[.int .i64 k1, .int .i64 t1, .int .i64 n1, .slice A1 l1.length c1]] W fun e w' => e = .returned (.bool true) ∧ Keeps w1 w' [] from fun W hW => (same_any W k1 t1 n1 A1 c1 l1 k1 t1 n1 A1 c1 l1 (LL1.out W hW) (LL1.out W hW)).mono (by rintro e w2 ⟨rfl, hk⟩; exact ⟨by rw [samePg_iff.2 ⟨rfl, rfl, rfl, rfl⟩], hW.then_ hk⟩))
    have S4 := Lib.hid (show ∀ W, Keeps w1 W [] → Calls Try.prog 13 #[] W fun e w' => e = .returned (.bool true) ∧ Keeps w1 w' [] from fun W hW => (known4_any W).mono (by rintro e w2 ⟨rfl, hk⟩; exact ⟨rfl, hW.then_ hk⟩))
    have ss : (S == S) = true := by simp
    refine wp_region_mild (fun W => Keeps w1 W []) (by kernel_rfl) (by kernel_rfl) (Keeps.drew _) ?_
    refine wpQuiet_step (fun K hK => ?_)
    go_simp
    apply Exists.intro
    refine ⟨fun W hW => ?_, hK _ ?_⟩
    · go_simp
      first | done | rfl | exact ⟨rfl, rfl⟩
    clear hK K
    refine wpQuiet_step (fun K hK => ?_)
    go_simp
    apply Exists.intro
    refine ⟨fun W hW => ?_, hK _ ?_⟩
    · go_simp
      first | done | rfl | exact ⟨rfl, rfl⟩
    clear hK K
    refine wpQuiet_step (fun K hK => ?_)
    go_simp
    apply Exists.intro
    refine ⟨fun W hW => ?_, hK _ ?_⟩
    · go_simp
      exact S1.out W hW
    clear hK K
    refine wpQuiet_step (fun K hK => ?_)
    go_simp
    apply Exists.intro
    refine ⟨fun W hW => ?_, hK _ ?_⟩
    · go_simp
      first | done | rfl | exact ⟨rfl, rfl⟩
    clear hK K
    refine wpQuiet_step (fun K hK => ?_)
    go_simp
    apply Exists.intro
    refine ⟨fun W hW => ?_, hK _ ?_⟩
    · go_simp
      first | done | rfl | exact ⟨rfl, rfl⟩
    clear hK K
    refine wpQuiet_step (fun K hK => ?_)
    go_simp
    apply Exists.intro
    refine ⟨fun W hW => ?_, hK _ ?_⟩
    · go_simp
      exact S2.out W hW
    clear hK K
    refine wpQuiet_step (fun K hK => ?_)
    go_simp
    first
      | (refine hK _ ?_; clear hK K)
      | (apply Exists.intro; refine ⟨fun W hW => ?_, hK _ ?_⟩; (first | done | rfl | exact ⟨rfl, rfl⟩ | (go_simp; first | done | rfl | exact ⟨rfl, rfl⟩)); clear hK K)
    refine wpQuiet_step (fun K hK => ?_)
    go_simp
    first
      | (refine hK _ ?_; clear hK K)
      | (apply Exists.intro; refine ⟨fun W hW => ?_, hK _ ?_⟩; (first | done | rfl | exact ⟨rfl, rfl⟩ | (go_simp; first | done | rfl | exact ⟨rfl, rfl⟩)); clear hK K)
    refine wpQuiet_step (fun K hK => ?_)
    go_simp
    apply Exists.intro
    refine ⟨fun W hW => ?_, hK _ ?_⟩
    · go_simp
      first | done | rfl | exact ⟨rfl, rfl⟩
    clear hK K
    refine wpQuiet_step (fun K hK => ?_)
    go_simp
    apply Exists.intro
    refine ⟨fun W hW => ?_, hK _ ?_⟩
    · go_simp
      first | done | rfl | exact ⟨rfl, rfl⟩
    clear hK K
    refine wpQuiet_step (fun K hK => ?_)
    go_simp
    apply Exists.intro
    refine ⟨fun W hW => ?_, hK _ ?_⟩
    · go_simp
      exact S3.out W hW
    clear hK K
    refine wpQuiet_step (fun K hK => ?_)
    go_simp
    first
      | (refine hK _ ?_; clear hK K)
      | (apply Exists.intro; refine ⟨fun W hW => ?_, hK _ ?_⟩; (first | done | rfl | exact ⟨rfl, rfl⟩ | (go_simp; first | done | rfl | exact ⟨rfl, rfl⟩)); clear hK K)
    refine wpQuiet_step (fun K hK => ?_)
    go_simp
    first
      | (refine hK _ ?_; clear hK K)
      | (apply Exists.intro; refine ⟨fun W hW => ?_, hK _ ?_⟩; (first | done | rfl | exact ⟨rfl, rfl⟩ | (go_simp; first | done | rfl | exact ⟨rfl, rfl⟩)); clear hK K)
    refine wpQuiet_step (fun K hK => ?_)
    go_simp
    apply Exists.intro
    refine ⟨fun W hW => ?_, hK _ ?_⟩
    · go_simp
      exact S4.out W hW
    clear hK K
    refine wpQuiet_step (fun K hK => ?_)
    go_simp
    first
      | (refine hK _ ?_; clear hK K)
      | (apply Exists.intro; refine ⟨fun W hW => ?_, hK _ ?_⟩; (first | done | rfl | exact ⟨rfl, rfl⟩ | (go_simp; first | done | rfl | exact ⟨rfl, rfl⟩)); clear hK K)
    refine wpQuiet_step (fun K hK => ?_)
    go_simp
    first
      | (refine hK _ ?_; clear hK K)
      | (apply Exists.intro; refine ⟨fun W hW => ?_, hK _ ?_⟩; (first | done | rfl | exact ⟨rfl, rfl⟩ | (go_simp; first | done | rfl | exact ⟨rfl, rfl⟩)); clear hK K)
    refine wpQuiet_nil ?_
    intro W hW
    go_wp2
    go_ret
    exact ⟨rfl, H1.out.1.then_ hW⟩
  · have HB := Lib.hid hk
    by_cases h1k : 1 ≤ k
    · have b1 : decide (1 ≤ k) = true := by simp [h1k]
      have b2 : decide (k ≤ 5) = false := by simp; omega
      go_enter Try.func7, Try.ntmps7
      go_wp2_with fail
      refine (textNo_any k (by have := HB.out; omega) _).mono ?_
      rintro e w1 ⟨rfl, hw1⟩
      have hk1 : Keeps w w1 [] := hw1 ▸ (Keeps.alloc _ _).then_alloc _
      have r1 : Row w1 w.heap.size 26 #[.int .i64 k1, .int .i64 t1, .int .i64 n1, .slice A1 l1.length c1] := hw1 ▸ ((Row.new w 26 #[.int .i64 k1, .int .i64 t1, .int .i64 n1, .slice A1 l1.length c1]).alloc (.cells #[.int .i64 k2, .int .i64 t2, .int .i64 n2, .slice A2 l2.length c2] 26))
      have r2 : Row w1 (w.heap.size + 1) 26 #[.int .i64 k2, .int .i64 t2, .int .i64 n2, .slice A2 l2.length c2] := hw1 ▸ (World.size_alloc w (.cells #[.int .i64 k1, .int .i64 t1, .int .i64 n1, .slice A1 l1.length c1] 26) ▸ (Row.new (w.alloc (.cells #[.int .i64 k1, .int .i64 t1, .int .i64 n1, .slice A1 l1.length c1] 26)) 26 #[.int .i64 k2, .int .i64 t2, .int .i64 n2, .slice A2 l2.length c2]))
      have H1 := Lib.hid (And.intro hk1 (And.intro r1 r2))
      clear hk1 r1 r2 hw1
      go_wp2_with fail
      have M1 := fun (W : World) (hW : Keeps w1 W []) => (H1.out.2.1.keep hW (by simp)).cell 0
      have M2 := fun (W : World) (hW : Keeps w1 W []) => (H1.out.2.1.keep hW (by simp)).cell 1
      have M3 := fun (W : World) (hW : Keeps w1 W []) => (H1.out.2.1.keep hW (by simp)).cell 2
      have M4 := fun (W : World) (hW : Keeps w1 W []) => (H1.out.2.1.keep hW (by simp)).cell 3
      have N1 := fun (W : World) (hW : Keeps w1 W []) => (H1.out.2.2.keep hW (by simp)).cell 0
      have N2 := fun (W : World) (hW : Keeps w1 W []) => (H1.out.2.2.keep hW (by simp)).cell 1
      have N3 := fun (W : World) (hW : Keeps w1 W []) => (H1.out.2.2.keep hW (by simp)).cell 2
      have N4 := fun (W : World) (hW : Keeps w1 W []) => (H1.out.2.2.keep hW (by simp)).cell 3
      have LL1 := Lib.hid (show ∀ W, Keeps w1 W [] → Lies W W.heap.size A1 (l1.map byteV) from fun W hW => (HL1.out.below ((H1.out.1.then_ hW).below (Nat.le_refl _) (by simp))).mono (H1.out.1.then_ hW).size)
      have LL2 := Lib.hid (show ∀ W, Keeps w1 W [] → Lies W W.heap.size A2 (l2.map byteV) from fun W hW => (HL2.out.below ((H1.out.1.then_ hW).below (Nat.le_refl _) (by simp))).mono (H1.out.1.then_ hW).size)
      have S1 := Lib.hid (show ∀ W, Keeps w1 W [] → Calls Try.prog 22 #[.agg #[.int .i64 k1, .int .i64 t1, .int .i64 n1, .slice A1 l1.length c1], .agg #[.int .i64 k2, .int .i64 t2, .int .i64 n2, .slice A2 l2.length c2]] W fun e w' => e = .returned (.bool S) ∧ Keeps w1 w' [] from fun W hW => (same_any W k1 t1 n1 A1 c1 l1 k2 t2 n2 A2 c2 l2 (LL1.out W hW) (LL2.out W hW)).mono (by rintro e w2 ⟨rfl, hk⟩; exact ⟨by rw [HS.out], hW.then_ hk⟩))
      have S2 := Lib.hid (show ∀ W, Keeps w1 W [] → Calls Try.prog 16 #[.agg #[.int .i64 k1, .int .i64 t1, .int .i64 n1, .slice A1 l1.length c1], .agg #[.int .i64 k2, .int .i64 t2, .int .i64 n2, .slice A2 l2.length c2]] W fun e w' => e = .returned (.bool S) ∧ Keeps w1 w' [] from fun W hW => (refSame_any W k1 t1 n1 A1 c1 l1 k2 t2 n2 A2 c2 l2 (LL1.out W hW) (LL2.out W hW)).mono (by rintro e w2 ⟨rfl, hk⟩; exact ⟨by rw [HS.out], hW.then_ hk⟩))
      have S3 := Lib.hid (show ∀ W, Keeps w1 W [] → Calls Try.prog 22 #[.agg #[.int .i64 k1, .int .i64 t1, .int .i64 n1, .slice A1 l1.length c1], .agg #[.int .i64 k1, .int .i64 t1, .int .i64 n1, .slice A1 l1.length c1]] W fun e w' => e = .returned (.bool true) ∧ Keeps w1 w' [] from fun W hW => (same_any W k1 t1 n1 A1 c1 l1 k1 t1 n1 A1 c1 l1 (LL1.out W hW) (LL1.out W hW)).mono (by rintro e w2 ⟨rfl, hk⟩; exact ⟨by rw [samePg_iff.2 ⟨rfl, rfl, rfl, rfl⟩], hW.then_ hk⟩))
      have S4 := Lib.hid (show ∀ W, Keeps w1 W [] → Calls Try.prog 13 #[] W fun e w' => e = .returned (.bool true) ∧ Keeps w1 w' [] from fun W hW => (known4_any W).mono (by rintro e w2 ⟨rfl, hk⟩; exact ⟨rfl, hW.then_ hk⟩))
      have ss : (S == S) = true := by simp
      refine wp_region_mild (fun W => Keeps w1 W []) (by kernel_rfl) (by kernel_rfl) (Keeps.drew _) ?_
      refine wpQuiet_step (fun K hK => ?_)
      go_simp
      apply Exists.intro
      refine ⟨fun W hW => ?_, hK _ ?_⟩
      · go_simp
        first | done | rfl | exact ⟨rfl, rfl⟩
      clear hK K
      refine wpQuiet_step (fun K hK => ?_)
      go_simp
      apply Exists.intro
      refine ⟨fun W hW => ?_, hK _ ?_⟩
      · go_simp
        first | done | rfl | exact ⟨rfl, rfl⟩
      clear hK K
      refine wpQuiet_step (fun K hK => ?_)
      go_simp
      apply Exists.intro
      refine ⟨fun W hW => ?_, hK _ ?_⟩
      · go_simp
        exact S1.out W hW
      clear hK K
      refine wpQuiet_step (fun K hK => ?_)
      go_simp
      apply Exists.intro
      refine ⟨fun W hW => ?_, hK _ ?_⟩
      · go_simp
        first | done | rfl | exact ⟨rfl, rfl⟩
      clear hK K
      refine wpQuiet_step (fun K hK => ?_)
      go_simp
      apply Exists.intro
      refine ⟨fun W hW => ?_, hK _ ?_⟩
      · go_simp
        first | done | rfl | exact ⟨rfl, rfl⟩
      clear hK K
      refine wpQuiet_step (fun K hK => ?_)
      go_simp
      apply Exists.intro
      refine ⟨fun W hW => ?_, hK _ ?_⟩
      · go_simp
        exact S2.out W hW
      clear hK K
      refine wpQuiet_step (fun K hK => ?_)
      go_simp
      first
        | (refine hK _ ?_; clear hK K)
        | (apply Exists.intro; refine ⟨fun W hW => ?_, hK _ ?_⟩; (first | done | rfl | exact ⟨rfl, rfl⟩ | (go_simp; first | done | rfl | exact ⟨rfl, rfl⟩)); clear hK K)
      refine wpQuiet_step (fun K hK => ?_)
      go_simp
      first
        | (refine hK _ ?_; clear hK K)
        | (apply Exists.intro; refine ⟨fun W hW => ?_, hK _ ?_⟩; (first | done | rfl | exact ⟨rfl, rfl⟩ | (go_simp; first | done | rfl | exact ⟨rfl, rfl⟩)); clear hK K)
      refine wpQuiet_step (fun K hK => ?_)
      go_simp
      apply Exists.intro
      refine ⟨fun W hW => ?_, hK _ ?_⟩
      · go_simp
        first | done | rfl | exact ⟨rfl, rfl⟩
      clear hK K
      refine wpQuiet_step (fun K hK => ?_)
      go_simp
      apply Exists.intro
      refine ⟨fun W hW => ?_, hK _ ?_⟩
      · go_simp
        first | done | rfl | exact ⟨rfl, rfl⟩
      clear hK K
      refine wpQuiet_step (fun K hK => ?_)
      go_simp
      apply Exists.intro
      refine ⟨fun W hW => ?_, hK _ ?_⟩
      · go_simp
        exact S3.out W hW
      clear hK K
      refine wpQuiet_step (fun K hK => ?_)
      go_simp
      first
        | (refine hK _ ?_; clear hK K)
        | (apply Exists.intro; refine ⟨fun W hW => ?_, hK _ ?_⟩; (first | done | rfl | exact ⟨rfl, rfl⟩ | (go_simp; first | done | rfl | exact ⟨rfl, rfl⟩)); clear hK K)
      refine wpQuiet_step (fun K hK => ?_)
      go_simp
      first
        | (refine hK _ ?_; clear hK K)
        | (apply Exists.intro; refine ⟨fun W hW => ?_, hK _ ?_⟩; (first | done | rfl | exact ⟨rfl, rfl⟩ | (go_simp; first | done | rfl | exact ⟨rfl, rfl⟩)); clear hK K)
      refine wpQuiet_step (fun K hK => ?_)
      go_simp
      apply Exists.intro
      refine ⟨fun W hW => ?_, hK _ ?_⟩
      · go_simp
        exact S4.out W hW
      clear hK K
      refine wpQuiet_step (fun K hK => ?_)
      go_simp
      first
        | (refine hK _ ?_; clear hK K)
        | (apply Exists.intro; refine ⟨fun W hW => ?_, hK _ ?_⟩; (first | done | rfl | exact ⟨rfl, rfl⟩ | (go_simp; first | done | rfl | exact ⟨rfl, rfl⟩)); clear hK K)
      refine wpQuiet_step (fun K hK => ?_)
      go_simp
      first
        | (refine hK _ ?_; clear hK K)
        | (apply Exists.intro; refine ⟨fun W hW => ?_, hK _ ?_⟩; (first | done | rfl | exact ⟨rfl, rfl⟩ | (go_simp; first | done | rfl | exact ⟨rfl, rfl⟩)); clear hK K)
      refine wpQuiet_nil ?_
      intro W hW
      go_wp2
      go_ret
      exact ⟨rfl, H1.out.1.then_ hW⟩
    · have b1 : decide (1 ≤ k) = false := by simpa using h1k
      go_enter Try.func7, Try.ntmps7
      go_wp2_with fail
      refine (textNo_any k (by have := HB.out; omega) _).mono ?_
      rintro e w1 ⟨rfl, hw1⟩
      have hk1 : Keeps w w1 [] := hw1 ▸ (Keeps.alloc _ _).then_alloc _
      have r1 : Row w1 w.heap.size 26 #[.int .i64 k1, .int .i64 t1, .int .i64 n1, .slice A1 l1.length c1] := hw1 ▸ ((Row.new w 26 #[.int .i64 k1, .int .i64 t1, .int .i64 n1, .slice A1 l1.length c1]).alloc (.cells #[.int .i64 k2, .int .i64 t2, .int .i64 n2, .slice A2 l2.length c2] 26))
      have r2 : Row w1 (w.heap.size + 1) 26 #[.int .i64 k2, .int .i64 t2, .int .i64 n2, .slice A2 l2.length c2] := hw1 ▸ (World.size_alloc w (.cells #[.int .i64 k1, .int .i64 t1, .int .i64 n1, .slice A1 l1.length c1] 26) ▸ (Row.new (w.alloc (.cells #[.int .i64 k1, .int .i64 t1, .int .i64 n1, .slice A1 l1.length c1] 26)) 26 #[.int .i64 k2, .int .i64 t2, .int .i64 n2, .slice A2 l2.length c2]))
      have H1 := Lib.hid (And.intro hk1 (And.intro r1 r2))
      clear hk1 r1 r2 hw1
      go_wp2_with fail
      have M1 := fun (W : World) (hW : Keeps w1 W []) => (H1.out.2.1.keep hW (by simp)).cell 0
      have M2 := fun (W : World) (hW : Keeps w1 W []) => (H1.out.2.1.keep hW (by simp)).cell 1
      have M3 := fun (W : World) (hW : Keeps w1 W []) => (H1.out.2.1.keep hW (by simp)).cell 2
      have M4 := fun (W : World) (hW : Keeps w1 W []) => (H1.out.2.1.keep hW (by simp)).cell 3
      have N1 := fun (W : World) (hW : Keeps w1 W []) => (H1.out.2.2.keep hW (by simp)).cell 0
      have N2 := fun (W : World) (hW : Keeps w1 W []) => (H1.out.2.2.keep hW (by simp)).cell 1
      have N3 := fun (W : World) (hW : Keeps w1 W []) => (H1.out.2.2.keep hW (by simp)).cell 2
      have N4 := fun (W : World) (hW : Keeps w1 W []) => (H1.out.2.2.keep hW (by simp)).cell 3
      have LL1 := Lib.hid (show ∀ W, Keeps w1 W [] → Lies W W.heap.size A1 (l1.map byteV) from fun W hW => (HL1.out.below ((H1.out.1.then_ hW).below (Nat.le_refl _) (by simp))).mono (H1.out.1.then_ hW).size)
      have LL2 := Lib.hid (show ∀ W, Keeps w1 W [] → Lies W W.heap.size A2 (l2.map byteV) from fun W hW => (HL2.out.below ((H1.out.1.then_ hW).below (Nat.le_refl _) (by simp))).mono (H1.out.1.then_ hW).size)
      have S1 := Lib.hid (show ∀ W, Keeps w1 W [] → Calls Try.prog 22 #[.agg #[.int .i64 k1, .int .i64 t1, .int .i64 n1, .slice A1 l1.length c1], .agg #[.int .i64 k2, .int .i64 t2, .int .i64 n2, .slice A2 l2.length c2]] W fun e w' => e = .returned (.bool S) ∧ Keeps w1 w' [] from fun W hW => (same_any W k1 t1 n1 A1 c1 l1 k2 t2 n2 A2 c2 l2 (LL1.out W hW) (LL2.out W hW)).mono (by rintro e w2 ⟨rfl, hk⟩; exact ⟨by rw [HS.out], hW.then_ hk⟩))
      have S2 := Lib.hid (show ∀ W, Keeps w1 W [] → Calls Try.prog 16 #[.agg #[.int .i64 k1, .int .i64 t1, .int .i64 n1, .slice A1 l1.length c1], .agg #[.int .i64 k2, .int .i64 t2, .int .i64 n2, .slice A2 l2.length c2]] W fun e w' => e = .returned (.bool S) ∧ Keeps w1 w' [] from fun W hW => (refSame_any W k1 t1 n1 A1 c1 l1 k2 t2 n2 A2 c2 l2 (LL1.out W hW) (LL2.out W hW)).mono (by rintro e w2 ⟨rfl, hk⟩; exact ⟨by rw [HS.out], hW.then_ hk⟩))
      have S3 := Lib.hid (show ∀ W, Keeps w1 W [] → Calls Try.prog 22 #[.agg #[.int .i64 k1, .int .i64 t1, .int .i64 n1, .slice A1 l1.length c1], .agg #[.int .i64 k1, .int .i64 t1, .int .i64 n1, .slice A1 l1.length c1]] W fun e w' => e = .returned (.bool true) ∧ Keeps w1 w' [] from fun W hW => (same_any W k1 t1 n1 A1 c1 l1 k1 t1 n1 A1 c1 l1 (LL1.out W hW) (LL1.out W hW)).mono (by rintro e w2 ⟨rfl, hk⟩; exact ⟨by rw [samePg_iff.2 ⟨rfl, rfl, rfl, rfl⟩], hW.then_ hk⟩))
      have S4 := Lib.hid (show ∀ W, Keeps w1 W [] → Calls Try.prog 13 #[] W fun e w' => e = .returned (.bool true) ∧ Keeps w1 w' [] from fun W hW => (known4_any W).mono (by rintro e w2 ⟨rfl, hk⟩; exact ⟨rfl, hW.then_ hk⟩))
      have ss : (S == S) = true := by simp
      refine wp_region_mild (fun W => Keeps w1 W []) (by kernel_rfl) (by kernel_rfl) (Keeps.drew _) ?_
      refine wpQuiet_step (fun K hK => ?_)
      go_simp
      apply Exists.intro
      refine ⟨fun W hW => ?_, hK _ ?_⟩
      · go_simp
        first | done | rfl | exact ⟨rfl, rfl⟩
      clear hK K
      refine wpQuiet_step (fun K hK => ?_)
      go_simp
      apply Exists.intro
      refine ⟨fun W hW => ?_, hK _ ?_⟩
      · go_simp
        first | done | rfl | exact ⟨rfl, rfl⟩
      clear hK K
      refine wpQuiet_step (fun K hK => ?_)
      go_simp
      apply Exists.intro
      refine ⟨fun W hW => ?_, hK _ ?_⟩
      · go_simp
        exact S1.out W hW
      clear hK K
      refine wpQuiet_step (fun K hK => ?_)
      go_simp
      apply Exists.intro
      refine ⟨fun W hW => ?_, hK _ ?_⟩
      · go_simp
        first | done | rfl | exact ⟨rfl, rfl⟩
      clear hK K
      refine wpQuiet_step (fun K hK => ?_)
      go_simp
      apply Exists.intro
      refine ⟨fun W hW => ?_, hK _ ?_⟩
      · go_simp
        first | done | rfl | exact ⟨rfl, rfl⟩
      clear hK K
      refine wpQuiet_step (fun K hK => ?_)
      go_simp
      apply Exists.intro
      refine ⟨fun W hW => ?_, hK _ ?_⟩
      · go_simp
        exact S2.out W hW
      clear hK K
      refine wpQuiet_step (fun K hK => ?_)
      go_simp
      first
        | (refine hK _ ?_; clear hK K)
        | (apply Exists.intro; refine ⟨fun W hW => ?_, hK _ ?_⟩; (first | done | rfl | exact ⟨rfl, rfl⟩ | (go_simp; first | done | rfl | exact ⟨rfl, rfl⟩)); clear hK K)
      refine wpQuiet_step (fun K hK => ?_)
      go_simp
      first
        | (refine hK _ ?_; clear hK K)
        | (apply Exists.intro; refine ⟨fun W hW => ?_, hK _ ?_⟩; (first | done | rfl | exact ⟨rfl, rfl⟩ | (go_simp; first | done | rfl | exact ⟨rfl, rfl⟩)); clear hK K)
      refine wpQuiet_step (fun K hK => ?_)
      go_simp
      apply Exists.intro
      refine ⟨fun W hW => ?_, hK _ ?_⟩
      · go_simp
        first | done | rfl | exact ⟨rfl, rfl⟩
      clear hK K
      refine wpQuiet_step (fun K hK => ?_)
      go_simp
      apply Exists.intro
      refine ⟨fun W hW => ?_, hK _ ?_⟩
      · go_simp
        first | done | rfl | exact ⟨rfl, rfl⟩
      clear hK K
      refine wpQuiet_step (fun K hK => ?_)
      go_simp
      apply Exists.intro
      refine ⟨fun W hW => ?_, hK _ ?_⟩
      · go_simp
        exact S3.out W hW
      clear hK K
      refine wpQuiet_step (fun K hK => ?_)
      go_simp
      first
        | (refine hK _ ?_; clear hK K)
        | (apply Exists.intro; refine ⟨fun W hW => ?_, hK _ ?_⟩; (first | done | rfl | exact ⟨rfl, rfl⟩ | (go_simp; first | done | rfl | exact ⟨rfl, rfl⟩)); clear hK K)
      refine wpQuiet_step (fun K hK => ?_)
      go_simp
      first
        | (refine hK _ ?_; clear hK K)
        | (apply Exists.intro; refine ⟨fun W hW => ?_, hK _ ?_⟩; (first | done | rfl | exact ⟨rfl, rfl⟩ | (go_simp; first | done | rfl | exact ⟨rfl, rfl⟩)); clear hK K)
      refine wpQuiet_step (fun K hK => ?_)
      go_simp
      apply Exists.intro
      refine ⟨fun W hW => ?_, hK _ ?_⟩
      · go_simp
        exact S4.out W hW
      clear hK K
      refine wpQuiet_step (fun K hK => ?_)
      go_simp
      first
        | (refine hK _ ?_; clear hK K)
        | (apply Exists.intro; refine ⟨fun W hW => ?_, hK _ ?_⟩; (first | done | rfl | exact ⟨rfl, rfl⟩ | (go_simp; first | done | rfl | exact ⟨rfl, rfl⟩)); clear hK K)
      refine wpQuiet_step (fun K hK => ?_)
      go_simp
      first
        | (refine hK _ ?_; clear hK K)
        | (apply Exists.intro; refine ⟨fun W hW => ?_, hK _ ?_⟩; (first | done | rfl | exact ⟨rfl, rfl⟩ | (go_simp; first | done | rfl | exact ⟨rfl, rfl⟩)); clear hK K)
      refine wpQuiet_nil ?_
      intro W hW
      go_wp2
      go_ret
      exact ⟨rfl, H1.out.1.then_ hW⟩
theorem pageSame_came (w : World) (k1 t1 n1 : Int) (A1 : Option Addr) (c1 : Nat) (l1 : List UInt8) (k2 t2 n2 : Int) (A2 : Option Addr) (c2 : Nat) (l2 : List UInt8) (k : Int)
    (hB1 : Came w A1 c1 l1) (hB2 : Came w A2 c2 l2) :
    Calls Try.prog 7 #[.agg #[.int .i64 k1, .int .i64 t1, .int .i64 n1, .slice A1 l1.length c1], .agg #[.int .i64 k2, .int .i64 t2, .int .i64 n2, .slice A2 l2.length c2], .int .i64 k] w fun e w' => e = .returned (.bool true) ∧ Keeps w w' [] := by
  by_cases h : l1.length ≤ 300 ∧ l2.length ≤ 300
  · exact pageSame_short w k1 t1 n1 A1 c1 l1 k2 t2 n2 A2 c2 l2 k hB1.2.2.2 hB2.2.2.2 h.1 h.2
  · exact pageSame_long w k1 t1 n1 A1 l1.length c1 k2 t2 n2 A2 l2.length c2 k (by omega) hB1.small hB2.small
end Go.Proofs.Ythepcoifcoinoaa
