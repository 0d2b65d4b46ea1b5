/- The statement PageRaws (layer 4): the walk where the body is too long, or the page or the number may not be. -/
import Derived.Test.YthepcoifcoinoaaLawRaws
namespace Go.Proofs.Ythepcoifcoinoaa
open Go.RowKit

set_option maxRecDepth 100000 in
set_option maxHeartbeats 2000000 in
theorem pageRaws_long (w : World) (m k t n : Int) (A : Option Addr) (len c : Nat) (h : 300 < len) (hm : len ≤ 9223372036854775807) :
    Calls Try.prog 6 #[.int .i64 m, .agg #[.int .i64 k, .int .i64 t, .int .i64 n, .slice A len c]] w fun e w' => e = .returned (.bool true) ∧ Keeps w w' [] := by
  have d1 : decide ((300 : Int) < (len : Int)) = true := by simp; omega
  clear h
  go_enter Try.func6, Try.ntmps6
  go_wp2_with fail
  refine (known4_any _).mono ?_
  rintro e w1 ⟨rfl, hk1⟩
  have H := Lib.hid ((Keeps.alloc _ _).then_ hk1)
  clear hk1
  go_wp2
  go_ret
  exact ⟨rfl, H.out⟩

set_option maxRecDepth 100000 in
set_option maxHeartbeats 4000000 in
theorem pageRaws_no (w : World) (m k t n : Int) (A : Option Addr) (len c : Nat) (h300 : len ≤ 300) (hno : (pageOk k t n len && withinB m 0 4095) = false) :
    Calls Try.prog 6 #[.int .i64 m, .agg #[.int .i64 k, .int .i64 t, .int .i64 n, .slice A len c]] w fun e w' => e = .returned (.bool true) ∧ Keeps w w' [] := by
  have d1 : decide ((300 : Int) < (len : Int)) = false := by simp; omega
  have HN := Lib.hid hno
  cases hok : pageOk k t n len
  · have HOK := Lib.hid hok
    clear hno hok
    go_enter Try.func6, Try.ntmps6
    go_wp2_with fail
    refine (rawNo_any _ m k t n A len c (by omega) HN.out).mono ?_
    rintro e w1 ⟨rfl, hk1⟩
    have r1 := (Row.new w 26 #[.int .i64 k, .int .i64 t, .int .i64 n, .slice A len c]).keep hk1 (by simp)
    have H1 := Lib.hid (And.intro ((Keeps.alloc _ _).then_ hk1) r1)
    clear hk1 r1
    go_wp2_with fail
    have M1 := fun (W : World) (hW : Keeps w1 W []) => (H1.out.2.keep hW (by simp)).cell 0
    have M2 := fun (W : World) (hW : Keeps w1 W []) => (H1.out.2.keep hW (by simp)).cell 1
    have M3 := fun (W : World) (hW : Keeps w1 W []) => (H1.out.2.keep hW (by simp)).cell 2
    have M4 := fun (W : World) (hW : Keeps w1 W []) => (H1.out.2.keep hW (by simp)).cell 3
    have CH := Lib.hid (show ∀ W, Keeps w1 W [] → Calls Try.prog 19 #[.agg #[.int .i64 k, .int .i64 t, .int .i64 n, .slice A len c]] W fun e w' => e = .returned (.int .i64 2) ∧ Keeps w1 w' [] from fun W hW => (checkNo_any k t n A len c (by omega) HOK.out W).mono (by rintro e w2 ⟨rfl, hk⟩; exact ⟨rfl, hW.then_ hk⟩))
    have RI := Lib.hid (show ∀ W, Keeps w1 W [] → Calls Try.prog 20 #[.agg #[.int .i64 k, .int .i64 t, .int .i64 n, .slice A len c]] W fun e w' => e = .returned (.bool false) ∧ Keeps w1 w' [] from fun W hW => (right_any k t n A len c (by omega) W).mono (by rintro e w2 ⟨rfl, hk⟩; exact ⟨by rw [HOK.out], hW.then_ hk⟩))
    refine wp_region_mild (fun W => Keeps w1 W []) (by kernel_rfl) (by kernel_rfl) (Keeps.drew _) ?_
    refine wpQuiet_step (fun K hK => ?_)
    go_simp
    apply Exists.intro
    refine ⟨fun W hW => ?_, hK _ ?_⟩
    · go_simp
      first | done | rfl | exact ⟨rfl, rfl⟩
    clear hK K
    refine wpQuiet_step (fun K hK => ?_)
    go_simp
    apply Exists.intro
    refine ⟨fun W hW => ?_, hK _ ?_⟩
    · go_simp
      exact CH.out W hW
    clear hK K
    refine wpQuiet_step (fun K hK => ?_)
    go_simp
    first
      | (refine hK _ ?_; clear hK K)
      | (apply Exists.intro; refine ⟨fun W hW => ?_, hK _ ?_⟩; (first | done | rfl | exact ⟨rfl, rfl⟩ | (go_simp; first | done | rfl | exact ⟨rfl, rfl⟩)); clear hK K)
    refine wpQuiet_step (fun K hK => ?_)
    go_simp
    apply Exists.intro
    refine ⟨fun W hW => ?_, hK _ ?_⟩
    · go_simp
      first | done | rfl | exact ⟨rfl, rfl⟩
    clear hK K
    refine wpQuiet_step (fun K hK => ?_)
    go_simp
    apply Exists.intro
    refine ⟨fun W hW => ?_, hK _ ?_⟩
    · go_simp
      exact RI.out W hW
    clear hK K
    refine wpQuiet_step (fun K hK => ?_)
    go_simp
    first
      | (refine hK _ ?_; clear hK K)
      | (apply Exists.intro; refine ⟨fun W hW => ?_, hK _ ?_⟩; (first | done | rfl | exact ⟨rfl, rfl⟩ | (go_simp; first | done | rfl | exact ⟨rfl, rfl⟩)); clear hK K)
    refine wpQuiet_nil ?_
    intro W hW
    have r2 := H1.out.2.keep hW (by simp)
    have c0 := r2.cell 0
    have c1 := r2.cell 1
    have c2 := r2.cell 2
    have c3 := r2.cell 3
    simp only [List.getElem?_toArray, List.getElem?_cons_zero, List.getElem?_cons_succ] at c0 c1 c2 c3
    clear r2 M1 M2 M3 M4
    have HW := Lib.hid hW
    clear hW
    go_wp2_with fail
    refine (RI.out W HW.out).mono ?_
    rintro e w2 ⟨rfl, hk2⟩
    have H2 := Lib.hid (H1.out.1.then_ hk2)
    clear hk2 c0 c1 c2 c3
    go_wp2_with fail
    refine (known4_any _).mono ?_
    rintro e w3 ⟨rfl, hk3⟩
    have H3 := Lib.hid (H2.out.then_ hk3)
    clear hk3
    go_wp2
    go_ret
    exact ⟨rfl, H3.out⟩
  · have HOK := Lib.hid hok
    rw [hok, Bool.true_and] at hno
    by_cases hm : m < 0
    · have d2 : decide (m < 0) = true := by simp; omega
      clear hno hok hm
      go_enter Try.func6, Try.ntmps6
      go_wp2_with fail
      refine (rawNo_any _ m k t n A len c (by omega) HN.out).mono ?_
      rintro e w1 ⟨rfl, hk1⟩
      have r1 := (Row.new w 26 #[.int .i64 k, .int .i64 t, .int .i64 n, .slice A len c]).keep hk1 (by simp)
      have H1 := Lib.hid (And.intro ((Keeps.alloc _ _).then_ hk1) r1)
      clear hk1 r1
      go_wp2_with fail
      have M1 := fun (W : World) (hW : Keeps w1 W []) => (H1.out.2.keep hW (by simp)).cell 0
      have M2 := fun (W : World) (hW : Keeps w1 W []) => (H1.out.2.keep hW (by simp)).cell 1
      have M3 := fun (W : World) (hW : Keeps w1 W []) => (H1.out.2.keep hW (by simp)).cell 2
      have M4 := fun (W : World) (hW : Keeps w1 W []) => (H1.out.2.keep hW (by simp)).cell 3
      have CH := Lib.hid (show ∀ W, Keeps w1 W [] → Calls Try.prog 19 #[.agg #[.int .i64 k, .int .i64 t, .int .i64 n, .slice A len c]] W fun e w' => e = .returned (.int .i64 0) ∧ Keeps w1 w' [] from fun W hW => (checkYes_any k t n A len c HOK.out W).mono (by rintro e w2 ⟨rfl, hk⟩; exact ⟨rfl, hW.then_ hk⟩))
      have RI := Lib.hid (show ∀ W, Keeps w1 W [] → Calls Try.prog 20 #[.agg #[.int .i64 k, .int .i64 t, .int .i64 n, .slice A len c]] W fun e w' => e = .returned (.bool true) ∧ Keeps w1 w' [] from fun W hW => (right_any k t n A len c (by omega) W).mono (by rintro e w2 ⟨rfl, hk⟩; exact ⟨by rw [HOK.out], hW.then_ hk⟩))
      refine wp_region_mild (fun W => Keeps w1 W []) (by kernel_rfl) (by kernel_rfl) (Keeps.drew _) ?_
      refine wpQuiet_step (fun K hK => ?_)
      go_simp
      apply Exists.intro
      refine ⟨fun W hW => ?_, hK _ ?_⟩
      · go_simp
        first | done | rfl | exact ⟨rfl, rfl⟩
      clear hK K
      refine wpQuiet_step (fun K hK => ?_)
      go_simp
      apply Exists.intro
      refine ⟨fun W hW => ?_, hK _ ?_⟩
      · go_simp
        exact CH.out W hW
      clear hK K
      refine wpQuiet_step (fun K hK => ?_)
      go_simp
      first
        | (refine hK _ ?_; clear hK K)
        | (apply Exists.intro; refine ⟨fun W hW => ?_, hK _ ?_⟩; (first | done | rfl | exact ⟨rfl, rfl⟩ | (go_simp; first | done | rfl | exact ⟨rfl, rfl⟩)); clear hK K)
      refine wpQuiet_step (fun K hK => ?_)
      go_simp
      apply Exists.intro
      refine ⟨fun W hW => ?_, hK _ ?_⟩
      · go_simp
        first | done | rfl | exact ⟨rfl, rfl⟩
      clear hK K
      refine wpQuiet_step (fun K hK => ?_)
      go_simp
      apply Exists.intro
      refine ⟨fun W hW => ?_, hK _ ?_⟩
      · go_simp
        exact RI.out W hW
      clear hK K
      refine wpQuiet_step (fun K hK => ?_)
      go_simp
      first
        | (refine hK _ ?_; clear hK K)
        | (apply Exists.intro; refine ⟨fun W hW => ?_, hK _ ?_⟩; (first | done | rfl | exact ⟨rfl, rfl⟩ | (go_simp; first | done | rfl | exact ⟨rfl, rfl⟩)); clear hK K)
      refine wpQuiet_nil ?_
      intro W hW
      have r2 := H1.out.2.keep hW (by simp)
      have c0 := r2.cell 0
      have c1 := r2.cell 1
      have c2 := r2.cell 2
      have c3 := r2.cell 3
      simp only [List.getElem?_toArray, List.getElem?_cons_zero, List.getElem?_cons_succ] at c0 c1 c2 c3
      clear r2 M1 M2 M3 M4
      have HW := Lib.hid hW
      clear hW
      go_wp2_with fail
      refine (RI.out W HW.out).mono ?_
      rintro e w2 ⟨rfl, hk2⟩
      have H2 := Lib.hid (H1.out.1.then_ hk2)
      clear hk2 c0 c1 c2 c3
      go_wp2_with fail
      refine (known4_any _).mono ?_
      rintro e w3 ⟨rfl, hk3⟩
      have H3 := Lib.hid (H2.out.then_ hk3)
      clear hk3
      go_wp2
      go_ret
      exact ⟨rfl, H3.out⟩
    · have d2 : decide (m < 0) = false := by simp; omega
      have d3 : decide (4095 < m) = true := by
        simp [withinB] at hno
        simp; omega
      clear hno hok hm
      go_enter Try.func6, Try.ntmps6
      go_wp2_with fail
      refine (rawNo_any _ m k t n A len c (by omega) HN.out).mono ?_
      rintro e w1 ⟨rfl, hk1⟩
      have r1 := (Row.new w 26 #[.int .i64 k, .int .i64 t, .int .i64 n, .slice A len c]).keep hk1 (by simp)
      have H1 := Lib.hid (And.intro ((Keeps.alloc _ _).then_ hk1) r1)
      clear hk1 r1
      go_wp2_with fail
      have M1 := fun (W : World) (hW : Keeps w1 W []) => (H1.out.2.keep hW (by simp)).cell 0
      have M2 := fun (W : World) (hW : Keeps w1 W []) => (H1.out.2.keep hW (by simp)).cell 1
      have M3 := fun (W : World) (hW : Keeps w1 W []) => (H1.out.2.keep hW (by simp)).cell 2
      have M4 := fun (W : World) (hW : Keeps w1 W []) => (H1.out.2.keep hW (by simp)).cell 3
      have CH := Lib.hid (show ∀ W, Keeps w1 W [] → Calls Try.prog 19 #[.agg #[.int .i64 k, .int .i64 t, .int .i64 n, .slice A len c]] W fun e w' => e = .returned (.int .i64 0) ∧ Keeps w1 w' [] from fun W hW => (checkYes_any k t n A len c HOK.out W).mono (by rintro e w2 ⟨rfl, hk⟩; exact ⟨rfl, hW.then_ hk⟩))
      have RI := Lib.hid (show ∀ W, Keeps w1 W [] → Calls Try.prog 20 #[.agg #[.int .i64 k, .int .i64 t, .int .i64 n, .slice A len c]] W fun e w' => e = .returned (.bool true) ∧ Keeps w1 w' [] from fun W hW => (right_any k t n A len c (by omega) W).mono (by rintro e w2 ⟨rfl, hk⟩; exact ⟨by rw [HOK.out], hW.then_ hk⟩))
      refine wp_region_mild (fun W => Keeps w1 W []) (by kernel_rfl) (by kernel_rfl) (Keeps.drew _) ?_
      refine wpQuiet_step (fun K hK => ?_)
      go_simp
      apply Exists.intro
      refine ⟨fun W hW => ?_, hK _ ?_⟩
      · go_simp
        first | done | rfl | exact ⟨rfl, rfl⟩
      clear hK K
      refine wpQuiet_step (fun K hK => ?_)
      go_simp
      apply Exists.intro
      refine ⟨fun W hW => ?_, hK _ ?_⟩
      · go_simp
        exact CH.out W hW
      clear hK K
      refine wpQuiet_step (fun K hK => ?_)
      go_simp
      first
        | (refine hK _ ?_; clear hK K)
        | (apply Exists.intro; refine ⟨fun W hW => ?_, hK _ ?_⟩; (first | done | rfl | exact ⟨rfl, rfl⟩ | (go_simp; first | done | rfl | exact ⟨rfl, rfl⟩)); clear hK K)
      refine wpQuiet_step (fun K hK => ?_)
      go_simp
      apply Exists.intro
      refine ⟨fun W hW => ?_, hK _ ?_⟩
      · go_simp
        first | done | rfl | exact ⟨rfl, rfl⟩
      clear hK K
      refine wpQuiet_step (fun K hK => ?_)
      go_simp
      apply Exists.intro
      refine ⟨fun W hW => ?_, hK _ ?_⟩
      · go_simp
        exact RI.out W hW
      clear hK K
      refine wpQuiet_step (fun K hK => ?_)
      go_simp
      first
        | (refine hK _ ?_; clear hK K)
        | (apply Exists.intro; refine ⟨fun W hW => ?_, hK _ ?_⟩; (first | done | rfl | exact ⟨rfl, rfl⟩ | (go_simp; first | done | rfl | exact ⟨rfl, rfl⟩)); clear hK K)
      refine wpQuiet_nil ?_
      intro W hW
      have r2 := H1.out.2.keep hW (by simp)
      have c0 := r2.cell 0
      have c1 := r2.cell 1
      have c2 := r2.cell 2
      have c3 := r2.cell 3
      simp only [List.getElem?_toArray, List.getElem?_cons_zero, List.getElem?_cons_succ] at c0 c1 c2 c3
      clear r2 M1 M2 M3 M4
      have HW := Lib.hid hW
      clear hW
      go_wp2_with fail
      refine (RI.out W HW.out).mono ?_
      rintro e w2 ⟨rfl, hk2⟩
      have H2 := Lib.hid (H1.out.1.then_ hk2)
      clear hk2 c0 c1 c2 c3
      go_wp2_with fail
      refine (known4_any _).mono ?_
      rintro e w3 ⟨rfl, hk3⟩
      have H3 := Lib.hid (H2.out.then_ hk3)
      clear hk3
      go_wp2
      go_ret
      exact ⟨rfl, H3.out⟩

theorem pageRaws_came (w : World) (m k t n : Int) (A : Option Addr) (c : Nat) (l : List UInt8) (hC : Came w A c l) :
    Calls Try.prog 6 #[.int .i64 m, .agg #[.int .i64 k, .int .i64 t, .int .i64 n, .slice A l.length c]] w fun e w' => e = .returned (.bool true) ∧ Keeps w w' [] := by
  by_cases h : l.length ≤ 300
  · cases hok : (pageOk k t n l.length && withinB m 0 4095)
    · exact pageRaws_no w m k t n A l.length c h hok
    · obtain ⟨h1, h2⟩ := Bool.and_eq_true_iff.1 hok
      exact pageRaws_yes w m k t n A c l hC h h1 h2
  · exact pageRaws_long w m k t n A l.length c (by omega) hC.small
end Go.Proofs.Ythepcoifcoinoaa
