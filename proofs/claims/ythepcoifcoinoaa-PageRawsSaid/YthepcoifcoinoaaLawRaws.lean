/- The statement PageRaws (layer 4): the walk where the page and the number may be. -/
import Derived.Test.YthepcoifcoinoaaKit4b
namespace Go.Proofs.Ythepcoifcoinoaa
open Go.RowKit

set_option maxRecDepth 100000 in
set_option maxHeartbeats 4000000 in
theorem pageRaws_yes (w : World) (m k t n : Int) (A : Option Addr) (c : Nat) (l : List UInt8) (hC : Came w A c l) (h300 : l.length ≤ 300) (hok : pageOk k t n l.length = true) (hm : withinB m 0 4095 = true) :
    Calls Try.prog 6 #[.int .i64 m, .agg #[.int .i64 k, .int .i64 t, .int .i64 n, .slice A l.length c]] w fun e w' => e = .returned (.bool true) ∧ Keeps w w' [] := by
  have d1 : decide ((300 : Int) < (l.length : Int)) = false := by simp; omega
  have hm' : 0 ≤ m ∧ m ≤ 4095 := by simpa [withinB] using hm
  have d2 : decide (m < 0) = false := by simp; omega
  have d3 : decide (4095 < m) = false := by simp; omega
  have mm : (m == m) = true := by simp
  have HH := Lib.hid (And.intro hC (And.intro hok hm))
  clear hC hok hm hm'
  go_enter Try.func6, Try.ntmps6
  go_wp2_with fail
  refine (raw256 _ m k t n A c l ((HH.out.1.keep (Keeps.alloc _ _)).bytes (by omega)) HH.out.2.1 HH.out.2.2).mono ?_
  rintro e w1 ⟨b, o, c1, rfl, hF, hk1⟩
  have r1 := (Row.new w 26 #[.int .i64 k, .int .i64 t, .int .i64 n, .slice A l.length c]).keep hk1 (by simp)
  have H1 := Lib.hid (And.intro hF (And.intro ((Keeps.alloc _ _).then_ hk1) r1))
  clear hF hk1 r1
  go_wp2_with fail
  have M1 := fun (W : World) (hW : Keeps w1 W []) => (H1.out.2.2.keep hW (by simp)).cell 0
  have M2 := fun (W : World) (hW : Keeps w1 W []) => (H1.out.2.2.keep hW (by simp)).cell 1
  have M3 := fun (W : World) (hW : Keeps w1 W []) => (H1.out.2.2.keep hW (by simp)).cell 2
  have M4 := fun (W : World) (hW : Keeps w1 W []) => (H1.out.2.2.keep hW (by simp)).cell 3
  have CH := Lib.hid (show ∀ W, Keeps w1 W [] → Calls Try.prog 19 #[.agg #[.int .i64 k, .int .i64 t, .int .i64 n, .slice A l.length c]] W fun e w' => e = .returned (.int .i64 0) ∧ Keeps w1 w' [] from fun W hW => (checkYes_any k t n A l.length c HH.out.2.1 W).mono (by rintro e w2 ⟨rfl, hk⟩; exact ⟨rfl, hW.then_ hk⟩))
  have RI := Lib.hid (show ∀ W, Keeps w1 W [] → Calls Try.prog 20 #[.agg #[.int .i64 k, .int .i64 t, .int .i64 n, .slice A l.length c]] W fun e w' => e = .returned (.bool true) ∧ Keeps w1 w' [] from fun W hW => (right_any k t n A l.length c (by omega) W).mono (by rintro e w2 ⟨rfl, hk⟩; exact ⟨by rw [HH.out.2.1], hW.then_ hk⟩))
  refine wp_region_mild (fun W => Keeps w1 W []) (by kernel_rfl) (by kernel_rfl) (Keeps.drew _) ?_
  refine wpQuiet_step (fun K hK => ?_)
  go_simp
  apply Exists.intro
  refine ⟨fun W hW => ?_, hK _ ?_⟩
  · go_simp
    first | done | rfl | exact ⟨rfl, rfl⟩
  clear hK K
  refine wpQuiet_step (fun K hK => ?_)
  go_simp
  apply Exists.intro
  refine ⟨fun W hW => ?_, hK _ ?_⟩
  · go_simp
    exact CH.out W hW
  clear hK K
  refine wpQuiet_step (fun K hK => ?_)
  go_simp
  first
    | (refine hK _ ?_; clear hK K)
    | (apply Exists.intro; refine ⟨fun W hW => ?_, hK _ ?_⟩; (first | done | rfl | exact ⟨rfl, rfl⟩ | (go_simp; first | done | rfl | exact ⟨rfl, rfl⟩)); clear hK K)
  refine wpQuiet_step (fun K hK => ?_)
  go_simp
  apply Exists.intro
  refine ⟨fun W hW => ?_, hK _ ?_⟩
  · go_simp
    first | done | rfl | exact ⟨rfl, rfl⟩
  clear hK K
  refine wpQuiet_step (fun K hK => ?_)
  go_simp
  apply Exists.intro
  refine ⟨fun W hW => ?_, hK _ ?_⟩
  · go_simp
    exact RI.out W hW
  clear hK K
  refine wpQuiet_step (fun K hK => ?_)
  go_simp
  first
    | (refine hK _ ?_; clear hK K)
    | (apply Exists.intro; refine ⟨fun W hW => ?_, hK _ ?_⟩; (first | done | rfl | exact ⟨rfl, rfl⟩ | (go_simp; first | done | rfl | exact ⟨rfl, rfl⟩)); clear hK K)
  refine wpQuiet_nil ?_
  intro W hW
  have r2 := H1.out.2.2.keep hW (by simp)
  have c0 := r2.cell 0
  have c1 := r2.cell 1
  have c2 := r2.cell 2
  have c3 := r2.cell 3
  simp only [List.getElem?_toArray, List.getElem?_cons_zero, List.getElem?_cons_succ] at c0 c1 c2 c3
  clear r2 M1 M2 M3 M4
  have HW := Lib.hid hW
  clear hW
  go_wp2_with fail
  refine (RI.out W HW.out).mono ?_
  rintro e w2 ⟨rfl, hk2⟩
  have H2 := Lib.hid (And.intro (H1.out.1.keep hk2 (by simp)) (And.intro (H1.out.2.1.then_ hk2) (H1.out.2.2.keep hk2 (by simp))))
  clear hk2 c0 c1 c2 c3
  go_wp2_with fail
  refine (parseRaw w2 m _ b o _ m k t n l H2.out.1 HH.out.2.1 HH.out.2.2 rfl).mono ?_
  rintro e w3 ⟨A3, c3, rfl, ho3, hk3⟩
  have H3 := Lib.hid (And.intro (H2.out.1.keep hk3 (by simp)) (And.intro (H2.out.2.1.then_ hk3) (And.intro (H2.out.2.2.keep hk3 (by simp)) ho3)))
  clear hk3 ho3
  go_wp2_with fail
  obtain ⟨W3, hW3⟩ : ∃ W3, w3.alloc (.cells #[.int .i64 k, .int .i64 t, .int .i64 n, .slice A3 l.length c3] 26) = W3 := ⟨_, rfl⟩
  have hk3 : Keeps w3 W3 [] := by rw [← hW3]; exact Keeps.alloc _ _
  have hr3 : Row W3 w3.heap.size 26 #[.int .i64 k, .int .i64 t, .int .i64 n, .slice A3 l.length c3] := by rw [← hW3]; exact Row.new _ _ _
  rw [hW3]
  clear hW3
  refine (lookRaw W3 _ b o _ m k t n l (H3.out.1.keep hk3 (by simp)) HH.out.2.1 HH.out.2.2).mono ?_
  rintro e w4 ⟨A4, c4, rfl, ho4, hk4⟩
  have H4 := Lib.hid (And.intro (H3.out.1.keep (hk3.then_ hk4) (by simp)) (And.intro ((H3.out.2.1.then_ hk3).then_ hk4) (And.intro (H3.out.2.2.1.keep (hk3.then_ hk4) (by simp)) (And.intro (own_keep H3.out.2.2.2 (hk3.then_ hk4) (by simp)) (And.intro (hr3.keep hk4 (by simp)) ho4)))))
  clear hk3 hr3 hk4 ho4
  go_wp2_with fail
  obtain ⟨W4, hW4⟩ : ∃ W4, w4.alloc (.cells #[.int .i64 k, .int .i64 t, .int .i64 n, .slice A4 l.length c4] 26) = W4 := ⟨_, rfl⟩
  have hk4 : Keeps w4 W4 [] := by rw [← hW4]; exact Keeps.alloc _ _
  have hr4 : Row W4 w4.heap.size 26 #[.int .i64 k, .int .i64 t, .int .i64 n, .slice A4 l.length c4] := by rw [← hW4]; exact Row.new _ _ _
  rw [hW4]
  clear hW4
  have H5 := Lib.hid (And.intro (H4.out.1.keep hk4 (by simp)) (And.intro (H4.out.2.1.then_ hk4) (And.intro (H4.out.2.2.1.keep hk4 (by simp)) (And.intro (own_keep H4.out.2.2.2.1 hk4 (by simp)) (And.intro (H4.out.2.2.2.2.1.keep hk4 (by simp)) (And.intro (own_keep H4.out.2.2.2.2.2 hk4 (by simp)) hr4))))))
  clear hk4 hr4
  have LP := Lib.hid (show ∀ W, Keeps W4 W [] → Came W A c l from fun W hW => HH.out.1.keep (H5.out.2.1.then_ hW))
  have SO := Lib.hid (show ∀ W, Keeps W4 W [] → Calls Try.prog 16 #[.agg #[.int .i64 k, .int .i64 t, .int .i64 n, .slice A3 l.length c3], .agg #[.int .i64 k, .int .i64 t, .int .i64 n, .slice A l.length c]] W fun e w' => e = .returned (.bool true) ∧ Keeps W4 w' [] from fun W hW => (refSame_yes W k t n A3 A c3 c l (owned_lies H5.out.2.2.2.1 hW) (LP.out W hW).2.2.2).mono (by rintro e w2 ⟨rfl, hk⟩; exact ⟨rfl, hW.then_ hk⟩))
  have SQ := Lib.hid (show ∀ W, Keeps W4 W [] → Calls Try.prog 16 #[.agg #[.int .i64 k, .int .i64 t, .int .i64 n, .slice A4 l.length c4], .agg #[.int .i64 k, .int .i64 t, .int .i64 n, .slice A l.length c]] W fun e w' => e = .returned (.bool true) ∧ Keeps W4 w' [] from fun W hW => (refSame_yes W k t n A4 A c4 c l (owned_lies H5.out.2.2.2.2.2.1 hW) (LP.out W hW).2.2.2).mono (by rintro e w2 ⟨rfl, hk⟩; exact ⟨rfl, hW.then_ hk⟩))
  have SP := Lib.hid (show ∀ W, Keeps W4 W [] → Calls Try.prog 22 #[.agg #[.int .i64 k, .int .i64 t, .int .i64 n, .slice A l.length c], .agg #[.int .i64 k, .int .i64 t, .int .i64 n, .slice A3 l.length c3]] W fun e w' => e = .returned (.bool true) ∧ Keeps W4 w' [] from fun W hW => (same_yes W k t n A A3 c c3 l (LP.out W hW).2.2.2 (owned_lies H5.out.2.2.2.1 hW)).mono (by rintro e w2 ⟨rfl, hk⟩; exact ⟨rfl, hW.then_ hk⟩))
  have KN := Lib.hid (show ∀ W, Keeps W4 W [] → Calls Try.prog 13 #[] W fun e w' => e = .returned (.bool true) ∧ Keeps W4 w' [] from fun W hW => (known4_any W).mono (by rintro e w2 ⟨rfl, hk⟩; exact ⟨rfl, hW.then_ hk⟩))
  have RR := Lib.hid (show ∀ W, Keeps W4 W [] → Calls Try.prog 21 #[.int .i64 m, .agg #[.int .i64 k, .int .i64 t, .int .i64 n, .slice A l.length c]] W fun e w' => ∃ b o c', e = .returned (.slice (some ⟨b, o, none⟩) 256 c') ∧ Full w' W.heap.size b o c' (rawI m k t n l) ∧ Keeps W4 w' [] from fun W hW => (refRaw256 W m k t n A c l ((LP.out W hW).bytes (by omega)) HH.out.2.1 HH.out.2.2).mono (by rintro e w2 ⟨b, o, c', rfl, hf, hk⟩; exact ⟨b, o, c', rfl, hf, hW.then_ hk⟩))
  have CB := Lib.hid (show ∀ W, Keeps W4 W [] → (convert 22 9 (.slice (some ⟨b, o, none⟩) 256 c1)).run Try.prog W = .ok (.string ⟨(rawI m k t n l).toArray⟩) W from fun W hW => (H5.out.1.keep hW (by simp)).str)
  obtain ⟨RL, hRL⟩ : ∃ RL, rawI m k t n l = RL := ⟨_, rfl⟩
  rw [hRL] at RR CB
  clear hRL
  have M1 := fun (W : World) (hW : Keeps W4 W []) => (H5.out.2.2.1.keep hW (by simp)).cell 0
  have M2 := fun (W : World) (hW : Keeps W4 W []) => (H5.out.2.2.1.keep hW (by simp)).cell 1
  have M3 := fun (W : World) (hW : Keeps W4 W []) => (H5.out.2.2.1.keep hW (by simp)).cell 2
  have M4 := fun (W : World) (hW : Keeps W4 W []) => (H5.out.2.2.1.keep hW (by simp)).cell 3
  have N1 := fun (W : World) (hW : Keeps W4 W []) => (H5.out.2.2.2.2.1.keep hW (by simp)).cell 0
  have N2 := fun (W : World) (hW : Keeps W4 W []) => (H5.out.2.2.2.2.1.keep hW (by simp)).cell 1
  have N3 := fun (W : World) (hW : Keeps W4 W []) => (H5.out.2.2.2.2.1.keep hW (by simp)).cell 2
  have N4 := fun (W : World) (hW : Keeps W4 W []) => (H5.out.2.2.2.2.1.keep hW (by simp)).cell 3
  have O1 := fun (W : World) (hW : Keeps W4 W []) => (H5.out.2.2.2.2.2.2.keep hW (by simp)).cell 0
  have O2 := fun (W : World) (hW : Keeps W4 W []) => (H5.out.2.2.2.2.2.2.keep hW (by simp)).cell 1
  have O3 := fun (W : World) (hW : Keeps W4 W []) => (H5.out.2.2.2.2.2.2.keep hW (by simp)).cell 2
  have O4 := fun (W : World) (hW : Keeps W4 W []) => (H5.out.2.2.2.2.2.2.keep hW (by simp)).cell 3
  have rr : (RL == RL) = true := by simp
  have CB0 := CB.out W4.drew (Keeps.drew _)
  have kd := Keeps.drew W4
  refine wp_region_any (by kernel_rfl) ?_
  try (change wpAny _ _ _ _ _ _ _ (World.drew _))
  refine wpAny_ready (rs := [0]) (by kernel_rfl) (by simp) ?_
  refine AllReady.cons rfl (fun K hK => ?_) AllReady.nil
  go_simp
  refine hK _ _ ?_
  clear hK K
  refine wpAny_ready (rs := [1]) (by kernel_rfl) (by simp) ?_
  refine AllReady.cons rfl (fun K hK => ?_) AllReady.nil
  go_simp
  refine hK _ _ ?_
  clear hK K
  refine wpAny_ready (rs := [2]) (by kernel_rfl) (by simp) ?_
  refine AllReady.cons rfl (fun K hK => ?_) AllReady.nil
  go_simp
  refine hK _ _ ?_
  clear hK K
  refine wpAny_take (i := 3) (v := ?_) rfl (by kernel_rfl) (by kernel_rfl) (by kernel_rfl) (fun _ _ _ h => h) (Or.inl ⟨by rfl, ?_⟩) ?_
  rotate_left
  · intro w; go_simp; try rfl
  refine wpAny_take (i := 5) (v := ?_) rfl (by kernel_rfl) (by kernel_rfl) (by kernel_rfl) (fun _ _ _ h => h) (Or.inl ⟨by rfl, ?_⟩) ?_
  rotate_left
  · intro w; go_simp; try rfl
  refine wpAny_ready (rs := [4, 6]) (by kernel_rfl) (by simp) ?_
  refine AllReady.cons rfl (fun K hK => ?_) (AllReady.cons rfl (fun K hK => ?_) AllReady.nil)
  · go_simp
    refine hK _ _ ?_
    clear hK K
    refine wpAny_ready (rs := [6]) (by kernel_rfl) (by simp) ?_
    refine AllReady.cons rfl (fun K hK => ?_) AllReady.nil
    go_simp
    refine hK _ _ ?_
    clear hK K
    refine wpAny_ready (rs := [7]) (by kernel_rfl) (by simp) ?_
    refine AllReady.cons rfl (fun K hK => ?_) AllReady.nil
    go_simp
    refine (RR.out W4.drew (Keeps.drew _)).mono ?_
    rintro e w5 ⟨b5, o5, c5, rfl, hf5, hk5⟩
    refine hK _ _ ?_
    clear hK K
    have CB5 := CB.out w5 hk5
    have CR5 := hf5.str
    have HK5 := Lib.hid hk5
    clear hf5 hk5
    refine wpAny_ready (rs := [8]) (by kernel_rfl) (by simp) ?_
    refine AllReady.cons rfl (fun K hK => ?_) AllReady.nil
    go_simp
    refine hK _ _ ?_
    clear hK K
    refine wpAny_ready (rs := [9]) (by kernel_rfl) (by simp) ?_
    refine AllReady.cons rfl (fun K hK => ?_) AllReady.nil
    go_simp
    refine hK _ _ ?_
    clear hK K
    refine wpAny_ready (rs := [10]) (by kernel_rfl) (by simp) ?_
    refine AllReady.cons rfl (fun K hK => ?_) AllReady.nil
    go_simp
    refine hK _ _ ?_
    clear hK K
    refine wpAny_ready (rs := [11]) (by kernel_rfl) (by simp) ?_
    refine AllReady.cons rfl (fun K hK => ?_) AllReady.nil
    go_simp
    refine hK _ _ ?_
    clear hK K
    refine wpAny_rest (fun W => Keeps W4 W []) 12 _ rfl rfl (by kernel_rfl) (by kernel_rfl) HK5.out ?_
    clear CB0 CB5 CR5
    refine wpQuiet_step (fun K hK => ?_)
    go_simp
    first
      | (refine hK _ ?_; clear hK K)
      | (apply Exists.intro; refine ⟨fun W hW => ?_, hK _ ?_⟩; (first | done | rfl | exact ⟨rfl, rfl⟩ | (go_simp; first | done | rfl | exact ⟨rfl, rfl⟩)); clear hK K)
    refine wpQuiet_step (fun K hK => ?_)
    go_simp
    first
      | (refine hK _ ?_; clear hK K)
      | (apply Exists.intro; refine ⟨fun W hW => ?_, hK _ ?_⟩; (first | done | rfl | exact ⟨rfl, rfl⟩ | (go_simp; first | done | rfl | exact ⟨rfl, rfl⟩)); clear hK K)
    refine wpQuiet_step (fun K hK => ?_)
    go_simp
    first
      | (refine hK _ ?_; clear hK K)
      | (apply Exists.intro; refine ⟨fun W hW => ?_, hK _ ?_⟩; (first | done | rfl | exact ⟨rfl, rfl⟩ | (go_simp; first | done | rfl | exact ⟨rfl, rfl⟩)); clear hK K)
    refine wpQuiet_step (fun K hK => ?_)
    go_simp
    first
      | (refine hK _ ?_; clear hK K)
      | (apply Exists.intro; refine ⟨fun W hW => ?_, hK _ ?_⟩; (first | done | rfl | exact ⟨rfl, rfl⟩ | (go_simp; first | done | rfl | exact ⟨rfl, rfl⟩)); clear hK K)
    refine wpQuiet_step (fun K hK => ?_)
    go_simp
    apply Exists.intro
    refine ⟨fun W hW => ?_, hK _ ?_⟩
    · go_simp
      first | done | rfl | exact ⟨rfl, rfl⟩
    clear hK K
    refine wpQuiet_step (fun K hK => ?_)
    go_simp
    apply Exists.intro
    refine ⟨fun W hW => ?_, hK _ ?_⟩
    · go_simp
      first | done | rfl | exact ⟨rfl, rfl⟩
    clear hK K
    refine wpQuiet_step (fun K hK => ?_)
    go_simp
    apply Exists.intro
    refine ⟨fun W hW => ?_, hK _ ?_⟩
    · go_simp
      exact SO.out W hW
    clear hK K
    refine wpQuiet_step (fun K hK => ?_)
    go_simp
    first
      | (refine hK _ ?_; clear hK K)
      | (apply Exists.intro; refine ⟨fun W hW => ?_, hK _ ?_⟩; (first | done | rfl | exact ⟨rfl, rfl⟩ | (go_simp; first | done | rfl | exact ⟨rfl, rfl⟩)); clear hK K)
    refine wpQuiet_step (fun K hK => ?_)
    go_simp
    first
      | (refine hK _ ?_; clear hK K)
      | (apply Exists.intro; refine ⟨fun W hW => ?_, hK _ ?_⟩; (first | done | rfl | exact ⟨rfl, rfl⟩ | (go_simp; first | done | rfl | exact ⟨rfl, rfl⟩)); clear hK K)
    refine wpQuiet_step (fun K hK => ?_)
    go_simp
    first
      | (refine hK _ ?_; clear hK K)
      | (apply Exists.intro; refine ⟨fun W hW => ?_, hK _ ?_⟩; (first | done | rfl | exact ⟨rfl, rfl⟩ | (go_simp; first | done | rfl | exact ⟨rfl, rfl⟩)); clear hK K)
    refine wpQuiet_step (fun K hK => ?_)
    go_simp
    first
      | (refine hK _ ?_; clear hK K)
      | (apply Exists.intro; refine ⟨fun W hW => ?_, hK _ ?_⟩; (first | done | rfl | exact ⟨rfl, rfl⟩ | (go_simp; first | done | rfl | exact ⟨rfl, rfl⟩)); clear hK K)
    refine wpQuiet_step (fun K hK => ?_)
    go_simp
    first
      | (refine hK _ ?_; clear hK K)
      | (apply Exists.intro; refine ⟨fun W hW => ?_, hK _ ?_⟩; (first | done | rfl | exact ⟨rfl, rfl⟩ | (go_simp; first | done | rfl | exact ⟨rfl, rfl⟩)); clear hK K)
    refine wpQuiet_step (fun K hK => ?_)
    go_simp
    first
      | (refine hK _ ?_; clear hK K)
      | (apply Exists.intro; refine ⟨fun W hW => ?_, hK _ ?_⟩; (first | done | rfl | exact ⟨rfl, rfl⟩ | (go_simp; first | done | rfl | exact ⟨rfl, rfl⟩)); clear hK K)
    refine wpQuiet_step (fun K hK => ?_)
    go_simp
    first
      | (refine hK _ ?_; clear hK K)
      | (apply Exists.intro; refine ⟨fun W hW => ?_, hK _ ?_⟩; (first | done | rfl | exact ⟨rfl, rfl⟩ | (go_simp; first | done | rfl | exact ⟨rfl, rfl⟩)); clear hK K)
    refine wpQuiet_step (fun K hK => ?_)
    go_simp
    first
      | (refine hK _ ?_; clear hK K)
      | (apply Exists.intro; refine ⟨fun W hW => ?_, hK _ ?_⟩; (first | done | rfl | exact ⟨rfl, rfl⟩ | (go_simp; first | done | rfl | exact ⟨rfl, rfl⟩)); clear hK K)
    refine wpQuiet_step (fun K hK => ?_)
    go_simp
    first
      | (refine hK _ ?_; clear hK K)
      | (apply Exists.intro; refine ⟨fun W hW => ?_, hK _ ?_⟩; (first | done | rfl | exact ⟨rfl, rfl⟩ | (go_simp; first | done | rfl | exact ⟨rfl, rfl⟩)); clear hK K)
    refine wpQuiet_step (fun K hK => ?_)
    go_simp
    first
      | (refine hK _ ?_; clear hK K)
      | (apply Exists.intro; refine ⟨fun W hW => ?_, hK _ ?_⟩; (first | done | rfl | exact ⟨rfl, rfl⟩ | (go_simp; first | done | rfl | exact ⟨rfl, rfl⟩)); clear hK K)
    refine wpQuiet_step (fun K hK => ?_)
    go_simp
    first
      | (refine hK _ ?_; clear hK K)
      | (apply Exists.intro; refine ⟨fun W hW => ?_, hK _ ?_⟩; (first | done | rfl | exact ⟨rfl, rfl⟩ | (go_simp; first | done | rfl | exact ⟨rfl, rfl⟩)); clear hK K)
    refine wpQuiet_step (fun K hK => ?_)
    go_simp
    apply Exists.intro
    refine ⟨fun W hW => ?_, hK _ ?_⟩
    · go_simp
      first | done | rfl | exact ⟨rfl, rfl⟩
    clear hK K
    refine wpQuiet_step (fun K hK => ?_)
    go_simp
    apply Exists.intro
    refine ⟨fun W hW => ?_, hK _ ?_⟩
    · go_simp
      first | done | rfl | exact ⟨rfl, rfl⟩
    clear hK K
    refine wpQuiet_step (fun K hK => ?_)
    go_simp
    apply Exists.intro
    refine ⟨fun W hW => ?_, hK _ ?_⟩
    · go_simp
      exact SQ.out W hW
    clear hK K
    refine wpQuiet_step (fun K hK => ?_)
    go_simp
    first
      | (refine hK _ ?_; clear hK K)
      | (apply Exists.intro; refine ⟨fun W hW => ?_, hK _ ?_⟩; (first | done | rfl | exact ⟨rfl, rfl⟩ | (go_simp; first | done | rfl | exact ⟨rfl, rfl⟩)); clear hK K)
    refine wpQuiet_step (fun K hK => ?_)
    go_simp
    first
      | (refine hK _ ?_; clear hK K)
      | (apply Exists.intro; refine ⟨fun W hW => ?_, hK _ ?_⟩; (first | done | rfl | exact ⟨rfl, rfl⟩ | (go_simp; first | done | rfl | exact ⟨rfl, rfl⟩)); clear hK K)
    refine wpQuiet_step (fun K hK => ?_)
    go_simp
    apply Exists.intro
    refine ⟨fun W hW => ?_, hK _ ?_⟩
    · go_simp
      first | done | rfl | exact ⟨rfl, rfl⟩
    clear hK K
    refine wpQuiet_step (fun K hK => ?_)
    go_simp
    apply Exists.intro
    refine ⟨fun W hW => ?_, hK _ ?_⟩
    · go_simp
      first | done | rfl | exact ⟨rfl, rfl⟩
    clear hK K
    refine wpQuiet_step (fun K hK => ?_)
    go_simp
    apply Exists.intro
    refine ⟨fun W hW => ?_, hK _ ?_⟩
    · go_simp
      exact SP.out W hW
    clear hK K
    refine wpQuiet_step (fun K hK => ?_)
    go_simp
    first
      | (refine hK _ ?_; clear hK K)
      | (apply Exists.intro; refine ⟨fun W hW => ?_, hK _ ?_⟩; (first | done | rfl | exact ⟨rfl, rfl⟩ | (go_simp; first | done | rfl | exact ⟨rfl, rfl⟩)); clear hK K)
    refine wpQuiet_step (fun K hK => ?_)
    go_simp
    first
      | (refine hK _ ?_; clear hK K)
      | (apply Exists.intro; refine ⟨fun W hW => ?_, hK _ ?_⟩; (first | done | rfl | exact ⟨rfl, rfl⟩ | (go_simp; first | done | rfl | exact ⟨rfl, rfl⟩)); clear hK K)
    refine wpQuiet_step (fun K hK => ?_)
    go_simp
    apply Exists.intro
    refine ⟨fun W hW => ?_, hK _ ?_⟩
    · go_simp
      exact KN.out W hW
    clear hK K
    refine wpQuiet_step (fun K hK => ?_)
    go_simp
    first
      | (refine hK _ ?_; clear hK K)
      | (apply Exists.intro; refine ⟨fun W hW => ?_, hK _ ?_⟩; (first | done | rfl | exact ⟨rfl, rfl⟩ | (go_simp; first | done | rfl | exact ⟨rfl, rfl⟩)); clear hK K)
    refine wpQuiet_step (fun K hK => ?_)
    go_simp
    first
      | (refine hK _ ?_; clear hK K)
      | (apply Exists.intro; refine ⟨fun W hW => ?_, hK _ ?_⟩; (first | done | rfl | exact ⟨rfl, rfl⟩ | (go_simp; first | done | rfl | exact ⟨rfl, rfl⟩)); clear hK K)
    refine wpQuiet_nil ?_
    intro W hW
    go_wp2
    go_ret
    exact ⟨rfl, H5.out.2.1.then_ hW⟩
  · go_simp
    refine hK _ _ ?_
    clear hK K
    refine wpAny_ready (rs := [4, 7]) (by kernel_rfl) (by simp) ?_
    refine AllReady.cons rfl (fun K hK => ?_) (AllReady.cons rfl (fun K hK => ?_) AllReady.nil)
    · go_simp
      refine hK _ _ ?_
      clear hK K
      refine wpAny_ready (rs := [7]) (by kernel_rfl) (by simp) ?_
      refine AllReady.cons rfl (fun K hK => ?_) AllReady.nil
      go_simp
      refine (RR.out W4.drew (Keeps.drew _)).mono ?_
      rintro e w5 ⟨b5, o5, c5, rfl, hf5, hk5⟩
      refine hK _ _ ?_
      clear hK K
      have CB5 := CB.out w5 hk5
      have CR5 := hf5.str
      have HK5 := Lib.hid hk5
      clear hf5 hk5
      refine wpAny_ready (rs := [8]) (by kernel_rfl) (by simp) ?_
      refine AllReady.cons rfl (fun K hK => ?_) AllReady.nil
      go_simp
      refine hK _ _ ?_
      clear hK K
      refine wpAny_ready (rs := [9]) (by kernel_rfl) (by simp) ?_
      refine AllReady.cons rfl (fun K hK => ?_) AllReady.nil
      go_simp
      refine hK _ _ ?_
      clear hK K
      refine wpAny_ready (rs := [10]) (by kernel_rfl) (by simp) ?_
      refine AllReady.cons rfl (fun K hK => ?_) AllReady.nil
      go_simp
      refine hK _ _ ?_
      clear hK K
      refine wpAny_ready (rs := [11]) (by kernel_rfl) (by simp) ?_
      refine AllReady.cons rfl (fun K hK => ?_) AllReady.nil
      go_simp
      refine hK _ _ ?_
      clear hK K
      refine wpAny_rest (fun W => Keeps W4 W []) 12 _ rfl rfl (by kernel_rfl) (by kernel_rfl) HK5.out ?_
      clear CB0 CB5 CR5
      refine wpQuiet_step (fun K hK => ?_)
      go_simp
      first
        | (refine hK _ ?_; clear hK K)
        | (apply Exists.intro; refine ⟨fun W hW => ?_, hK _ ?_⟩; (first | done | rfl | exact ⟨rfl, rfl⟩ | (go_simp; first | done | rfl | exact ⟨rfl, rfl⟩)); clear hK K)
      refine wpQuiet_step (fun K hK => ?_)
      go_simp
      first
        | (refine hK _ ?_; clear hK K)
        | (apply Exists.intro; refine ⟨fun W hW => ?_, hK _ ?_⟩; (first | done | rfl | exact ⟨rfl, rfl⟩ | (go_simp; first | done | rfl | exact ⟨rfl, rfl⟩)); clear hK K)
      refine wpQuiet_step (fun K hK => ?_)
      go_simp
      first
        | (refine hK _ ?_; clear hK K)
        | (apply Exists.intro; refine ⟨fun W hW => ?_, hK _ ?_⟩; (first | done | rfl | exact ⟨rfl, rfl⟩ | (go_simp; first | done | rfl | exact ⟨rfl, rfl⟩)); clear hK K)
      refine wpQuiet_step (fun K hK => ?_)
      go_simp
      first
        | (refine hK _ ?_; clear hK K)
        | (apply Exists.intro; refine ⟨fun W hW => ?_, hK _ ?_⟩; (first | done | rfl | exact ⟨rfl, rfl⟩ | (go_simp; first | done | rfl | exact ⟨rfl, rfl⟩)); clear hK K)
      refine wpQuiet_step (fun K hK => ?_)
      go_simp
      apply Exists.intro
      refine ⟨fun W hW => ?_, hK _ ?_⟩
      · go_simp
        first | done | rfl | exact ⟨rfl, rfl⟩
      clear hK K
      refine wpQuiet_step (fun K hK => ?_)
      go_simp
      apply Exists.intro
      refine ⟨fun W hW => ?_, hK _ ?_⟩
      · go_simp
        first | done | rfl | exact ⟨rfl, rfl⟩
      clear hK K
      refine wpQuiet_step (fun K hK => ?_)
      go_simp
      apply Exists.intro
      refine ⟨fun W hW => ?_, hK _ ?_⟩
      · go_simp
        exact SO.out W hW
      clear hK K
      refine wpQuiet_step (fun K hK => ?_)
      go_simp
      first
        | (refine hK _ ?_; clear hK K)
        | (apply Exists.intro; refine ⟨fun W hW => ?_, hK _ ?_⟩; (first | done | rfl | exact ⟨rfl, rfl⟩ | (go_simp; first | done | rfl | exact ⟨rfl, rfl⟩)); clear hK K)
      refine wpQuiet_step (fun K hK => ?_)
      go_simp
      first
        | (refine hK _ ?_; clear hK K)
        | (apply Exists.intro; refine ⟨fun W hW => ?_, hK _ ?_⟩; (first | done | rfl | exact ⟨rfl, rfl⟩ | (go_simp; first | done | rfl | exact ⟨rfl, rfl⟩)); clear hK K)
      refine wpQuiet_step (fun K hK => ?_)
      go_simp
      first
        | (refine hK _ ?_; clear hK K)
        | (apply Exists.intro; refine ⟨fun W hW => ?_, hK _ ?_⟩; (first | done | rfl | exact ⟨rfl, rfl⟩ | (go_simp; first | done | rfl | exact ⟨rfl, rfl⟩)); clear hK K)
      refine wpQuiet_step (fun K hK => ?_)
      go_simp
      first
        | (refine hK _ ?_; clear hK K)
        | (apply Exists.intro; refine ⟨fun W hW => ?_, hK _ ?_⟩; (first | done | rfl | exact ⟨rfl, rfl⟩ | (go_simp; first | done | rfl | exact ⟨rfl, rfl⟩)); clear hK K)
      refine wpQuiet_step (fun K hK => ?_)
      go_simp
      first
        | (refine hK _ ?_; clear hK K)
        | (apply Exists.intro; refine ⟨fun W hW => ?_, hK _ ?_⟩; (first | done | rfl | exact ⟨rfl, rfl⟩ | (go_simp; first | done | rfl | exact ⟨rfl, rfl⟩)); clear hK K)
      refine wpQuiet_step (fun K hK => ?_)
      go_simp
      first
        | (refine hK _ ?_; clear hK K)
        | (apply Exists.intro; refine ⟨fun W hW => ?_, hK _ ?_⟩; (first | done | rfl | exact ⟨rfl, rfl⟩ | (go_simp; first | done | rfl | exact ⟨rfl, rfl⟩)); clear hK K)
      refine wpQuiet_step (fun K hK => ?_)
      go_simp
      first
        | (refine hK _ ?_; clear hK K)
        | (apply Exists.intro; refine ⟨fun W hW => ?_, hK _ ?_⟩; (first | done | rfl | exact ⟨rfl, rfl⟩ | (go_simp; first | done | rfl | exact ⟨rfl, rfl⟩)); clear hK K)
      refine wpQuiet_step (fun K hK => ?_)
      go_simp
      first
        | (refine hK _ ?_; clear hK K)
        | (apply Exists.intro; refine ⟨fun W hW => ?_, hK _ ?_⟩; (first | done | rfl | exact ⟨rfl, rfl⟩ | (go_simp; first | done | rfl | exact ⟨rfl, rfl⟩)); clear hK K)
      refine wpQuiet_step (fun K hK => ?_)
      go_simp
      first
        | (refine hK _ ?_; clear hK K)
        | (apply Exists.intro; refine ⟨fun W hW => ?_, hK _ ?_⟩; (first | done | rfl | exact ⟨rfl, rfl⟩ | (go_simp; first | done | rfl | exact ⟨rfl, rfl⟩)); clear hK K)
      refine wpQuiet_step (fun K hK => ?_)
      go_simp
      first
        | (refine hK _ ?_; clear hK K)
        | (apply Exists.intro; refine ⟨fun W hW => ?_, hK _ ?_⟩; (first | done | rfl | exact ⟨rfl, rfl⟩ | (go_simp; first | done | rfl | exact ⟨rfl, rfl⟩)); clear hK K)
      refine wpQuiet_step (fun K hK => ?_)
      go_simp
      first
        | (refine hK _ ?_; clear hK K)
        | (apply Exists.intro; refine ⟨fun W hW => ?_, hK _ ?_⟩; (first | done | rfl | exact ⟨rfl, rfl⟩ | (go_simp; first | done | rfl | exact ⟨rfl, rfl⟩)); clear hK K)
      refine wpQuiet_step (fun K hK => ?_)
      go_simp
      apply Exists.intro
      refine ⟨fun W hW => ?_, hK _ ?_⟩
      · go_simp
        first | done | rfl | exact ⟨rfl, rfl⟩
      clear hK K
      refine wpQuiet_step (fun K hK => ?_)
      go_simp
      apply Exists.intro
      refine ⟨fun W hW => ?_, hK _ ?_⟩
      · go_simp
        first | done | rfl | exact ⟨rfl, rfl⟩
      clear hK K
      refine wpQuiet_step (fun K hK => ?_)
      go_simp
      apply Exists.intro
      refine ⟨fun W hW => ?_, hK _ ?_⟩
      · go_simp
        exact SQ.out W hW
      clear hK K
      refine wpQuiet_step (fun K hK => ?_)
      go_simp
      first
        | (refine hK _ ?_; clear hK K)
        | (apply Exists.intro; refine ⟨fun W hW => ?_, hK _ ?_⟩; (first | done | rfl | exact ⟨rfl, rfl⟩ | (go_simp; first | done | rfl | exact ⟨rfl, rfl⟩)); clear hK K)
      refine wpQuiet_step (fun K hK => ?_)
      go_simp
      first
        | (refine hK _ ?_; clear hK K)
        | (apply Exists.intro; refine ⟨fun W hW => ?_, hK _ ?_⟩; (first | done | rfl | exact ⟨rfl, rfl⟩ | (go_simp; first | done | rfl | exact ⟨rfl, rfl⟩)); clear hK K)
      refine wpQuiet_step (fun K hK => ?_)
      go_simp
      apply Exists.intro
      refine ⟨fun W hW => ?_, hK _ ?_⟩
      · go_simp
        first | done | rfl | exact ⟨rfl, rfl⟩
      clear hK K
      refine wpQuiet_step (fun K hK => ?_)
      go_simp
      apply Exists.intro
      refine ⟨fun W hW => ?_, hK _ ?_⟩
      · go_simp
        first | done | rfl | exact ⟨rfl, rfl⟩
      clear hK K
      refine wpQuiet_step (fun K hK => ?_)
      go_simp
      apply Exists.intro
      refine ⟨fun W hW => ?_, hK _ ?_⟩
      · go_simp
        exact SP.out W hW
      clear hK K
      refine wpQuiet_step (fun K hK => ?_)
      go_simp
      first
        | (refine hK _ ?_; clear hK K)
        | (apply Exists.intro; refine ⟨fun W hW => ?_, hK _ ?_⟩; (first | done | rfl | exact ⟨rfl, rfl⟩ | (go_simp; first | done | rfl | exact ⟨rfl, rfl⟩)); clear hK K)
      refine wpQuiet_step (fun K hK => ?_)
      go_simp
      first
        | (refine hK _ ?_; clear hK K)
        | (apply Exists.intro; refine ⟨fun W hW => ?_, hK _ ?_⟩; (first | done | rfl | exact ⟨rfl, rfl⟩ | (go_simp; first | done | rfl | exact ⟨rfl, rfl⟩)); clear hK K)
      refine wpQuiet_step (fun K hK => ?_)
      go_simp
      apply Exists.intro
      refine ⟨fun W hW => ?_, hK _ ?_⟩
      · go_simp
        exact KN.out W hW
      clear hK K
      refine wpQuiet_step (fun K hK => ?_)
      go_simp
      first
        | (refine hK _ ?_; clear hK K)
        | (apply Exists.intro; refine ⟨fun W hW => ?_, hK _ ?_⟩; (first | done | rfl | exact ⟨rfl, rfl⟩ | (go_simp; first | done | rfl | exact ⟨rfl, rfl⟩)); clear hK K)
      refine wpQuiet_step (fun K hK => ?_)
      go_simp
      first
        | (refine hK _ ?_; clear hK K)
        | (apply Exists.intro; refine ⟨fun W hW => ?_, hK _ ?_⟩; (first | done | rfl | exact ⟨rfl, rfl⟩ | (go_simp; first | done | rfl | exact ⟨rfl, rfl⟩)); clear hK K)
      refine wpQuiet_nil ?_
      intro W hW
      go_wp2
      go_ret
      exact ⟨rfl, H5.out.2.1.then_ hW⟩
    · go_simp
      refine (RR.out W4.drew (Keeps.drew _)).mono ?_
      rintro e w5 ⟨b5, o5, c5, rfl, hf5, hk5⟩
      refine hK _ _ ?_
      clear hK K
      have CB5 := CB.out w5 hk5
      have CR5 := hf5.str
      have HK5 := Lib.hid hk5
      clear hf5 hk5
      refine wpAny_ready (rs := [4, 8]) (by kernel_rfl) (by simp) ?_
      refine AllReady.cons rfl (fun K hK => ?_) (AllReady.cons rfl (fun K hK => ?_) AllReady.nil)
      · go_simp
        refine hK _ _ ?_
        clear hK K
        refine wpAny_ready (rs := [8]) (by kernel_rfl) (by simp) ?_
        refine AllReady.cons rfl (fun K hK => ?_) AllReady.nil
        go_simp
        refine hK _ _ ?_
        clear hK K
        refine wpAny_ready (rs := [9]) (by kernel_rfl) (by simp) ?_
        refine AllReady.cons rfl (fun K hK => ?_) AllReady.nil
        go_simp
        refine hK _ _ ?_
        clear hK K
        refine wpAny_ready (rs := [10]) (by kernel_rfl) (by simp) ?_
        refine AllReady.cons rfl (fun K hK => ?_) AllReady.nil
        go_simp
        refine hK _ _ ?_
        clear hK K
        refine wpAny_ready (rs := [11]) (by kernel_rfl) (by simp) ?_
        refine AllReady.cons rfl (fun K hK => ?_) AllReady.nil
        go_simp
        refine hK _ _ ?_
        clear hK K
        refine wpAny_rest (fun W => Keeps W4 W []) 12 _ rfl rfl (by kernel_rfl) (by kernel_rfl) HK5.out ?_
        clear CB0 CB5 CR5
        refine wpQuiet_step (fun K hK => ?_)
        go_simp
        first
          | (refine hK _ ?_; clear hK K)
          | (apply Exists.intro; refine ⟨fun W hW => ?_, hK _ ?_⟩; (first | done | rfl | exact ⟨rfl, rfl⟩ | (go_simp; first | done | rfl | exact ⟨rfl, rfl⟩)); clear hK K)
        refine wpQuiet_step (fun K hK => ?_)
        go_simp
        first
          | (refine hK _ ?_; clear hK K)
          | (apply Exists.intro; refine ⟨fun W hW => ?_, hK _ ?_⟩; (first | done | rfl | exact ⟨rfl, rfl⟩ | (go_simp; first | done | rfl | exact ⟨rfl, rfl⟩)); clear hK K)
        refine wpQuiet_step (fun K hK => ?_)
        go_simp
        first
          | (refine hK _ ?_; clear hK K)
          | (apply Exists.intro; refine ⟨fun W hW => ?_, hK _ ?_⟩; (first | done | rfl | exact ⟨rfl, rfl⟩ | (go_simp; first | done | rfl | exact ⟨rfl, rfl⟩)); clear hK K)
        refine wpQuiet_step (fun K hK => ?_)
        go_simp
        first
          | (refine hK _ ?_; clear hK K)
          | (apply Exists.intro; refine ⟨fun W hW => ?_, hK _ ?_⟩; (first | done | rfl | exact ⟨rfl, rfl⟩ | (go_simp; first | done | rfl | exact ⟨rfl, rfl⟩)); clear hK K)
        refine wpQuiet_step (fun K hK => ?_)
        go_simp
        apply Exists.intro
        refine ⟨fun W hW => ?_, hK _ ?_⟩
        · go_simp
          first | done | rfl | exact ⟨rfl, rfl⟩
        clear hK K
        refine wpQuiet_step (fun K hK => ?_)
        go_simp
        apply Exists.intro
        refine ⟨fun W hW => ?_, hK _ ?_⟩
        · go_simp
          first | done | rfl | exact ⟨rfl, rfl⟩
        clear hK K
        refine wpQuiet_step (fun K hK => ?_)
        go_simp
        apply Exists.intro
        refine ⟨fun W hW => ?_, hK _ ?_⟩
        · go_simp
          exact SO.out W hW
        clear hK K
        refine wpQuiet_step (fun K hK => ?_)
        go_simp
        first
          | (refine hK _ ?_; clear hK K)
          | (apply Exists.intro; refine ⟨fun W hW => ?_, hK _ ?_⟩; (first | done | rfl | exact ⟨rfl, rfl⟩ | (go_simp; first | done | rfl | exact ⟨rfl, rfl⟩)); clear hK K)
        refine wpQuiet_step (fun K hK => ?_)
        go_simp
        first
          | (refine hK _ ?_; clear hK K)
          | (apply Exists.intro; refine ⟨fun W hW => ?_, hK _ ?_⟩; (first | done | rfl | exact ⟨rfl, rfl⟩ | (go_simp; first | done | rfl | exact ⟨rfl, rfl⟩)); clear hK K)
        refine wpQuiet_step (fun K hK => ?_)
        go_simp
        first
          | (refine hK _ ?_; clear hK K)
          | (apply Exists.intro; refine ⟨fun W hW => ?_, hK _ ?_⟩; (first | done | rfl | exact ⟨rfl, rfl⟩ | (go_simp; first | done | rfl | exact ⟨rfl, rfl⟩)); clear hK K)
        refine wpQuiet_step (fun K hK => ?_)
        go_simp
        first
          | (refine hK _ ?_; clear hK K)
          | (apply Exists.intro; refine ⟨fun W hW => ?_, hK _ ?_⟩; (first | done | rfl | exact ⟨rfl, rfl⟩ | (go_simp; first | done | rfl | exact ⟨rfl, rfl⟩)); clear hK K)
        refine wpQuiet_step (fun K hK => ?_)
        go_simp
        first
          | (refine hK _ ?_; clear hK K)
          | (apply Exists.intro; refine ⟨fun W hW => ?_, hK _ ?_⟩; (first | done | rfl | exact ⟨rfl, rfl⟩ | (go_simp; first | done | rfl | exact ⟨rfl, rfl⟩)); clear hK K)
        refine wpQuiet_step (fun K hK => ?_)
        go_simp
        first
          | (refine hK _ ?_; clear hK K)
          | (apply Exists.intro; refine ⟨fun W hW => ?_, hK _ ?_⟩; (first | done | rfl | exact ⟨rfl, rfl⟩ | (go_simp; first | done | rfl | exact ⟨rfl, rfl⟩)); clear hK K)
        refine wpQuiet_step (fun K hK => ?_)
        go_simp
        first
          | (refine hK _ ?_; clear hK K)
          | (apply Exists.intro; refine ⟨fun W hW => ?_, hK _ ?_⟩; (first | done | rfl | exact ⟨rfl, rfl⟩ | (go_simp; first | done | rfl | exact ⟨rfl, rfl⟩)); clear hK K)
        refine wpQuiet_step (fun K hK => ?_)
        go_simp
        first
          | (refine hK _ ?_; clear hK K)
          | (apply Exists.intro; refine ⟨fun W hW => ?_, hK _ ?_⟩; (first | done | rfl | exact ⟨rfl, rfl⟩ | (go_simp; first | done | rfl | exact ⟨rfl, rfl⟩)); clear hK K)
        refine wpQuiet_step (fun K hK => ?_)
        go_simp
        first
          | (refine hK _ ?_; clear hK K)
          | (apply Exists.intro; refine ⟨fun W hW => ?_, hK _ ?_⟩; (first | done | rfl | exact ⟨rfl, rfl⟩ | (go_simp; first | done | rfl | exact ⟨rfl, rfl⟩)); clear hK K)
        refine wpQuiet_step (fun K hK => ?_)
        go_simp
        first
          | (refine hK _ ?_; clear hK K)
          | (apply Exists.intro; refine ⟨fun W hW => ?_, hK _ ?_⟩; (first | done | rfl | exact ⟨rfl, rfl⟩ | (go_simp; first | done | rfl | exact ⟨rfl, rfl⟩)); clear hK K)
        refine wpQuiet_step (fun K hK => ?_)
        go_simp
        first
          | (refine hK _ ?_; clear hK K)
          | (apply Exists.intro; refine ⟨fun W hW => ?_, hK _ ?_⟩; (first | done | rfl | exact ⟨rfl, rfl⟩ | (go_simp; first | done | rfl | exact ⟨rfl, rfl⟩)); clear hK K)
        refine wpQuiet_step (fun K hK => ?_)
        go_simp
        apply Exists.intro
        refine ⟨fun W hW => ?_, hK _ ?_⟩
        · go_simp
          first | done | rfl | exact ⟨rfl, rfl⟩
        clear hK K
        refine wpQuiet_step (fun K hK => ?_)
        go_simp
        apply Exists.intro
        refine ⟨fun W hW => ?_, hK _ ?_⟩
        · go_simp
          first | done | rfl | exact ⟨rfl, rfl⟩
        clear hK K
        refine wpQuiet_step (fun K hK => ?_)
        go_simp
        apply Exists.intro
        refine ⟨fun W hW => ?_, hK _ ?_⟩
        · go_simp
          exact SQ.out W hW
        clear hK K
        refine wpQuiet_step (fun K hK => ?_)
        go_simp
        first
          | (refine hK _ ?_; clear hK K)
          | (apply Exists.intro; refine ⟨fun W hW => ?_, hK _ ?_⟩; (first | done | rfl | exact ⟨rfl, rfl⟩ | (go_simp; first | done | rfl | exact ⟨rfl, rfl⟩)); clear hK K)
        refine wpQuiet_step (fun K hK => ?_)
        go_simp
        first
          | (refine hK _ ?_; clear hK K)
          | (apply Exists.intro; refine ⟨fun W hW => ?_, hK _ ?_⟩; (first | done | rfl | exact ⟨rfl, rfl⟩ | (go_simp; first | done | rfl | exact ⟨rfl, rfl⟩)); clear hK K)
        refine wpQuiet_step (fun K hK => ?_)
        go_simp
        apply Exists.intro
        refine ⟨fun W hW => ?_, hK _ ?_⟩
        · go_simp
          first | done | rfl | exact ⟨rfl, rfl⟩
        clear hK K
        refine wpQuiet_step (fun K hK => ?_)
        go_simp
        apply Exists.intro
        refine ⟨fun W hW => ?_, hK _ ?_⟩
        · go_simp
          first | done | rfl | exact ⟨rfl, rfl⟩
        clear hK K
        refine wpQuiet_step (fun K hK => ?_)
        go_simp
        apply Exists.intro
        refine ⟨fun W hW => ?_, hK _ ?_⟩
        · go_simp
          exact SP.out W hW
        clear hK K
        refine wpQuiet_step (fun K hK => ?_)
        go_simp
        first
          | (refine hK _ ?_; clear hK K)
          | (apply Exists.intro; refine ⟨fun W hW => ?_, hK _ ?_⟩; (first | done | rfl | exact ⟨rfl, rfl⟩ | (go_simp; first | done | rfl | exact ⟨rfl, rfl⟩)); clear hK K)
        refine wpQuiet_step (fun K hK => ?_)
        go_simp
        first
          | (refine hK _ ?_; clear hK K)
          | (apply Exists.intro; refine ⟨fun W hW => ?_, hK _ ?_⟩; (first | done | rfl | exact ⟨rfl, rfl⟩ | (go_simp; first | done | rfl | exact ⟨rfl, rfl⟩)); clear hK K)
        refine wpQuiet_step (fun K hK => ?_)
        go_simp
        apply Exists.intro
        refine ⟨fun W hW => ?_, hK _ ?_⟩
        · go_simp
          exact KN.out W hW
        clear hK K
        refine wpQuiet_step (fun K hK => ?_)
        go_simp
        first
          | (refine hK _ ?_; clear hK K)
          | (apply Exists.intro; refine ⟨fun W hW => ?_, hK _ ?_⟩; (first | done | rfl | exact ⟨rfl, rfl⟩ | (go_simp; first | done | rfl | exact ⟨rfl, rfl⟩)); clear hK K)
        refine wpQuiet_step (fun K hK => ?_)
        go_simp
        first
          | (refine hK _ ?_; clear hK K)
          | (apply Exists.intro; refine ⟨fun W hW => ?_, hK _ ?_⟩; (first | done | rfl | exact ⟨rfl, rfl⟩ | (go_simp; first | done | rfl | exact ⟨rfl, rfl⟩)); clear hK K)
        refine wpQuiet_nil ?_
        intro W hW
        go_wp2
        go_ret
        exact ⟨rfl, H5.out.2.1.then_ hW⟩
      · go_simp
        refine hK _ _ ?_
        clear hK K
        refine wpAny_ready (rs := [4]) (by kernel_rfl) (by simp) ?_
        refine AllReady.cons rfl (fun K hK => ?_) AllReady.nil
        go_simp
        refine hK _ _ ?_
        clear hK K
        refine wpAny_ready (rs := [9]) (by kernel_rfl) (by simp) ?_
        refine AllReady.cons rfl (fun K hK => ?_) AllReady.nil
        go_simp
        refine hK _ _ ?_
        clear hK K
        refine wpAny_ready (rs := [10]) (by kernel_rfl) (by simp) ?_
        refine AllReady.cons rfl (fun K hK => ?_) AllReady.nil
        go_simp
        refine hK _ _ ?_
        clear hK K
        refine wpAny_ready (rs := [11]) (by kernel_rfl) (by simp) ?_
        refine AllReady.cons rfl (fun K hK => ?_) AllReady.nil
        go_simp
        refine hK _ _ ?_
        clear hK K
        refine wpAny_rest (fun W => Keeps W4 W []) 12 _ rfl rfl (by kernel_rfl) (by kernel_rfl) HK5.out ?_
        clear CB0 CB5 CR5
        refine wpQuiet_step (fun K hK => ?_)
        go_simp
        first
          | (refine hK _ ?_; clear hK K)
          | (apply Exists.intro; refine ⟨fun W hW => ?_, hK _ ?_⟩; (first | done | rfl | exact ⟨rfl, rfl⟩ | (go_simp; first | done | rfl | exact ⟨rfl, rfl⟩)); clear hK K)
        refine wpQuiet_step (fun K hK => ?_)
        go_simp
        first
          | (refine hK _ ?_; clear hK K)
          | (apply Exists.intro; refine ⟨fun W hW => ?_, hK _ ?_⟩; (first | done | rfl | exact ⟨rfl, rfl⟩ | (go_simp; first | done | rfl | exact ⟨rfl, rfl⟩)); clear hK K)
        refine wpQuiet_step (fun K hK => ?_)
        go_simp
        first
          | (refine hK _ ?_; clear hK K)
          | (apply Exists.intro; refine ⟨fun W hW => ?_, hK _ ?_⟩; (first | done | rfl | exact ⟨rfl, rfl⟩ | (go_simp; first | done | rfl | exact ⟨rfl, rfl⟩)); clear hK K)
        refine wpQuiet_step (fun K hK => ?_)
        go_simp
        first
          | (refine hK _ ?_; clear hK K)
          | (apply Exists.intro; refine ⟨fun W hW => ?_, hK _ ?_⟩; (first | done | rfl | exact ⟨rfl, rfl⟩ | (go_simp; first | done | rfl | exact ⟨rfl, rfl⟩)); clear hK K)
        refine wpQuiet_step (fun K hK => ?_)
        go_simp
        apply Exists.intro
        refine ⟨fun W hW => ?_, hK _ ?_⟩
        · go_simp
          first | done | rfl | exact ⟨rfl, rfl⟩
        clear hK K
        refine wpQuiet_step (fun K hK => ?_)
        go_simp
        apply Exists.intro
        refine ⟨fun W hW => ?_, hK _ ?_⟩
        · go_simp
          first | done | rfl | exact ⟨rfl, rfl⟩
        clear hK K
        refine wpQuiet_step (fun K hK => ?_)
        go_simp
        apply Exists.intro
        refine ⟨fun W hW => ?_, hK _ ?_⟩
        · go_simp
          exact SO.out W hW
        clear hK K
        refine wpQuiet_step (fun K hK => ?_)
        go_simp
        first
          | (refine hK _ ?_; clear hK K)
          | (apply Exists.intro; refine ⟨fun W hW => ?_, hK _ ?_⟩; (first | done | rfl | exact ⟨rfl, rfl⟩ | (go_simp; first | done | rfl | exact ⟨rfl, rfl⟩)); clear hK K)
        refine wpQuiet_step (fun K hK => ?_)
        go_simp
        first
          | (refine hK _ ?_; clear hK K)
          | (apply Exists.intro; refine ⟨fun W hW => ?_, hK _ ?_⟩; (first | done | rfl | exact ⟨rfl, rfl⟩ | (go_simp; first | done | rfl | exact ⟨rfl, rfl⟩)); clear hK K)
        refine wpQuiet_step (fun K hK => ?_)
        go_simp
        first
          | (refine hK _ ?_; clear hK K)
          | (apply Exists.intro; refine ⟨fun W hW => ?_, hK _ ?_⟩; (first | done | rfl | exact ⟨rfl, rfl⟩ | (go_simp; first | done | rfl | exact ⟨rfl, rfl⟩)); clear hK K)
        refine wpQuiet_step (fun K hK => ?_)
        go_simp
        first
          | (refine hK _ ?_; clear hK K)
          | (apply Exists.intro; refine ⟨fun W hW => ?_, hK _ ?_⟩; (first | done | rfl | exact ⟨rfl, rfl⟩ | (go_simp; first | done | rfl | exact ⟨rfl, rfl⟩)); clear hK K)
        refine wpQuiet_step (fun K hK => ?_)
        go_simp
        first
          | (refine hK _ ?_; clear hK K)
          | (apply Exists.intro; refine ⟨fun W hW => ?_, hK _ ?_⟩; (first | done | rfl | exact ⟨rfl, rfl⟩ | (go_simp; first | done | rfl | exact ⟨rfl, rfl⟩)); clear hK K)
        refine wpQuiet_step (fun K hK => ?_)
        go_simp
        first
          | (refine hK _ ?_; clear hK K)
          | (apply Exists.intro; refine ⟨fun W hW => ?_, hK _ ?_⟩; (first | done | rfl | exact ⟨rfl, rfl⟩ | (go_simp; first | done | rfl | exact ⟨rfl, rfl⟩)); clear hK K)
        refine wpQuiet_step (fun K hK => ?_)
        go_simp
        first
          | (refine hK _ ?_; clear hK K)
          | (apply Exists.intro; refine ⟨fun W hW => ?_, hK _ ?_⟩; (first | done | rfl | exact ⟨rfl, rfl⟩ | (go_simp; first | done | rfl | exact ⟨rfl, rfl⟩)); clear hK K)
        refine wpQuiet_step (fun K hK => ?_)
        go_simp
        first
          | (refine hK _ ?_; clear hK K)
          | (apply Exists.intro; refine ⟨fun W hW => ?_, hK _ ?_⟩; (first | done | rfl | exact ⟨rfl, rfl⟩ | (go_simp; first | done | rfl | exact ⟨rfl, rfl⟩)); clear hK K)
        refine wpQuiet_step (fun K hK => ?_)
        go_simp
        first
          | (refine hK _ ?_; clear hK K)
          | (apply Exists.intro; refine ⟨fun W hW => ?_, hK _ ?_⟩; (first | done | rfl | exact ⟨rfl, rfl⟩ | (go_simp; first | done | rfl | exact ⟨rfl, rfl⟩)); clear hK K)
        refine wpQuiet_step (fun K hK => ?_)
        go_simp
        first
          | (refine hK _ ?_; clear hK K)
          | (apply Exists.intro; refine ⟨fun W hW => ?_, hK _ ?_⟩; (first | done | rfl | exact ⟨rfl, rfl⟩ | (go_simp; first | done | rfl | exact ⟨rfl, rfl⟩)); clear hK K)
        refine wpQuiet_step (fun K hK => ?_)
        go_simp
        first
          | (refine hK _ ?_; clear hK K)
          | (apply Exists.intro; refine ⟨fun W hW => ?_, hK _ ?_⟩; (first | done | rfl | exact ⟨rfl, rfl⟩ | (go_simp; first | done | rfl | exact ⟨rfl, rfl⟩)); clear hK K)
        refine wpQuiet_step (fun K hK => ?_)
        go_simp
        apply Exists.intro
        refine ⟨fun W hW => ?_, hK _ ?_⟩
        · go_simp
          first | done | rfl | exact ⟨rfl, rfl⟩
        clear hK K
        refine wpQuiet_step (fun K hK => ?_)
        go_simp
        apply Exists.intro
        refine ⟨fun W hW => ?_, hK _ ?_⟩
        · go_simp
          first | done | rfl | exact ⟨rfl, rfl⟩
        clear hK K
        refine wpQuiet_step (fun K hK => ?_)
        go_simp
        apply Exists.intro
        refine ⟨fun W hW => ?_, hK _ ?_⟩
        · go_simp
          exact SQ.out W hW
        clear hK K
        refine wpQuiet_step (fun K hK => ?_)
        go_simp
        first
          | (refine hK _ ?_; clear hK K)
          | (apply Exists.intro; refine ⟨fun W hW => ?_, hK _ ?_⟩; (first | done | rfl | exact ⟨rfl, rfl⟩ | (go_simp; first | done | rfl | exact ⟨rfl, rfl⟩)); clear hK K)
        refine wpQuiet_step (fun K hK => ?_)
        go_simp
        first
          | (refine hK _ ?_; clear hK K)
          | (apply Exists.intro; refine ⟨fun W hW => ?_, hK _ ?_⟩; (first | done | rfl | exact ⟨rfl, rfl⟩ | (go_simp; first | done | rfl | exact ⟨rfl, rfl⟩)); clear hK K)
        refine wpQuiet_step (fun K hK => ?_)
        go_simp
        apply Exists.intro
        refine ⟨fun W hW => ?_, hK _ ?_⟩
        · go_simp
          first | done | rfl | exact ⟨rfl, rfl⟩
        clear hK K
        refine wpQuiet_step (fun K hK => ?_)
        go_simp
        apply Exists.intro
        refine ⟨fun W hW => ?_, hK _ ?_⟩
        · go_simp
          first | done | rfl | exact ⟨rfl, rfl⟩
        clear hK K
        refine wpQuiet_step (fun K hK => ?_)
        go_simp
        apply Exists.intro
        refine ⟨fun W hW => ?_, hK _ ?_⟩
        · go_simp
          exact SP.out W hW
        clear hK K
        refine wpQuiet_step (fun K hK => ?_)
        go_simp
        first
          | (refine hK _ ?_; clear hK K)
          | (apply Exists.intro; refine ⟨fun W hW => ?_, hK _ ?_⟩; (first | done | rfl | exact ⟨rfl, rfl⟩ | (go_simp; first | done | rfl | exact ⟨rfl, rfl⟩)); clear hK K)
        refine wpQuiet_step (fun K hK => ?_)
        go_simp
        first
          | (refine hK _ ?_; clear hK K)
          | (apply Exists.intro; refine ⟨fun W hW => ?_, hK _ ?_⟩; (first | done | rfl | exact ⟨rfl, rfl⟩ | (go_simp; first | done | rfl | exact ⟨rfl, rfl⟩)); clear hK K)
        refine wpQuiet_step (fun K hK => ?_)
        go_simp
        apply Exists.intro
        refine ⟨fun W hW => ?_, hK _ ?_⟩
        · go_simp
          exact KN.out W hW
        clear hK K
        refine wpQuiet_step (fun K hK => ?_)
        go_simp
        first
          | (refine hK _ ?_; clear hK K)
          | (apply Exists.intro; refine ⟨fun W hW => ?_, hK _ ?_⟩; (first | done | rfl | exact ⟨rfl, rfl⟩ | (go_simp; first | done | rfl | exact ⟨rfl, rfl⟩)); clear hK K)
        refine wpQuiet_step (fun K hK => ?_)
        go_simp
        first
          | (refine hK _ ?_; clear hK K)
          | (apply Exists.intro; refine ⟨fun W hW => ?_, hK _ ?_⟩; (first | done | rfl | exact ⟨rfl, rfl⟩ | (go_simp; first | done | rfl | exact ⟨rfl, rfl⟩)); clear hK K)
        refine wpQuiet_nil ?_
        intro W hW
        go_wp2
        go_ret
        exact ⟨rfl, H5.out.2.1.then_ hW⟩
end Go.Proofs.Ythepcoifcoinoaa
