/- Walks over package page (layer 4): Look, where the sum is another one. -/
import Derived.Test.YthepcoifcoinoaaPRa16
import Derived.Deep.RegionWith
import Derived.Test.YthepcoifcoinoaaPRa17

namespace Go.Proofs.Ythepcoifcoinoaa
open Go.RowKit

theorem cast32 (n : Nat) (h : n < 4294967296) : wrap64 (n : Int) = n := by unfold wrap64; omega

set_option maxRecDepth 100000 in
set_option maxHeartbeats 4000000 in
theorem look_sum (w : World) (A : Option Addr) (c : Nat) (l : List UInt8) (hB : Bytes w w.heap.size (.slice A l.length c) l) (hl : l.length = 256) (hs : ¬ beN (l.take 4) = crcSum (l.drop 4)) :
    Calls Try.prog 14 #[.slice A 256 c] w fun e w' => e = .returned (noLook 140) ∧ Keeps w w' [] := by
  have hmf : ∀ (fn : Fn) (first cap : Array Value) (w : World), (Instr.makeFunc fn first cap).run Try.prog w = .ok (.func fn first cap) w := fun _ _ _ _ => rfl
  have hc : 256 ≤ c ∧ c ≤ 9223372036854775807 := by
    obtain ⟨A', c', h1, h2, h3, h4, _⟩ := hB
    injection h1 with e1 e2 e3
    subst e3
    simp only [maxLen] at h4
    omega
  obtain ⟨hc1, hc2⟩ := hc
  have hcne : ¬ c = 4 := by omega
  have hb4 : beN (l.take 4) < 4294967296 := by
    have := beN_lt (l.take 4)
    rw [show (l.take 4).length = 4 by rw [List.length_take]; omega] at this
    exact this
  have hcs := crcSum_lt (l.drop 4)
  have HSUM := Lib.hid (show (((beN (l.take 4) : Nat) : Int) == ((crcSum (l.drop 4) : Nat) : Int)) = false by simp; omega)
  have HL := Lib.hid hl
  have HB := Lib.hid hB
  have HN := Lib.hid (show (l.drop 4).length = 252 by rw [List.length_drop]; omega)
  have HLL := Lib.hid (show ∀ W : World, Keeps w W [] → Lies W w.heap.size (A.map (·.add 4)) ((l.drop 4).map byteV) from fun W hk => by
    have := (hB.lies.below (hk.below (Nat.le_refl _) (by simp))).cut (k := 4) (cap := c) (by simp; omega)
    rw [if_neg (by omega), ← List.map_drop] at this
    exact this)
  clear hB hl hs
  go_enter_defers Try.func14, Try.ntmps14
  go_wp2_with fail
  obtain ⟨W, hW, r2, r3, r4, hk, hsz⟩ := look_boxes w
  rw [← hW]
  have hWs : w.heap.size + 3 ≤ W.heap.size := by omega
  have H0 := Lib.hid (And.intro r2 (And.intro r3 (And.intro r4 hk)))
  clear hW r2 r3 r4 hk hsz
  refine (must_yes _ _).mono ?_
  rintro e w1 ⟨rfl, rfl⟩
  go_wp2_with fail
  rw [← HL.out]
  refine (newReader_any W _ l ((HB.out.below (H0.out.2.2.2.below (Nat.le_refl _) (by simp))).mono (by omega))).mono ?_
  rw [HL.out]
  rintro e w2 ⟨r, rfl, hr, hk2⟩
  have hs2 := hk2.size
  have H2 := Lib.hid (And.intro hr hk2)
  clear hr hk2
  go_wp2_with fail
  obtain ⟨W3, hW3⟩ : ∃ W3, w2.alloc (.cells #[.pointer (some ⟨r, 0, none⟩)] 71) = W3 := ⟨_, rfl⟩
  have hk3 : Keeps w2 W3 [] := by rw [← hW3]; exact Keeps.alloc _ _
  have hb3 : Row W3 w2.heap.size 71 #[.pointer (some ⟨r, 0, none⟩)] := by rw [← hW3]; exact Row.new _ _ _
  rw [hW3]
  have hs3 : w2.heap.size + 1 = W3.heap.size := by rw [← hW3]; simp
  have H3 := Lib.hid (show ∀ wc : World, Keeps W3.drew wc [] → wc.cell? ⟨w2.heap.size, 0, none⟩ = some (.pointer (some ⟨r, 0, none⟩)) ∧ Rd wc W.heap.size r l from fun wc hkc => by
    have hk3c := (hk3.trans (Keeps.drew _) (by simp)).trans hkc (by simp)
    refine ⟨?_, H2.out.1.keep hk3c (by simp)⟩
    have := (hb3.keep ((Keeps.drew _).trans hkc (by simp)) (by simp)).cell 0
    simpa using this)
  have H3k := Lib.hid (show Keeps W W3 [] from H2.out.2.trans hk3 (by simp))
  have hs3' : w2.heap.size + 1 ≤ W3.heap.size := by omega
  clear hk3 hb3 hs3 hW3
  refine wp_region_any (by kernel_rfl) ?_
  refine wpAny_tmps (Q3 := fun e a w' => match e with
    | .panic ch => ch = [{ v := stopV 140, recovered := false }] ∧ a.defers = [{ target := .fn (.func 35) #[.pointer (some ⟨w.heap.size, 0, none⟩), .pointer (some ⟨w.heap.size + 1, 0, none⟩), .pointer (some ⟨w.heap.size + 1 + 1, 0, none⟩)], args := #[] }] ∧ Keeps W w' []
    | _ => False) _ [17, 18, 19, 20, 21, 22, 23, 24, 25] (by kernel_rfl) ?hp (fun _ _ _ h => h.elim) (fun ⟨_, _, h⟩ => h.elim) _ _ _ _ (fun _ _ => rfl) ?_
  case hp =>
    rintro ch a w' hsame ⟨rfl, hd, hkw⟩
    obtain ⟨r2, r3, r4, hk⟩ := H0.out
    obtain ⟨t, ds⟩ := a
    simp only at hd
    subst hd
    exact look_door w w' t _ _ _ 140 _ _ _ _ _ _ (hsame 2 (by simp)) (hsame 3 (by simp)) (hsame 4 (by simp)) (r2.keep hkw (by simp)) (r3.keep hkw (by simp)) (r4.keep hkw (by simp)) (hk.trans hkw (by simp)) (by omega) (by omega) (by omega)
  refine wpAny_take (i := 0) (v := ?_) rfl (by kernel_rfl) (by kernel_rfl) (by kernel_rfl) (fun _ _ _ h => h) (Or.inl ⟨by rfl, ?_⟩) ?_
  rotate_left
  · intro w; go_simp; try rfl
  refine wpAny_take (i := 2) (v := ?_) rfl (by kernel_rfl) (by kernel_rfl) (by kernel_rfl) (fun _ _ _ h => h) (Or.inl ⟨by rfl, ?_⟩) ?_
  rotate_left
  · intro w; go_simp; try rfl
  refine wpAny_take (i := 3) (v := ?_) rfl (by kernel_rfl) (by kernel_rfl) (by kernel_rfl) (fun _ _ _ h => h) (Or.inl ⟨by rfl, ?_⟩) ?_
  rotate_left
  · intro w; go_simp; try rfl
  refine wpAny_ready (rs := [1, 4]) (by kernel_rfl) (by simp) ?_
  refine AllReady.cons rfl (fun K hK => ?_) (AllReady.cons rfl (fun K hK => ?_) AllReady.nil)
  · go_simp
    have h3 := H3.out W3.drew (Keeps.refl _ _)
    refine (lookTake_any W3.drew W.heap.size r w2.heap.size 4 4 rfl l h3.1 h3.2 (by omega) (by omega) (by rw [HL.out]; omega)).mono ?_
    clear h3
    rintro e w4 ⟨rfl, hr4, hk4⟩
    have hs4 : W3.heap.size ≤ w4.heap.size := hk4.size
    have hrW := (H2.out.1).choose_spec.choose_spec.2.1
    have H4 := Lib.hid (show Keeps W w4 [] from (H3k.out.trans (Keeps.drew _) (by simp)).trans hk4 (fun x hx hl => by simp at hx; omega))
    clear hr4 hk4
    refine hK _ _ ?_
    clear hK K
    refine wpAny_ready (rs := [4]) (by kernel_rfl) (by simp) ?_
    refine AllReady.cons rfl (fun K hK => ?_) AllReady.nil
    go_simp
    refine hK _ _ ?_
    clear hK K
    refine wpAny_ready (rs := [5]) (by kernel_rfl) (by simp) ?_
    refine AllReady.cons rfl (fun K hK => ?_) AllReady.nil
    go_simp
    refine (crcSum_any (w4.alloc (.cells #[.slice (A.map (·.add 4)) 252 (c - 4)] 22)) w4.heap.size (A.map (·.add 4)) (c - 4) (l.drop 4) (by rw [HN.out]; omega) (by rw [HN.out]; omega) (by simp) (by rw [HN.out]; exact (Row.new w4 22 #[.slice (A.map (·.add 4)) 252 (c - 4)]).cell 0) ((HLL.out (w4.alloc (.cells #[.slice (A.map (·.add 4)) 252 (c - 4)] 22)) ((H0.out.2.2.2.trans H4.out (by simp)).trans (Keeps.alloc w4 _) (by simp))).mono (by simp; omega))).mono ?_
    rintro e w5 ⟨rfl, hk5⟩
    have H5 := Lib.hid (show Keeps W w5 [] from (H4.out.trans (Keeps.alloc _ _) (by simp)).trans hk5 (by simp))
    clear hk5
    refine hK _ _ ?_
    clear hK K
    refine wpAny_ready (rs := [6]) (by kernel_rfl) (by simp) ?_
    refine AllReady.cons rfl (fun K hK => ?_) AllReady.nil
    go_simp
    refine hK _ _ ?_
    clear hK K
    refine wpAny_ready (rs := [7]) (by kernel_rfl) (by simp) ?_
    refine AllReady.cons rfl (fun K hK => ?_) AllReady.nil
    go_simp
    refine hK _ _ ?_
    clear hK K
    refine wpAny_ready (rs := [8]) (by kernel_rfl) (by simp) ?_
    refine AllReady.cons rfl (fun K hK => ?_) AllReady.nil
    go_simp
    rw [cast32 _ hb4, IntWalk.i64_in _ (by omega), HSUM.out]
    refine (must_no _ _).mono ?_
    rintro e w6 ⟨rfl, rfl⟩
    exact ⟨rfl, H5.out⟩
  · go_simp
    refine hK _ _ ?_
    clear hK K
    refine wpAny_ready (rs := [1]) (by kernel_rfl) (by simp) ?_
    refine AllReady.cons rfl (fun K hK => ?_) AllReady.nil
    go_simp
    have h3 := H3.out (W3.drew.alloc (.cells #[.slice (A.map (·.add 4)) 252 (c - 4)] 22)) (Keeps.alloc _ _)
    refine (lookTake_any _ W.heap.size r w2.heap.size 4 4 rfl l h3.1 h3.2 (by omega) (by omega) (by rw [HL.out]; omega)).mono ?_
    clear h3
    rintro e w4 ⟨rfl, hr4, hk4⟩
    have hs4 : W3.heap.size + 1 ≤ w4.heap.size := by have := hk4.size; simpa using this
    have hrW := (H2.out.1).choose_spec.choose_spec.2.1
    have hrl := (H2.out.1).choose_spec.choose_spec.1.lt
    have hrow := (Row.new W3.drew 22 #[.slice (A.map (·.add 4)) 252 (c - 4)]).keep hk4 (by simp; omega)
    have H4 := Lib.hid (And.intro (show Keeps W w4 [] from ((H3k.out.trans (Keeps.drew _) (by simp)).trans (Keeps.alloc _ _) (by simp)).trans hk4 (fun x hx hl => by simp at hx; omega)) hrow)
    clear hr4 hk4 hrow
    refine hK _ _ ?_
    clear hK K
    refine wpAny_ready (rs := [5]) (by kernel_rfl) (by simp) ?_
    refine AllReady.cons rfl (fun K hK => ?_) AllReady.nil
    go_simp
    refine (crcSum_any w4 W3.heap.size (A.map (·.add 4)) (c - 4) (l.drop 4) (by rw [HN.out]; omega) (by rw [HN.out]; omega) (by omega) (by rw [HN.out]; exact H4.out.2.cell 0) ((HLL.out w4 (H0.out.2.2.2.trans H4.out.1 (by simp))).mono (by omega))).mono ?_
    rintro e w5 ⟨rfl, hk5⟩
    have H5 := Lib.hid (show Keeps W w5 [] from H4.out.1.trans hk5 (by simp))
    clear hk5
    refine hK _ _ ?_
    clear hK K
    refine wpAny_ready (rs := [6]) (by kernel_rfl) (by simp) ?_
    refine AllReady.cons rfl (fun K hK => ?_) AllReady.nil
    go_simp
    refine hK _ _ ?_
    clear hK K
    refine wpAny_ready (rs := [7]) (by kernel_rfl) (by simp) ?_
    refine AllReady.cons rfl (fun K hK => ?_) AllReady.nil
    go_simp
    refine hK _ _ ?_
    clear hK K
    refine wpAny_ready (rs := [8]) (by kernel_rfl) (by simp) ?_
    refine AllReady.cons rfl (fun K hK => ?_) AllReady.nil
    go_simp
    rw [cast32 _ hb4, IntWalk.i64_in _ (by omega), HSUM.out]
    refine (must_no _ _).mono ?_
    rintro e w6 ⟨rfl, rfl⟩
    exact ⟨rfl, H5.out⟩
end Go.Proofs.Ythepcoifcoinoaa
