/- The reference of layer 7: New. -/
import Derived.Test.YtanbdkfkkochgaaPa24
import Derived.Laws.OwnMore

namespace Go.Proofs.Ytanbdkfkkochgaa
open Go.RowKit Go.Maps Go.Shelf

def onesL (n k : Nat) : List Nat := 0 :: 0 :: (List.replicate (k - 2) 1 ++ List.replicate (n - k) 0)
theorem onesL_length {n k : Nat} (h2 : 2 ≤ k) (hk : k ≤ n) : (onesL n k).length = n := by simp [onesL]; omega
theorem onesL_zero {n : Nat} (hn : 2 ≤ n) : onesL n 2 = List.replicate n 0 := by
  obtain ⟨m, rfl⟩ : ∃ m, n = m + 2 := ⟨n - 2, by omega⟩
  simp [onesL, List.replicate_succ]
theorem onesL_all {n : Nat} : onesL n n = baseL n := by simp [onesL, baseL]
theorem onesL_step {n k : Nat} (h2 : 2 ≤ k) (hk : k < n) : (onesL n k).set k 1 = onesL n (k + 1) := by
  obtain ⟨j, rfl⟩ : ∃ j, k = j + 2 := ⟨k - 2, by omega⟩
  obtain ⟨m, rfl⟩ : ∃ m, n = j + 2 + (m + 1) := ⟨n - (j + 2) - 1, by omega⟩
  unfold onesL
  rw [List.set_cons_succ, List.set_cons_succ, show j + 2 - 2 = j by omega, show j + 2 + (m + 1) - (j + 2) = m + 1 by omega, show j + 2 + 1 - 2 = j + 1 by omega, show j + 2 + (m + 1) - (j + 2 + 1) = m by omega,
    List.set_append_right _ _ (by simp), List.length_replicate, Nat.sub_self, List.replicate_succ, List.set_cons_zero, List.replicate_succ', List.append_assoc]
  rfl
theorem made_zeros (n : Nat) : (madeCells (Value.int .i64 0).cells (n * 1)).toList = (List.replicate n 0).map natV := by
  rw [Nat.mul_one, List.map_replicate]
  refine List.ext_getElem (by simp [madeCells]) fun i h1 h2 => ?_
  simp [madeCells, Value.cells, natV, Nat.mod_one]
theorem risesB_step {last high x : Int} {l : List Int} (h : last < x ∧ x < high) : risesB last high (x :: l) = risesB x high l := by simp [risesB, h.1, h.2]
theorem risesB_no {last high x : Int} {l : List Int} (h : ¬ (last < x ∧ x < high)) : risesB last high (x :: l) = false := by
  simp only [risesB, Bool.and_eq_false_iff, decide_eq_false_iff_not]
  by_cases h1 : last < x
  · exact .inl (.inr fun h2 => h ⟨h1, h2⟩)
  · exact .inl (.inl h1)
theorem new_door (W : World) (t : Array Value) (b : Nat) (x0 x1 x2 y : Value) (h : t.getD 6 undef = .pointer (some ⟨b, 0, none⟩)) (h7 : t.getD 7 undef = y) (r : Row W b 39 #[x0, x1, x2]) (R : Ending → World → Prop) (hR : R (.returned (.tuple #[.agg #[x0, x1, x2], y])) W) :
    bodyPost Try.prog Try.f17 R Exit.ret { tmps := t, defers := [] } W := by
  have c0 := r.cell 0
  have c1 := r.cell 1
  have c2 := r.cell 2
  rw [Array.getD_eq_getD_getElem?] at h h7
  simp at c0 c1 c2
  refine bodyPost_ret (v := .tuple #[.agg #[x0, x1, x2], y]) ?_ rfl hR
  simp [results, Try.results17, go_sem, h, h7, c0, c1, c2]
def RefMade (w : World) (most : Int) (o : Option (List Nat)) (e : Ending) (w' : World) : Prop := Keeps w w' [] ∧ match o with
  | none => e = .returned (.tuple #[.agg #[.int .i64 0, .slice none 0 0, .slice none 0 0], .bool false])
  | some L => ∃ g, e = .returned (.tuple #[g, .bool true]) ∧ RefAt w' g most L L
set_option maxRecDepth 100000 in
set_option maxHeartbeats 2000000 in
theorem refNew_bad (w : World) (most high : Int) (A : Option Addr) (n c : Nat) (h : ¬ (2 ≤ most ∧ most ≤ 4096 ∧ 2 ≤ high ∧ high ≤ most)) :
    Calls Try.prog 17 #[.int .i64 most, .int .i64 high, .slice A n c] w (RefMade w most none) := by
  by_cases h1 : most < 2
  · clear h
    go_enter Try.func17, Try.ntmps17
    go_wp2_with fail
    exact new_door _ _ w.heap.size _ _ _ _ rfl rfl (Row.new _ _ _) _ ⟨Keeps.alloc _ _, rfl⟩
  · by_cases h2 : most > 4096
    · clear h
      go_enter Try.func17, Try.ntmps17
      go_wp2_with fail
      exact new_door _ _ w.heap.size _ _ _ _ rfl rfl (Row.new _ _ _) _ ⟨Keeps.alloc _ _, rfl⟩
    · by_cases h3 : high < 2
      · clear h
        go_enter Try.func17, Try.ntmps17
        go_wp2_with fail
        exact new_door _ _ w.heap.size _ _ _ _ rfl rfl (Row.new _ _ _) _ ⟨Keeps.alloc _ _, rfl⟩
      · have h4 : high > most := by omega
        clear h
        go_enter Try.func17, Try.ntmps17
        go_wp2_with fail
        exact new_door _ _ w.heap.size _ _ _ _ rfl rfl (Row.new _ _ _) _ ⟨Keeps.alloc _ _, rfl⟩
/-- Within the loops of New. -/
structure RNewAt (w wr : World) (n g : Nat) (l : List Nat) : Prop where
  r : Row wr w.heap.size 39 #[.int .i64 0, .slice none 0 0, .slice none 0 0]
  own : wr.ownsRow (w.heap.size + 1) 3 1 (.slice (some ⟨g, 0, none⟩) n n) n (l.map natV)
  h : Keeps w wr []
theorem RNewAt.store {w wr : World} {n g k : Nat} {l : List Nat} (h : RNewAt w wr n g l) (hk : k < n) (hg : w.heap.size + 1 ≤ g) (v : Nat) : RNewAt w (wr.setCell ⟨g, k, none⟩ (natV v)) n g (l.set k v) := by
  have a1 : Keeps wr (wr.setCell ⟨g, k, none⟩ (natV v)) [g] := Keeps.setCell _ _ _
  exact ⟨h.r.keep a1 (by simp; omega), ownsRow_set h.own hk v, h.h.trans a1 (fun y hy hlt => by simp at hy; omega)⟩
theorem RNewAt.keeps {w wr wr' : World} {n g : Nat} {l : List Nat} (h : RNewAt w wr n g l) (hk : Keeps wr wr' []) : RNewAt w wr' n g l :=
  ⟨h.r.keeps hk, own_keep h.own hk (by simp), h.h.then_ hk⟩
theorem RNewAt.has {w wr : World} {n g k : Nat} {l : List Nat} (h : RNewAt w wr n g l) (hk : k < n) : (∃ u, wr.cell? ⟨g, k, none⟩ = some u) ∧ wr.frozen? ⟨g, k, none⟩ = false := by
  have hl : k < (l.map natV).length := by have := h.own.1; omega
  obtain ⟨g', e, _, hc, hf⟩ := own_cell h.own (List.getElem?_eq_getElem hl)
  injection e with e
  injection e with e
  subst e
  exact ⟨⟨_, hc⟩, hf⟩
set_option maxRecDepth 100000 in
set_option maxHeartbeats 4000000 in
theorem refNew_ok (w : World) (most n : Nat) (A : Option Addr) (c : Nat) (free : List Int) (hA : Lies w w.heap.size A (free.map (Value.int .i64))) (h1 : 2 ≤ n) (h2 : n ≤ most) (h3 : most ≤ 4096) (hl : free.length ≤ 1000000) :
    Calls Try.prog 17 #[.int .i64 (most : Int), .int .i64 (n : Int), .slice A free.length c] w (RefMade w most (if risesB 1 n free = true then some (setAll (baseL n) free 4) else none)) := by
  obtain ⟨O, hO⟩ : ∃ O, (if risesB 1 n free = true then some (setAll (baseL n) free 4) else none) = O := ⟨_, rfl⟩
  rw [hO]
  have HO := Lib.hid hO
  have HA := Lib.hid hA
  clear hO hA
  have hI : (2 : Int) ≤ (n : Int) ∧ (n : Int) ≤ (most : Int) ∧ (most : Int) ≤ 4096 := by omega
  obtain ⟨hI1, hI2, hI3⟩ := hI
  have d1 : ¬ ((most : Int) < 2) := by omega
  have d2 : ¬ ((most : Int) > 4096) := by omega
  have d3 : ¬ ((n : Int) < 2) := by omega
  have d4 : ¬ ((n : Int) > (most : Int)) := by omega
  have d5 : decide (most < n) = false := by simpa using h2
  go_enter Try.func17, Try.ntmps17
  obtain ⟨W0, hW0⟩ : ∃ W0, w.alloc (.cells #[.int .i64 0, .slice none 0 0, .slice none 0 0] 39) = W0 := ⟨_, rfl⟩
  have r0 := Row.new w 39 #[.int .i64 0, .slice none 0 0, .slice none 0 0]
  have k0 := Keeps.alloc w (.cells #[.int .i64 0, .slice none 0 0, .slice none 0 0] 39)
  have s0 : W0.heap.size = w.heap.size + 1 := by rw [← hW0]; simp
  rw [hW0] at r0 k0
  obtain ⟨i0, ht0, hi0, hz0, hz1, hz2⟩ := elemInt
  obtain ⟨w2, hrun, ho2, hk2⟩ := run_make_full (P := Try.prog) W0 (w.heap.size + 1) 24 3 i0 (.int .i64 0) 1 ht0 hi0 hz0 hz1 .i64 .i64 n (by rw [hz2]; omega) (by unfold maxLen; omega) (by omega)
  have hsz0 := s0
  rw [made_zeros, s0] at ho2
  rw [s0] at hrun
  have HS := Lib.hid (show RNewAt w w2 n (w.heap.size + 1) (onesL n 2) from ⟨r0.keeps (Keeps.of_grown hk2), by rw [onesL_zero h1]; exact ho2, k0.then_ (Keeps.of_grown hk2)⟩)
  subst hW0
  clear r0 k0 s0 hsz0 ho2 hk2 i0 ht0 hi0 hz0 hz1 hz2
  go_wp2_with fail
  clear d1 d2 d3 d4 d5 hrun
  go_loopw [9] (fun i wr => ∃ k : Nat, 2 ≤ k ∧ k ≤ n ∧ i = .int .i64 k ∧ Hid (RNewAt w wr n (w.heap.size + 1) (onesL n k))) (fun i _ => n - (intOf i).toNat)
  case atStart => exact ⟨2, Nat.le_refl _, h1, rfl, HS⟩
  case round =>
    clear HS
    obtain ⟨k, hk2, hk, rfl, HR⟩ := hrel
    by_cases hkl : k < n
    · obtain ⟨⟨u, hu⟩, hf⟩ := HR.out.has hkl
      have HS := Lib.hid (HR.out.store hkl (Nat.le_refl _) 1)
      rw [onesL_step hk2 hkl] at HS
      go_wp2_with fail
      exact ⟨⟨k + 1, by omega, by omega, by go_num, HS⟩, by simp [intOf]; omega⟩
    · obtain rfl : k = n := by omega
      have HS := Lib.hid (show RNewAt w wr k (w.heap.size + 1) (setAll (baseL k) (free.take 0) 4) from by rw [List.take_zero]; have := HR.out; rwa [onesL_all] at this)
      have hkI : (k : Int) ≤ 4096 := by omega
      clear HR
      go_wp2_with fail
      go_loopw [10] (fun i wz => ∃ (j : Nat) (ll : Int), j ≤ free.length ∧ i = .int .i64 j ∧ Hid (RNewAt w wz k (w.heap.size + 1) (setAll (baseL k) (free.take j) 4)) ∧ Hid (risesB 1 k free = risesB ll k (free.drop j)) ∧ Hid (j = 0 ∧ ll = 1 ∨ ∃ m, j = m + 1 ∧ free[m]? = some ll ∧ 1 ≤ ll)) (fun i _ => free.length - (intOf i).toNat)
      case atStart => exact ⟨0, 1, Nat.zero_le _, rfl, HS, Lib.hid rfl, Lib.hid (.inl ⟨rfl, rfl⟩)⟩
      case round =>
        clear HS
        obtain ⟨j, ll, hj, rfl, HR, HB, HP⟩ := hrel
        by_cases hjl : j < free.length
        · obtain ⟨b, o, rfl, hb, hcell⟩ := (HA.out.keep HR.out.h (Nat.le_refl _) (by simp)).at_ (k := j) (by simpa using hjl)
          have HD := Lib.hid (List.drop_eq_getElem_cons hjl)
          have HT := Lib.hid (List.take_succ_eq_append_getElem hjl)
          have HX := Lib.hid (List.getElem?_eq_getElem hjl)
          rw [List.getElem_map] at hcell
          obtain ⟨x, hx⟩ : ∃ x, free[j] = x := ⟨_, rfl⟩
          rw [hx] at hcell HD HT HX
          clear hx
          have hll : 1 ≤ ll := by rcases HP.out with ⟨_, rfl⟩ | ⟨_, _, _, h⟩ <;> omega
          have M1 := fun (W' : World) (hW : Keeps wr W' []) => (hW.cell (p := ⟨b, o + j, none⟩) (Nat.lt_of_lt_of_le hb HR.out.h.size) (by simp)).trans hcell
          clear hb hcell
          by_cases a1 : x < 2
          · have HN := Lib.hid (show ¬ (ll < x ∧ x < (k : Int)) by omega)
            clear hll
            go_wp2_with fail
            refine wp_region_keeps _ (by kernel_rfl) rfl (by kernel_rfl) ?_
            apply loose_is
            · intro W vals hW hkn
              clear hkn
              refine ⟨?_⟩
              simp only [fill]
              go_simp
              first | exact ⟨Keeps.refl _ _, rfl⟩ | exact ⟨Keeps.alloc _ _, rfl⟩
            simp only [addEnt]
            apply loose_is
            · intro W vals hW hkn
              clear hkn
              refine ⟨?_⟩
              simp only [fill]
              go_simp
              first | exact ⟨Keeps.refl _ _, rfl⟩ | exact ⟨Keeps.alloc _ _, rfl⟩
            simp only [addEnt]
            apply loose_is
            · intro W vals hW hkn
              clear hkn
              refine ⟨?_⟩
              simp only [fill]
              go_simp
              first | exact ⟨Keeps.refl _ _, rfl⟩ | exact ⟨Keeps.alloc _ _, rfl⟩
            simp only [addEnt]
            apply loose_is
            · intro W vals hW hkn
              clear hkn
              refine ⟨?_⟩
              simp only [fill]
              go_simp
              first | exact ⟨Keeps.refl _ _, rfl⟩ | exact ⟨Keeps.alloc _ _, rfl⟩
            simp only [addEnt]
            apply loose_is
            · intro W vals hW hkn
              clear hkn
              refine ⟨?_⟩
              simp only [fill]
              go_simp
              first | exact ⟨Keeps.refl _ _, rfl⟩ | exact ⟨Keeps.alloc _ _, rfl⟩
            simp only [addEnt]
            apply loose_is
            · intro W vals hW hkn
              clear hkn
              refine ⟨?_⟩
              simp only [fill]
              go_simp
              first | exact ⟨Keeps.refl _ _, rfl⟩ | exact ⟨Keeps.alloc _ _, rfl⟩
            simp only [addEnt]
            refine loose_off (fun vals => by kernel_rfl) ?_
            simp only [addEnt]
            refine loose_off (fun vals => by kernel_rfl) ?_
            simp only [addEnt]
            refine loose_off (fun vals => by kernel_rfl) ?_
            simp only [addEnt]
            refine loose_off (fun vals => by kernel_rfl) ?_
            simp only [addEnt]
            refine loose_off (fun vals => by kernel_rfl) ?_
            simp only [addEnt]
            refine loose_off (fun vals => by kernel_rfl) ?_
            simp only [addEnt]
            apply loose_is
            · intro W vals hW hkn
              clear hkn
              refine ⟨?_⟩
              simp only [fill]
              go_simp
              first | exact ⟨Keeps.refl _ _, rfl⟩ | exact ⟨Keeps.alloc _ _, rfl⟩
            simp only [addEnt]
            apply loose_is
            · intro W vals hW hkn
              clear hkn
              refine ⟨?_⟩
              simp only [fill]
              go_simp
              first | exact ⟨Keeps.refl _ _, rfl⟩ | exact ⟨Keeps.alloc _ _, rfl⟩
            simp only [addEnt]
            refine loose_off (fun vals => by kernel_rfl) ?_
            simp only [addEnt]
            refine loose_off (fun vals => by kernel_rfl) ?_
            simp only [addEnt]
            refine loose_off (fun vals => by kernel_rfl) ?_
            simp only [addEnt]
            refine loose_off (fun vals => by kernel_rfl) ?_
            simp only [addEnt]
            refine loose_off (fun vals => by kernel_rfl) ?_
            simp only [addEnt]
            refine loose_off (fun vals => by kernel_rfl) ?_
            simp only [addEnt]
            refine loose_off (fun vals => by kernel_rfl) ?_
            simp only [addEnt]
            refine loose_off (fun vals => by kernel_rfl) ?_
            simp only [addEnt]
            refine loose_off (fun vals => by kernel_rfl) ?_
            simp only [addEnt]
            refine loose_off (fun vals => by kernel_rfl) ?_
            simp only [addEnt]
            refine loose_off (fun vals => by kernel_rfl) ?_
            simp only [addEnt]
            refine loose_off (fun vals => by kernel_rfl) ?_
            simp only [addEnt]
            refine loose_off (fun vals => by kernel_rfl) ?_
            simp only [addEnt]
            refine loose_off (fun vals => by kernel_rfl) ?_
            simp only [addEnt]
            apply loose_is
            · intro W vals hW hkn
              clear hkn
              refine ⟨?_⟩
              simp only [fill]
              go_simp
              first | exact ⟨Keeps.refl _ _, rfl⟩ | exact ⟨Keeps.alloc _ _, rfl⟩
            simp only [addEnt]
            refine loose_nil (fun W vals hW hkn => ?_)
            simp only [knowsAll] at hkn
            try simp only [and_true] at hkn
            simp only [fill, Act.put, List.setIfInBounds_toArray, List.set_cons_succ, List.set_cons_zero]
            clear hkn M1
            have q0 := HR.out.r.keeps hW
            have f0 := q0.cell 0
            have f1 := q0.cell 1
            have f2 := q0.cell 2
            simp only [List.getElem?_toArray, List.getElem?_cons_zero, List.getElem?_cons_succ] at f0 f1 f2
            have z0 := q0.frozen 0
            have z1 := q0.frozen 1
            have z2 := q0.frozen 2
            have HW := Lib.hid hW
            clear q0 hW
            go_wp2_with fail
            obtain ⟨p1, p2⟩ := ref_put (HR.out.r.keeps HW.out) (.int .i64 0) (.slice none 0 0) (.slice none 0 0)
            have kw : Keeps w _ [] := (HR.out.h.then_ HW.out).trans p2 (fun y hy hlt => by simp at hy; omega)
            have hO : O = none := by rw [← HO.out, HB.out, HD.out, risesB_no HN.out]; rfl
            subst hO
            exact new_door _ _ w.heap.size _ _ _ _ rfl rfl p1 _ ⟨kw, rfl⟩
          · by_cases a2 : (k : Int) ≤ x
            · have HN := Lib.hid (show ¬ (ll < x ∧ x < (k : Int)) by omega)
              clear hll
              go_wp2_with fail
              refine wp_region_keeps _ (by kernel_rfl) rfl (by kernel_rfl) ?_
              apply loose_is
              · intro W vals hW hkn
                clear hkn
                refine ⟨?_⟩
                simp only [fill]
                go_simp
                first | exact ⟨Keeps.refl _ _, rfl⟩ | exact ⟨Keeps.alloc _ _, rfl⟩
              simp only [addEnt]
              apply loose_is
              · intro W vals hW hkn
                clear hkn
                refine ⟨?_⟩
                simp only [fill]
                go_simp
                first | exact ⟨Keeps.refl _ _, rfl⟩ | exact ⟨Keeps.alloc _ _, rfl⟩
              simp only [addEnt]
              apply loose_is
              · intro W vals hW hkn
                clear hkn
                refine ⟨?_⟩
                simp only [fill]
                go_simp
                first | exact ⟨Keeps.refl _ _, rfl⟩ | exact ⟨Keeps.alloc _ _, rfl⟩
              simp only [addEnt]
              apply loose_is
              · intro W vals hW hkn
                clear hkn
                refine ⟨?_⟩
                simp only [fill]
                go_simp
                first | exact ⟨Keeps.refl _ _, rfl⟩ | exact ⟨Keeps.alloc _ _, rfl⟩
              simp only [addEnt]
              apply loose_is
              · intro W vals hW hkn
                clear hkn
                refine ⟨?_⟩
                simp only [fill]
                go_simp
                first | exact ⟨Keeps.refl _ _, rfl⟩ | exact ⟨Keeps.alloc _ _, rfl⟩
              simp only [addEnt]
              apply loose_is
              · intro W vals hW hkn
                clear hkn
                refine ⟨?_⟩
                simp only [fill]
                go_simp
                first | exact ⟨Keeps.refl _ _, rfl⟩ | exact ⟨Keeps.alloc _ _, rfl⟩
              simp only [addEnt]
              apply loose_is
              · intro W vals hW hkn
                clear hkn
                refine ⟨?_⟩
                simp only [fill]
                go_simp
                first | exact ⟨Keeps.refl _ _, rfl⟩ | exact ⟨Keeps.alloc _ _, rfl⟩
              simp only [addEnt]
              apply loose_is
              · intro W vals hW hkn
                clear hkn
                refine ⟨?_⟩
                simp only [fill]
                go_simp
                first | exact ⟨Keeps.refl _ _, rfl⟩ | exact ⟨Keeps.alloc _ _, rfl⟩
              simp only [addEnt]
              apply loose_is
              · intro W vals hW hkn
                clear hkn
                refine ⟨?_⟩
                simp only [fill]
                go_simp
                first | exact ⟨Keeps.refl _ _, rfl⟩ | exact ⟨Keeps.alloc _ _, rfl⟩
              simp only [addEnt]
              apply loose_is
              · intro W vals hW hkn
                clear hkn
                refine ⟨?_⟩
                simp only [fill]
                go_simp
                first | exact ⟨Keeps.refl _ _, rfl⟩ | exact ⟨Keeps.alloc _ _, rfl⟩
              simp only [addEnt]
              apply loose_is
              · intro W vals hW hkn
                clear hkn
                refine ⟨?_⟩
                simp only [fill]
                go_simp
                first | exact ⟨Keeps.refl _ _, rfl⟩ | exact ⟨Keeps.alloc _ _, rfl⟩
              simp only [addEnt]
              apply loose_is
              · intro W vals hW hkn
                clear hkn
                refine ⟨?_⟩
                simp only [fill]
                go_simp
                first | exact ⟨Keeps.refl _ _, rfl⟩ | exact ⟨Keeps.alloc _ _, rfl⟩
              simp only [addEnt]
              apply loose_is
              · intro W vals hW hkn
                clear hkn
                refine ⟨?_⟩
                simp only [fill]
                go_simp
                first | exact ⟨Keeps.refl _ _, rfl⟩ | exact ⟨Keeps.alloc _ _, rfl⟩
              simp only [addEnt]
              apply loose_is
              · intro W vals hW hkn
                clear hkn
                refine ⟨?_⟩
                simp only [fill]
                go_simp
                first | exact ⟨Keeps.refl _ _, rfl⟩ | exact ⟨Keeps.alloc _ _, rfl⟩
              simp only [addEnt]
              refine loose_off (fun vals => by kernel_rfl) ?_
              simp only [addEnt]
              refine loose_off (fun vals => by kernel_rfl) ?_
              simp only [addEnt]
              refine loose_off (fun vals => by kernel_rfl) ?_
              simp only [addEnt]
              refine loose_off (fun vals => by kernel_rfl) ?_
              simp only [addEnt]
              refine loose_off (fun vals => by kernel_rfl) ?_
              simp only [addEnt]
              refine loose_off (fun vals => by kernel_rfl) ?_
              simp only [addEnt]
              refine loose_off (fun vals => by kernel_rfl) ?_
              simp only [addEnt]
              refine loose_off (fun vals => by kernel_rfl) ?_
              simp only [addEnt]
              refine loose_off (fun vals => by kernel_rfl) ?_
              simp only [addEnt]
              refine loose_off (fun vals => by kernel_rfl) ?_
              simp only [addEnt]
              refine loose_off (fun vals => by kernel_rfl) ?_
              simp only [addEnt]
              refine loose_off (fun vals => by kernel_rfl) ?_
              simp only [addEnt]
              refine loose_off (fun vals => by kernel_rfl) ?_
              simp only [addEnt]
              refine loose_off (fun vals => by kernel_rfl) ?_
              simp only [addEnt]
              apply loose_is
              · intro W vals hW hkn
                clear hkn
                refine ⟨?_⟩
                simp only [fill]
                go_simp
                first | exact ⟨Keeps.refl _ _, rfl⟩ | exact ⟨Keeps.alloc _ _, rfl⟩
              simp only [addEnt]
              refine loose_nil (fun W vals hW hkn => ?_)
              simp only [knowsAll] at hkn
              try simp only [and_true] at hkn
              simp only [fill, Act.put, List.setIfInBounds_toArray, List.set_cons_succ, List.set_cons_zero]
              clear hkn M1
              have q0 := HR.out.r.keeps hW
              have f0 := q0.cell 0
              have f1 := q0.cell 1
              have f2 := q0.cell 2
              simp only [List.getElem?_toArray, List.getElem?_cons_zero, List.getElem?_cons_succ] at f0 f1 f2
              have z0 := q0.frozen 0
              have z1 := q0.frozen 1
              have z2 := q0.frozen 2
              have HW := Lib.hid hW
              clear q0 hW
              go_wp2_with fail
              obtain ⟨p1, p2⟩ := ref_put (HR.out.r.keeps HW.out) (.int .i64 0) (.slice none 0 0) (.slice none 0 0)
              have kw : Keeps w _ [] := (HR.out.h.then_ HW.out).trans p2 (fun y hy hlt => by simp at hy; omega)
              have hO : O = none := by rw [← HO.out, HB.out, HD.out, risesB_no HN.out]; rfl
              subst hO
              exact new_door _ _ w.heap.size _ _ _ _ rfl rfl p1 _ ⟨kw, rfl⟩
            · obtain ⟨xx, rfl⟩ : ∃ xx : Nat, x = xx := ⟨x.toNat, by omega⟩
              have hxk : xx < k := by omega
              by_cases a3 : j = 0
              · have HN := Lib.hid (show ll < (xx : Int) ∧ (xx : Int) < (k : Int) by rcases HP.out with ⟨_, rfl⟩ | ⟨_, _, _, _⟩ <;> omega)
                subst a3
                simp only [Nat.add_zero] at M1
                clear hll
                go_wp2_with fail
                refine wp_region_keeps _ (by kernel_rfl) rfl (by kernel_rfl) ?_
                apply loose_is
                · intro W vals hW hkn
                  clear hkn
                  refine ⟨?_⟩
                  simp only [fill]
                  go_simp
                  first | exact ⟨Keeps.refl _ _, rfl⟩ | exact ⟨Keeps.alloc _ _, rfl⟩
                simp only [addEnt]
                apply loose_is
                · intro W vals hW hkn
                  clear hkn
                  refine ⟨?_⟩
                  simp only [fill]
                  go_simp
                  first | exact ⟨Keeps.refl _ _, rfl⟩ | exact ⟨Keeps.alloc _ _, rfl⟩
                simp only [addEnt]
                apply loose_is
                · intro W vals hW hkn
                  clear hkn
                  refine ⟨?_⟩
                  simp only [fill]
                  go_simp
                  first | exact ⟨Keeps.refl _ _, rfl⟩ | exact ⟨Keeps.alloc _ _, rfl⟩
                simp only [addEnt]
                apply loose_is
                · intro W vals hW hkn
                  clear hkn
                  refine ⟨?_⟩
                  simp only [fill]
                  go_simp
                  first | exact ⟨Keeps.refl _ _, rfl⟩ | exact ⟨Keeps.alloc _ _, rfl⟩
                simp only [addEnt]
                apply loose_is
                · intro W vals hW hkn
                  clear hkn
                  refine ⟨?_⟩
                  simp only [fill]
                  go_simp
                  first | exact ⟨Keeps.refl _ _, rfl⟩ | exact ⟨Keeps.alloc _ _, rfl⟩
                simp only [addEnt]
                apply loose_is
                · intro W vals hW hkn
                  clear hkn
                  refine ⟨?_⟩
                  simp only [fill]
                  go_simp
                  first | exact ⟨Keeps.refl _ _, rfl⟩ | exact ⟨Keeps.alloc _ _, rfl⟩
                simp only [addEnt]
                apply loose_is
                · intro W vals hW hkn
                  clear hkn
                  refine ⟨?_⟩
                  simp only [fill]
                  go_simp
                  first | exact ⟨Keeps.refl _ _, rfl⟩ | exact ⟨Keeps.alloc _ _, rfl⟩
                simp only [addEnt]
                apply loose_is
                · intro W vals hW hkn
                  clear hkn
                  refine ⟨?_⟩
                  simp only [fill]
                  go_simp
                  first | exact ⟨Keeps.refl _ _, rfl⟩ | exact ⟨Keeps.alloc _ _, rfl⟩
                simp only [addEnt]
                apply loose_is
                · intro W vals hW hkn
                  clear hkn
                  refine ⟨?_⟩
                  simp only [fill]
                  go_simp
                  first | exact ⟨Keeps.refl _ _, rfl⟩ | exact ⟨Keeps.alloc _ _, rfl⟩
                simp only [addEnt]
                apply loose_is
                · intro W vals hW hkn
                  clear hkn
                  refine ⟨?_⟩
                  simp only [fill]
                  go_simp
                  first | exact ⟨Keeps.refl _ _, rfl⟩ | exact ⟨Keeps.alloc _ _, rfl⟩
                simp only [addEnt]
                apply loose_is
                · intro W vals hW hkn
                  clear hkn
                  refine ⟨?_⟩
                  simp only [fill]
                  go_simp
                  first | exact ⟨Keeps.refl _ _, rfl⟩ | exact ⟨Keeps.alloc _ _, rfl⟩
                simp only [addEnt]
                apply loose_is
                · intro W vals hW hkn
                  clear hkn
                  refine ⟨?_⟩
                  simp only [fill]
                  go_simp
                  first | exact ⟨Keeps.refl _ _, rfl⟩ | exact ⟨Keeps.alloc _ _, rfl⟩
                simp only [addEnt]
                apply loose_is
                · intro W vals hW hkn
                  clear hkn
                  refine ⟨?_⟩
                  simp only [fill]
                  go_simp
                  first | exact ⟨Keeps.refl _ _, rfl⟩ | exact ⟨Keeps.alloc _ _, rfl⟩
                simp only [addEnt]
                apply loose_is
                · intro W vals hW hkn
                  clear hkn
                  refine ⟨?_⟩
                  simp only [fill]
                  go_simp
                  first | exact ⟨Keeps.refl _ _, rfl⟩ | exact ⟨Keeps.alloc _ _, rfl⟩
                simp only [addEnt]
                apply loose_is
                · intro W vals hW hkn
                  clear hkn
                  refine ⟨?_⟩
                  simp only [fill]
                  go_simp
                  first | exact ⟨Keeps.refl _ _, rfl⟩ | exact ⟨Keeps.alloc _ _, rfl⟩
                simp only [addEnt]
                apply loose_is
                · intro W vals hW hkn
                  clear hkn
                  refine ⟨?_⟩
                  simp only [fill]
                  go_simp
                  first | exact ⟨Keeps.refl _ _, rfl⟩ | exact ⟨Keeps.alloc _ _, rfl⟩
                simp only [addEnt]
                apply loose_is
                · intro W vals hW hkn
                  clear hkn
                  refine ⟨?_⟩
                  simp only [fill]
                  go_simp
                  first | exact ⟨Keeps.refl _ _, rfl⟩ | exact ⟨Keeps.alloc _ _, rfl⟩
                simp only [addEnt]
                refine loose_off (fun vals => by kernel_rfl) ?_
                simp only [addEnt]
                refine loose_off (fun vals => by kernel_rfl) ?_
                simp only [addEnt]
                refine loose_off (fun vals => by kernel_rfl) ?_
                simp only [addEnt]
                refine loose_off (fun vals => by kernel_rfl) ?_
                simp only [addEnt]
                refine loose_off (fun vals => by kernel_rfl) ?_
                simp only [addEnt]
                refine loose_off (fun vals => by kernel_rfl) ?_
                simp only [addEnt]
                refine loose_off (fun vals => by kernel_rfl) ?_
                simp only [addEnt]
                refine loose_off (fun vals => by kernel_rfl) ?_
                simp only [addEnt]
                refine loose_off (fun vals => by kernel_rfl) ?_
                simp only [addEnt]
                refine loose_off (fun vals => by kernel_rfl) ?_
                simp only [addEnt]
                apply loose_is
                · intro W vals hW hkn
                  clear hkn
                  refine ⟨?_⟩
                  simp only [fill]
                  go_simp
                  first | exact ⟨Keeps.refl _ _, rfl⟩ | exact ⟨Keeps.alloc _ _, rfl⟩
                simp only [addEnt]
                apply loose_is
                · intro W vals hW hkn
                  clear hkn
                  refine ⟨?_⟩
                  simp only [fill]
                  go_simp
                  first | exact ⟨Keeps.refl _ _, rfl⟩ | exact ⟨Keeps.alloc _ _, rfl⟩
                simp only [addEnt]
                refine loose_nil (fun W vals hW hkn => ?_)
                simp only [knowsAll] at hkn
                try simp only [and_true] at hkn
                simp only [fill, Act.put, List.setIfInBounds_toArray, List.set_cons_succ, List.set_cons_zero]
                have c9 := M1 _ hW
                clear hkn M1
                have HR2 := Lib.hid (HR.out.keeps hW)
                obtain ⟨⟨u, hu⟩, hf⟩ := HR2.out.has (k := xx) hxk
                have HS := Lib.hid (HR2.out.store hxk (Nat.le_refl _) 4)
                clear hW
                go_wp2_with fail
                exact ⟨⟨0 + 1, (xx : Int), by omega, by go_num, Lib.hid (by rw [HT.out, setAll_snoc, Int.toNat_natCast]; exact HS.out), Lib.hid (by rw [HB.out, HD.out, risesB_step HN.out]), Lib.hid (.inr ⟨0, rfl, HX.out, by omega⟩)⟩, by simp [intOf]; omega⟩
              · obtain ⟨m, rfl, hm, _⟩ : ∃ m, j = m + 1 ∧ free[m]? = some ll ∧ 1 ≤ ll := by
                  rcases HP.out with ⟨h, _⟩ | h
                  · exact absurd h a3
                  · exact h
                have hml : m < free.length := by omega
                obtain ⟨b', o', eb, hb', hc'⟩ := (HA.out.keep HR.out.h (Nat.le_refl _) (by simp)).at_ (k := m) (by simpa using hml)
                injection eb with eb
                injection eb with eb1 eb2
                subst eb1 eb2
                rw [List.getElem_map] at hc'
                rw [List.getElem?_eq_getElem hml] at hm
                rw [Option.some.inj hm] at hc'
                have M2 := fun (W' : World) (hW : Keeps wr W' []) => (hW.cell (p := ⟨b, o + m, none⟩) (Nat.lt_of_lt_of_le hb' HR.out.h.size) (by simp)).trans hc'
                have a4 : (0 : Int) < (m : Int) + 1 := by omega
                have hwm : IntKind.i64.wrap (m : Int) = m := IntWalk.i64_in _ (by omega)
                clear hb' hc' hm a3
                by_cases a5 : (xx : Int) ≤ ll
                · have HN := Lib.hid (show ¬ (ll < (xx : Int) ∧ (xx : Int) < (k : Int)) by omega)
                  clear hll
                  go_wp2_with fail
                  refine wp_region_keeps _ (by kernel_rfl) rfl (by kernel_rfl) ?_
                  apply loose_is
                  · intro W vals hW hkn
                    clear hkn
                    refine ⟨?_⟩
                    simp only [fill]
                    go_simp
                    first | exact ⟨Keeps.refl _ _, rfl⟩ | exact ⟨Keeps.alloc _ _, rfl⟩
                  simp only [addEnt]
                  apply loose_is
                  · intro W vals hW hkn
                    clear hkn
                    refine ⟨?_⟩
                    simp only [fill]
                    go_simp
                    first | exact ⟨Keeps.refl _ _, rfl⟩ | exact ⟨Keeps.alloc _ _, rfl⟩
                  simp only [addEnt]
                  apply loose_is
                  · intro W vals hW hkn
                    clear hkn
                    refine ⟨?_⟩
                    simp only [fill]
                    go_simp
                    first | exact ⟨Keeps.refl _ _, rfl⟩ | exact ⟨Keeps.alloc _ _, rfl⟩
                  simp only [addEnt]
                  apply loose_is
                  · intro W vals hW hkn
                    clear hkn
                    refine ⟨?_⟩
                    simp only [fill]
                    go_simp
                    first | exact ⟨Keeps.refl _ _, rfl⟩ | exact ⟨Keeps.alloc _ _, rfl⟩
                  simp only [addEnt]
                  apply loose_is
                  · intro W vals hW hkn
                    clear hkn
                    refine ⟨?_⟩
                    simp only [fill]
                    go_simp
                    first | exact ⟨Keeps.refl _ _, rfl⟩ | exact ⟨Keeps.alloc _ _, rfl⟩
                  simp only [addEnt]
                  apply loose_is
                  · intro W vals hW hkn
                    clear hkn
                    refine ⟨?_⟩
                    simp only [fill]
                    go_simp
                    first | exact ⟨Keeps.refl _ _, rfl⟩ | exact ⟨Keeps.alloc _ _, rfl⟩
                  simp only [addEnt]
                  apply loose_is
                  · intro W vals hW hkn
                    clear hkn
                    refine ⟨?_⟩
                    simp only [fill]
                    go_simp
                    first | exact ⟨Keeps.refl _ _, rfl⟩ | exact ⟨Keeps.alloc _ _, rfl⟩
                  simp only [addEnt]
                  apply loose_is
                  · intro W vals hW hkn
                    clear hkn
                    refine ⟨?_⟩
                    simp only [fill]
                    go_simp
                    first | exact ⟨Keeps.refl _ _, rfl⟩ | exact ⟨Keeps.alloc _ _, rfl⟩
                  simp only [addEnt]
                  apply loose_is
                  · intro W vals hW hkn
                    clear hkn
                    refine ⟨?_⟩
                    simp only [fill]
                    go_simp
                    first | exact ⟨Keeps.refl _ _, rfl⟩ | exact ⟨Keeps.alloc _ _, rfl⟩
                  simp only [addEnt]
                  apply loose_is
                  · intro W vals hW hkn
                    clear hkn
                    refine ⟨?_⟩
                    simp only [fill]
                    go_simp
                    first | exact ⟨Keeps.refl _ _, rfl⟩ | exact ⟨Keeps.alloc _ _, rfl⟩
                  simp only [addEnt]
                  apply loose_is
                  · intro W vals hW hkn
                    clear hkn
                    refine ⟨?_⟩
                    simp only [fill]
                    go_simp
                    first | exact ⟨Keeps.refl _ _, rfl⟩ | exact ⟨Keeps.alloc _ _, rfl⟩
                  simp only [addEnt]
                  apply loose_is
                  · intro W vals hW hkn
                    clear hkn
                    refine ⟨?_⟩
                    simp only [fill]
                    go_simp
                    first | exact ⟨Keeps.refl _ _, rfl⟩ | exact ⟨Keeps.alloc _ _, rfl⟩
                  simp only [addEnt]
                  apply loose_is
                  · intro W vals hW hkn
                    clear hkn
                    refine ⟨?_⟩
                    simp only [fill]
                    go_simp
                    first | exact ⟨Keeps.refl _ _, rfl⟩ | exact ⟨Keeps.alloc _ _, rfl⟩
                  simp only [addEnt]
                  apply loose_is
                  · intro W vals hW hkn
                    clear hkn
                    refine ⟨?_⟩
                    simp only [fill]
                    go_simp
                    first | exact ⟨Keeps.refl _ _, rfl⟩ | exact ⟨Keeps.alloc _ _, rfl⟩
                  simp only [addEnt]
                  apply loose_is
                  · intro W vals hW hkn
                    clear hkn
                    refine ⟨?_⟩
                    simp only [fill]
                    go_simp
                    first | exact ⟨Keeps.refl _ _, rfl⟩ | exact ⟨Keeps.alloc _ _, rfl⟩
                  simp only [addEnt]
                  apply loose_is
                  · intro W vals hW hkn
                    clear hkn
                    refine ⟨?_⟩
                    simp only [fill]
                    go_simp
                    first | exact ⟨Keeps.refl _ _, rfl⟩ | exact ⟨Keeps.alloc _ _, rfl⟩
                  simp only [addEnt]
                  apply loose_is
                  · intro W vals hW hkn
                    clear hkn
                    refine ⟨?_⟩
                    simp only [fill]
                    go_simp
                    first | exact ⟨Keeps.refl _ _, rfl⟩ | exact ⟨Keeps.alloc _ _, rfl⟩
                  simp only [addEnt]
                  apply loose_is
                  · intro W vals hW hkn
                    clear hkn
                    refine ⟨?_⟩
                    simp only [fill]
                    go_simp
                    first | exact ⟨Keeps.refl _ _, rfl⟩ | exact ⟨Keeps.alloc _ _, rfl⟩
                  simp only [addEnt]
                  apply loose_is
                  · intro W vals hW hkn
                    clear hkn
                    refine ⟨?_⟩
                    simp only [fill]
                    go_simp
                    first | exact ⟨Keeps.refl _ _, rfl⟩ | exact ⟨Keeps.alloc _ _, rfl⟩
                  simp only [addEnt]
                  apply loose_is
                  · intro W vals hW hkn
                    clear hkn
                    refine ⟨?_⟩
                    simp only [fill]
                    go_simp
                    first | exact ⟨Keeps.refl _ _, rfl⟩ | exact ⟨Keeps.alloc _ _, rfl⟩
                  simp only [addEnt]
                  apply loose_is
                  · intro W vals hW hkn
                    clear hkn
                    refine ⟨?_⟩
                    simp only [fill]
                    go_simp
                    first | exact ⟨Keeps.refl _ _, rfl⟩ | exact ⟨Keeps.alloc _ _, rfl⟩
                  simp only [addEnt]
                  apply loose_is
                  · intro W vals hW hkn
                    clear hkn
                    refine ⟨?_⟩
                    simp only [fill]
                    go_simp
                    first | exact ⟨Keeps.refl _ _, rfl⟩ | exact ⟨Keeps.alloc _ _, rfl⟩
                  simp only [addEnt]
                  apply loose_is
                  · intro W vals hW hkn
                    clear hkn
                    refine ⟨?_⟩
                    simp only [fill]
                    go_simp
                    first | exact ⟨Keeps.refl _ _, rfl⟩ | exact ⟨Keeps.alloc _ _, rfl⟩
                  simp only [addEnt]
                  apply loose_is
                  · intro W vals hW hkn
                    clear hkn
                    refine ⟨?_⟩
                    simp only [fill]
                    go_simp
                    first | exact ⟨Keeps.refl _ _, rfl⟩ | exact ⟨Keeps.alloc _ _, rfl⟩
                  simp only [addEnt]
                  apply loose_is
                  · intro W vals hW hkn
                    clear hkn
                    refine ⟨?_⟩
                    simp only [fill]
                    go_simp
                    first | exact ⟨Keeps.refl _ _, rfl⟩ | exact ⟨Keeps.alloc _ _, rfl⟩
                  simp only [addEnt]
                  apply loose_is
                  · intro W vals hW hkn
                    clear hkn
                    refine ⟨?_⟩
                    simp only [fill]
                    go_simp
                    first | exact ⟨Keeps.refl _ _, rfl⟩ | exact ⟨Keeps.alloc _ _, rfl⟩
                  simp only [addEnt]
                  apply loose_is
                  · intro W vals hW hkn
                    clear hkn
                    refine ⟨?_⟩
                    simp only [fill]
                    go_simp
                    first | exact ⟨Keeps.refl _ _, rfl⟩ | exact ⟨Keeps.alloc _ _, rfl⟩
                  simp only [addEnt]
                  apply loose_is
                  · intro W vals hW hkn
                    clear hkn
                    refine ⟨?_⟩
                    simp only [fill]
                    go_simp
                    first | exact ⟨Keeps.refl _ _, rfl⟩ | exact ⟨Keeps.alloc _ _, rfl⟩
                  simp only [addEnt]
                  apply loose_is
                  · intro W vals hW hkn
                    clear hkn
                    refine ⟨?_⟩
                    simp only [fill]
                    go_simp
                    first | exact ⟨Keeps.refl _ _, rfl⟩ | exact ⟨Keeps.alloc _ _, rfl⟩
                  simp only [addEnt]
                  refine loose_nil (fun W vals hW hkn => ?_)
                  simp only [knowsAll] at hkn
                  try simp only [and_true] at hkn
                  simp only [fill, Act.put, List.setIfInBounds_toArray, List.set_cons_succ, List.set_cons_zero]
                  clear M2
                  clear hkn M1
                  have q0 := HR.out.r.keeps hW
                  have f0 := q0.cell 0
                  have f1 := q0.cell 1
                  have f2 := q0.cell 2
                  simp only [List.getElem?_toArray, List.getElem?_cons_zero, List.getElem?_cons_succ] at f0 f1 f2
                  have z0 := q0.frozen 0
                  have z1 := q0.frozen 1
                  have z2 := q0.frozen 2
                  have HW := Lib.hid hW
                  clear q0 hW
                  go_wp2_with fail
                  obtain ⟨p1, p2⟩ := ref_put (HR.out.r.keeps HW.out) (.int .i64 0) (.slice none 0 0) (.slice none 0 0)
                  have kw : Keeps w _ [] := (HR.out.h.then_ HW.out).trans p2 (fun y hy hlt => by simp at hy; omega)
                  have hO : O = none := by rw [← HO.out, HB.out, HD.out, risesB_no HN.out]; rfl
                  subst hO
                  exact new_door _ _ w.heap.size _ _ _ _ rfl rfl p1 _ ⟨kw, rfl⟩
                · have HN := Lib.hid (show ll < (xx : Int) ∧ (xx : Int) < (k : Int) by omega)
                  clear hll
                  go_wp2_with fail
                  refine wp_region_keeps _ (by kernel_rfl) rfl (by kernel_rfl) ?_
                  apply loose_is
                  · intro W vals hW hkn
                    clear hkn
                    refine ⟨?_⟩
                    simp only [fill]
                    go_simp
                    first | exact ⟨Keeps.refl _ _, rfl⟩ | exact ⟨Keeps.alloc _ _, rfl⟩
                  simp only [addEnt]
                  apply loose_is
                  · intro W vals hW hkn
                    clear hkn
                    refine ⟨?_⟩
                    simp only [fill]
                    go_simp
                    first | exact ⟨Keeps.refl _ _, rfl⟩ | exact ⟨Keeps.alloc _ _, rfl⟩
                  simp only [addEnt]
                  apply loose_is
                  · intro W vals hW hkn
                    clear hkn
                    refine ⟨?_⟩
                    simp only [fill]
                    go_simp
                    first | exact ⟨Keeps.refl _ _, rfl⟩ | exact ⟨Keeps.alloc _ _, rfl⟩
                  simp only [addEnt]
                  apply loose_is
                  · intro W vals hW hkn
                    clear hkn
                    refine ⟨?_⟩
                    simp only [fill]
                    go_simp
                    first | exact ⟨Keeps.refl _ _, rfl⟩ | exact ⟨Keeps.alloc _ _, rfl⟩
                  simp only [addEnt]
                  apply loose_is
                  · intro W vals hW hkn
                    clear hkn
                    refine ⟨?_⟩
                    simp only [fill]
                    go_simp
                    first | exact ⟨Keeps.refl _ _, rfl⟩ | exact ⟨Keeps.alloc _ _, rfl⟩
                  simp only [addEnt]
                  apply loose_is
                  · intro W vals hW hkn
                    clear hkn
                    refine ⟨?_⟩
                    simp only [fill]
                    go_simp
                    first | exact ⟨Keeps.refl _ _, rfl⟩ | exact ⟨Keeps.alloc _ _, rfl⟩
                  simp only [addEnt]
                  apply loose_is
                  · intro W vals hW hkn
                    clear hkn
                    refine ⟨?_⟩
                    simp only [fill]
                    go_simp
                    first | exact ⟨Keeps.refl _ _, rfl⟩ | exact ⟨Keeps.alloc _ _, rfl⟩
                  simp only [addEnt]
                  apply loose_is
                  · intro W vals hW hkn
                    clear hkn
                    refine ⟨?_⟩
                    simp only [fill]
                    go_simp
                    first | exact ⟨Keeps.refl _ _, rfl⟩ | exact ⟨Keeps.alloc _ _, rfl⟩
                  simp only [addEnt]
                  apply loose_is
                  · intro W vals hW hkn
                    clear hkn
                    refine ⟨?_⟩
                    simp only [fill]
                    go_simp
                    first | exact ⟨Keeps.refl _ _, rfl⟩ | exact ⟨Keeps.alloc _ _, rfl⟩
                  simp only [addEnt]
                  apply loose_is
                  · intro W vals hW hkn
                    clear hkn
                    refine ⟨?_⟩
                    simp only [fill]
                    go_simp
                    first | exact ⟨Keeps.refl _ _, rfl⟩ | exact ⟨Keeps.alloc _ _, rfl⟩
                  simp only [addEnt]
                  apply loose_is
                  · intro W vals hW hkn
                    clear hkn
                    refine ⟨?_⟩
                    simp only [fill]
                    go_simp
                    first | exact ⟨Keeps.refl _ _, rfl⟩ | exact ⟨Keeps.alloc _ _, rfl⟩
                  simp only [addEnt]
                  apply loose_is
                  · intro W vals hW hkn
                    clear hkn
                    refine ⟨?_⟩
                    simp only [fill]
                    go_simp
                    first | exact ⟨Keeps.refl _ _, rfl⟩ | exact ⟨Keeps.alloc _ _, rfl⟩
                  simp only [addEnt]
                  apply loose_is
                  · intro W vals hW hkn
                    clear hkn
                    refine ⟨?_⟩
                    simp only [fill]
                    go_simp
                    first | exact ⟨Keeps.refl _ _, rfl⟩ | exact ⟨Keeps.alloc _ _, rfl⟩
                  simp only [addEnt]
                  apply loose_is
                  · intro W vals hW hkn
                    clear hkn
                    refine ⟨?_⟩
                    simp only [fill]
                    go_simp
                    first | exact ⟨Keeps.refl _ _, rfl⟩ | exact ⟨Keeps.alloc _ _, rfl⟩
                  simp only [addEnt]
                  apply loose_is
                  · intro W vals hW hkn
                    clear hkn
                    refine ⟨?_⟩
                    simp only [fill]
                    go_simp
                    first | exact ⟨Keeps.refl _ _, rfl⟩ | exact ⟨Keeps.alloc _ _, rfl⟩
                  simp only [addEnt]
                  apply loose_is
                  · intro W vals hW hkn
                    clear hkn
                    refine ⟨?_⟩
                    simp only [fill]
                    go_simp
                    first | exact ⟨Keeps.refl _ _, rfl⟩ | exact ⟨Keeps.alloc _ _, rfl⟩
                  simp only [addEnt]
                  apply loose_is
                  · intro W vals hW hkn
                    clear hkn
                    refine ⟨?_⟩
                    simp only [fill]
                    go_simp
                    first | exact ⟨Keeps.refl _ _, rfl⟩ | exact ⟨Keeps.alloc _ _, rfl⟩
                  simp only [addEnt]
                  apply loose_is
                  · intro W vals hW hkn
                    clear hkn
                    refine ⟨?_⟩
                    simp only [fill]
                    go_simp
                    first | exact ⟨Keeps.refl _ _, rfl⟩ | exact ⟨Keeps.alloc _ _, rfl⟩
                  simp only [addEnt]
                  apply loose_is
                  · intro W vals hW hkn
                    clear hkn
                    refine ⟨?_⟩
                    simp only [fill]
                    go_simp
                    first | exact ⟨Keeps.refl _ _, rfl⟩ | exact ⟨Keeps.alloc _ _, rfl⟩
                  simp only [addEnt]
                  apply loose_is
                  · intro W vals hW hkn
                    clear hkn
                    refine ⟨?_⟩
                    simp only [fill]
                    go_simp
                    first | exact ⟨Keeps.refl _ _, rfl⟩ | exact ⟨Keeps.alloc _ _, rfl⟩
                  simp only [addEnt]
                  apply loose_is
                  · intro W vals hW hkn
                    clear hkn
                    refine ⟨?_⟩
                    simp only [fill]
                    go_simp
                    first | exact ⟨Keeps.refl _ _, rfl⟩ | exact ⟨Keeps.alloc _ _, rfl⟩
                  simp only [addEnt]
                  apply loose_is
                  · intro W vals hW hkn
                    clear hkn
                    refine ⟨?_⟩
                    simp only [fill]
                    go_simp
                    first | exact ⟨Keeps.refl _ _, rfl⟩ | exact ⟨Keeps.alloc _ _, rfl⟩
                  simp only [addEnt]
                  apply loose_is
                  · intro W vals hW hkn
                    clear hkn
                    refine ⟨?_⟩
                    simp only [fill]
                    go_simp
                    first | exact ⟨Keeps.refl _ _, rfl⟩ | exact ⟨Keeps.alloc _ _, rfl⟩
                  simp only [addEnt]
                  apply loose_is
                  · intro W vals hW hkn
                    clear hkn
                    refine ⟨?_⟩
                    simp only [fill]
                    go_simp
                    first | exact ⟨Keeps.refl _ _, rfl⟩ | exact ⟨Keeps.alloc _ _, rfl⟩
                  simp only [addEnt]
                  apply loose_is
                  · intro W vals hW hkn
                    clear hkn
                    refine ⟨?_⟩
                    simp only [fill]
                    go_simp
                    first | exact ⟨Keeps.refl _ _, rfl⟩ | exact ⟨Keeps.alloc _ _, rfl⟩
                  simp only [addEnt]
                  apply loose_is
                  · intro W vals hW hkn
                    clear hkn
                    refine ⟨?_⟩
                    simp only [fill]
                    go_simp
                    first | exact ⟨Keeps.refl _ _, rfl⟩ | exact ⟨Keeps.alloc _ _, rfl⟩
                  simp only [addEnt]
                  apply loose_is
                  · intro W vals hW hkn
                    clear hkn
                    refine ⟨?_⟩
                    simp only [fill]
                    go_simp
                    first | exact ⟨Keeps.refl _ _, rfl⟩ | exact ⟨Keeps.alloc _ _, rfl⟩
                  simp only [addEnt]
                  apply loose_is
                  · intro W vals hW hkn
                    clear hkn
                    refine ⟨?_⟩
                    simp only [fill]
                    go_simp
                    first | exact ⟨Keeps.refl _ _, rfl⟩ | exact ⟨Keeps.alloc _ _, rfl⟩
                  simp only [addEnt]
                  apply loose_is
                  · intro W vals hW hkn
                    clear hkn
                    refine ⟨?_⟩
                    simp only [fill]
                    go_simp
                    first | exact ⟨Keeps.refl _ _, rfl⟩ | exact ⟨Keeps.alloc _ _, rfl⟩
                  simp only [addEnt]
                  refine loose_nil (fun W vals hW hkn => ?_)
                  simp only [knowsAll] at hkn
                  try simp only [and_true] at hkn
                  simp only [fill, Act.put, List.setIfInBounds_toArray, List.set_cons_succ, List.set_cons_zero]
                  clear M2
                  have c9 := M1 _ hW
                  clear hkn M1
                  have HR2 := Lib.hid (HR.out.keeps hW)
                  obtain ⟨⟨u, hu⟩, hf⟩ := HR2.out.has (k := xx) hxk
                  have HS := Lib.hid (HR2.out.store hxk (Nat.le_refl _) 4)
                  clear hW
                  go_wp2_with fail
                  exact ⟨⟨(m + 1) + 1, (xx : Int), by omega, by go_num, Lib.hid (by rw [HT.out, setAll_snoc, Int.toNat_natCast]; exact HS.out), Lib.hid (by rw [HB.out, HD.out, risesB_step HN.out]), Lib.hid (.inr ⟨(m + 1), rfl, HX.out, by omega⟩)⟩, by simp [intOf]; omega⟩
        · obtain rfl : j = free.length := by omega
          have hO : O = some (setAll (baseL k) free 4) := by
            rw [← HO.out, HB.out, List.drop_length]
            rfl
          subst hO
          have q0 := HR.out.r
          have f0 := q0.cell 0
          have f1 := q0.cell 1
          have f2 := q0.cell 2
          simp only [List.getElem?_toArray, List.getElem?_cons_zero, List.getElem?_cons_succ] at f0 f1 f2
          have z0 := q0.frozen 0
          have z1 := q0.frozen 1
          have z2 := q0.frozen 2
          clear q0
          go_wp2_with fail
          obtain ⟨p1, p2⟩ := ref_put HR.out.r (.int .i64 most) (.slice (some ⟨w.heap.size + 1, 0, none⟩) k k) (.slice (some ⟨w.heap.size + 1, 0, none⟩) k k)
          have kw : Keeps w _ [] := HR.out.h.trans p2 (fun y hy hlt => by simp at hy; omega)
          have hlen : (setAll (baseL k) free 4).length = k := by rw [setAll_length, baseL_length _ h1]
          have hRL : RefL wr (some ⟨w.heap.size + 1, 0, none⟩) (setAll (baseL k) free 4) := by
            have o := HR.out.own
            rw [List.take_length] at o
            exact RefL.of_own (c := k) (B := w.heap.size + 1) (by unfold OwnL; rw [hlen]; exact o)
          have hS : ∀ x ∈ [w.heap.size], ∃ cs, Row wr x 39 cs := fun x hx => by
            obtain rfl := List.mem_singleton.1 hx
            exact ⟨_, HR.out.r⟩
          exact new_door _ _ w.heap.size _ _ _ _ rfl rfl p1 _ ⟨kw, _, rfl, _, _, _, _, by rw [hlen], hRL.box p2 hS, hRL.box p2 hS⟩
set_option maxRecDepth 100000 in
theorem refNew_any (w : World) (most high : Int) (A : Option Addr) (c : Nat) (free : List Int) (hA : Lies w w.heap.size A (free.map (Value.int .i64))) (hl : free.length ≤ 1000000) :
    Calls Try.prog 17 #[.int .i64 most, .int .i64 high, .slice A free.length c] w (RefMade w most (spNewL most high free)) := by
  by_cases h : 2 ≤ most ∧ most ≤ 4096 ∧ 2 ≤ high ∧ high ≤ most
  · obtain ⟨h1, h2, h3, h4⟩ := h
    obtain ⟨m, rfl⟩ : ∃ m : Nat, most = m := ⟨most.toNat, by omega⟩
    obtain ⟨k, rfl⟩ : ∃ k : Nat, high = k := ⟨high.toNat, by omega⟩
    have e : spNewL (m : Int) (k : Int) free = if risesB 1 k free = true then some (setAll (baseL k) free 4) else none := by
      unfold spNewL
      by_cases hr : risesB 1 k free = true
      · rw [if_pos ⟨h1, h2, h3, h4, hr⟩, if_pos hr, Int.toNat_natCast]
      · rw [if_neg (fun h => hr h.2.2.2.2), if_neg hr]
    rw [e]
    exact refNew_ok w m k A c free hA (by omega) (by omega) (by omega) hl
  · have e : spNewL most high free = none := by
      unfold spNewL
      rw [if_neg (fun h' => h ⟨h'.1, h'.2.1, h'.2.2.1, h'.2.2.2.1⟩)]
    rw [e]
    exact refNew_bad w most high A free.length c h
end Go.Proofs.Ytanbdkfkkochgaa
