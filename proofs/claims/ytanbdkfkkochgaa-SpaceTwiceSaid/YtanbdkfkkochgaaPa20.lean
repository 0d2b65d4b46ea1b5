/- The statement SpaceTwice (layer 7): its walk. -/
import Derived.Test.YtanbdkfkkochgaaPa18
import Derived.Test.YtanbdkfkkochgaaPa19

namespace Go.Proofs.Ytanbdkfkkochgaa
open Go.RowKit Go.Maps Go.Shelf

theorem known7_then {w w' : World} (h : Keeps w w' []) : Calls Try.prog 9 #[] w' fun e w'' => e = .returned (.bool true) ∧ Keeps w w'' [] :=
  (known7_any w').mono fun _ _ ⟨a, b⟩ => ⟨a, h.then_ b⟩
set_option maxRecDepth 100000 in
set_option maxHeartbeats 4000000 in
theorem spaceTwice_far (w : World) (high : Int) (A B : Option Addr) (c d n m : Nat) (h : (60 : Int) < m ∨ (60 : Int) < n ∨ 50 < high) :
    Calls Try.prog 8 #[.int .i64 high, .slice A n c, .slice B m d] w fun e w' => e = .returned (.bool true) ∧ Keeps w w' [] := by
  by_cases h1 : (60 : Int) < m
  · clear h
    go_enter Try.func8, Try.ntmps8
    go_wp2_with fail
    refine (known7_then (Keeps.refl w [])).mono ?_
    rintro e w' ⟨rfl, hk⟩
    have HK := Lib.hid hk
    clear hk
    go_wp2_with fail
    go_ret
    exact ⟨rfl, HK.out⟩
  · by_cases h2 : (60 : Int) < n
    · clear h
      go_enter Try.func8, Try.ntmps8
      go_wp2_with fail
      refine (known7_then (Keeps.refl w [])).mono ?_
      rintro e w' ⟨rfl, hk⟩
      have HK := Lib.hid hk
      clear hk
      go_wp2_with fail
      go_ret
      exact ⟨rfl, HK.out⟩
    · have h3 : 50 < high := by omega
      clear h
      go_enter Try.func8, Try.ntmps8
      go_wp2_with fail
      refine (known7_then (Keeps.refl w [])).mono ?_
      rintro e w' ⟨rfl, hk⟩
      have HK := Lib.hid hk
      clear hk
      go_wp2_with fail
      go_ret
      exact ⟨rfl, HK.out⟩
set_option maxRecDepth 100000 in
set_option maxHeartbeats 4000000 in
theorem spaceTwice_near (w : World) (high : Int) (A B : Option Addr) (c d : Nat) (free : List Int) (acts : List (Int × Int)) (hf : CameI w A c free) (ha : CameA w B d acts) (h1 : ¬ (60 : Int) < acts.length) (h2 : ¬ (60 : Int) < free.length) (h3 : ¬ 50 < high) :
    Calls Try.prog 8 #[.int .i64 high, .slice A free.length c, .slice B acts.length d] w fun e w' => e = .returned (.bool true) ∧ Keeps w w' [] := by
  have HF := Lib.hid hf
  have HA := Lib.hid ha
  have HL := Lib.hid (And.intro h1 h2)
  clear hf ha
  go_enter Try.func8, Try.ntmps8
  go_wp2_with fail
  refine (spMake_any w 60 high A c free HF.out.lies (by have := HL.out.2; omega)).mono ?_
  clear h1 h2 h3
  obtain ⟨O, hO⟩ : ∃ O, spNewL 60 high free = O := ⟨_, rfl⟩
  rw [hO]
  clear hO
  cases O with
  | none =>
    rintro e w1 ⟨rfl, hk⟩
    have HK1 := Lib.hid hk
    clear hk
    go_wp2_with fail
    refine (known7_then HK1.out).mono ?_
    rintro e w' ⟨rfl, hk⟩
    have HK := Lib.hid hk
    clear hk
    go_wp2_with fail
    go_ret
    exact ⟨rfl, HK.out⟩
  | some L0 =>
    rintro e w1 ⟨s, n1, n2, rfl, hN⟩
    have HS := Lib.hid (show ∃ L M, SpIn w w1 s 60 L M from ⟨L0, L0, SpIn.new hN⟩)
    clear hN
    go_wp2_with fail
    go_loopw [9] (fun i wr => ∃ k : Nat, k ≤ acts.length ∧ i = .int .i64 k ∧ Hid (∃ L M, SpIn w wr s 60 L M)) (fun i _ => acts.length - (intOf i).toNat)
    case atStart => exact ⟨0, by omega, rfl, HS⟩
    case round =>
      obtain ⟨k, hk, rfl, HS2⟩ := hrel
      obtain ⟨L, M, hS⟩ := HS2.out
      have H := Lib.hid hS
      have hkm : (acts.length : Int) ≤ 60 := by have := HL.out.1; omega
      clear hS
      by_cases hkl : k < acts.length
      · obtain ⟨b, o, rfl, hb, hcell⟩ := HA.out.lies (by omega)
        have hc := hcell k hkl
        have hr := HA.out.r _ (List.getElem_mem hkl)
        obtain ⟨x, y, hxy⟩ : ∃ x y, acts[k] = (x, y) := ⟨_, _, rfl⟩
        rw [hxy] at hc hr
        obtain ⟨c0, c1⟩ := hc
        have c0 := (H.out.h.cell (p := ⟨b, o + k * 2, none⟩) hb (by simp)).trans c0
        have c1 := (H.out.h.cell (p := ⟨b, o + k * 2 + 1, none⟩) hb (by simp)).trans c1
        have HR := Lib.hid hr
        clear hr hcell hb hxy
        by_cases e1 : x = 1
        · subst e1
          go_wp2_with fail
          refine (spTake_sp H.out).mono ?_
          rintro e w' ⟨rfl, h, _⟩
          have HT := Lib.hid (show ∃ L M, SpIn w w' s 60 L M from ⟨_, _, h⟩)
          clear h
          go_wp2_with fail
          exact ⟨⟨k + 1, by omega, by go_num, HT⟩, by simp [intOf]; omega⟩
        · by_cases e2 : x = 2
          · subst e2
            go_wp2_with fail
            refine (spGive_sp H.out y HR.out.1 HR.out.2).mono ?_
            rintro e w' ⟨rfl, h, _⟩
            have HT := Lib.hid (show ∃ L M, SpIn w w' s 60 L M from ⟨_, _, h⟩)
            clear h
            go_wp2_with fail
            exact ⟨⟨k + 1, by omega, by go_num, HT⟩, by simp [intOf]; omega⟩
          · go_wp2_with fail
            exact ⟨⟨k + 1, by omega, by go_num, HS2⟩, by simp [intOf]; omega⟩
      · obtain rfl : k = acts.length := by omega
        go_wp2_with fail
        refine (spWill_sp H.out).mono ?_
        rintro e w4 ⟨v, rfl, ho, hk⟩
        obtain ⟨A1, q1, rfl⟩ := OwnI.slice ho
        obtain ⟨K, hK⟩ : ∃ K, spSel (plIn [4, 3]) L = K := ⟨_, rfl⟩
        have HK := Lib.hid hK
        have HKl := Lib.hid (spSel_length (plIn [4, 3]) L)
        rw [hK] at ho HKl ⊢
        have hLe := H.out.ok.1.le
        have hKl : K.length ≤ 4096 := Nat.le_trans HKl.out hLe
        have HKB := Lib.hid hKl
        have H4 := Lib.hid (And.intro ho (H.out.keeps hk))
        have HSW := Lib.hid H.out.lt
        clear ho hk hK hLe hKl
        go_wp2_with fail
        refine (spHigh_sp H4.out.2).mono ?_
        rintro e w' ⟨rfl, rfl⟩
        go_wp2_with fail
        refine (spLasts_sp H4.out.2).mono ?_
        rintro e w5 ⟨rfl, h, hap⟩
        have H5 := Lib.hid (And.intro (OwnI.apart H4.out.1 hap HSW.out) h)
        clear h hap
        go_wp2_with fail
        refine (spCopy_sp H5.out.2).mono ?_
        rintro e w6 ⟨a, rfl, h, hk⟩
        have H6 := Lib.hid (And.intro (OwnI.keep H5.out.1 hk (by simp)) (SpTwo.of_copy H5.out.2 h))
        clear h hk
        go_wp2_with fail
        refine (spFree_sp H6.out.2.one).mono ?_
        rintro e w7 ⟨v, rfl, ho, hk⟩
        obtain ⟨A2, q2, rfl⟩ := OwnI.slice ho
        rw [lasts_free, HK.out] at ho ⊢
        have H7 := Lib.hid (And.intro (OwnI.keep H6.out.1 hk (by simp)) (And.intro ho (H6.out.2.keeps hk)))
        have HSW2 := Lib.hid H6.out.2.one.lt
        clear ho hk
        go_wp2_with fail
        refine (spUndo_two H7.out.2.2).mono ?_
        rintro e w8 ⟨rfl, h, hap⟩
        have H8 := Lib.hid (And.intro (OwnI.apart H7.out.1 hap HSW.out) (And.intro (OwnI.apart H7.out.2.1 hap HSW2.out) h))
        clear h hap
        go_wp2_with fail
        refine (spSame_sp H8.out.2.2.one H8.out.2.2.swap.one).mono ?_
        rw [decide_eq_true (show 60 = 60 ∧ spLasts L = spLasts L ∧ spLasts L = spLasts L from ⟨rfl, rfl, rfl⟩)]
        rintro e w9 ⟨rfl, hk⟩
        have H9 := Lib.hid (And.intro (OwnI.keep H8.out.1 hk (by simp)) (And.intro (OwnI.keep H8.out.2.1 hk (by simp)) (H8.out.2.2.keeps hk)))
        clear hk
        go_wp2_with fail
        refine (spLasts_two' H9.out.2.2).mono ?_
        rw [lasts_lasts]
        rintro e w10 ⟨rfl, h, hap⟩
        have H10 := Lib.hid (And.intro (OwnI.apart H9.out.1 hap HSW.out) (And.intro (OwnI.apart H9.out.2.1 hap HSW2.out) h))
        clear h hap
        go_wp2_with fail
        refine (spSame_sp H10.out.2.2.one H10.out.2.2.swap.one).mono ?_
        rw [decide_eq_true (show 60 = 60 ∧ spLasts L = spLasts L ∧ spLasts L = spLasts L from ⟨rfl, rfl, rfl⟩)]
        rintro e w11 ⟨rfl, hk⟩
        have H11 := Lib.hid (And.intro (OwnI.keep H10.out.1 hk (by simp)) (And.intro (OwnI.keep H10.out.2.1 hk (by simp)) (H10.out.2.2.keeps hk)))
        clear hk
        have HLL := Lib.hid (show (spLasts L).length = L.length by simp [spLasts])
        go_wp2_with fail
        refine (spHigh_sp H11.out.2.2.one).mono ?_
        rw [HLL.out]
        rintro e w' ⟨rfl, rfl⟩
        go_wp2_with fail
        refine (spNew_sp H11.out.2.2.one).mono ?_
        rw [lasts_new]
        rintro e w12 ⟨v, rfl, ho, hk⟩
        obtain ⟨A3, q3, rfl⟩ : ∃ A c, v = .slice A 0 c := OwnI.slice ho
        have H12 := Lib.hid (And.intro (OwnI.keep H11.out.1 hk (by simp)) (And.intro (OwnI.keep H11.out.2.1 hk (by simp)) (H11.out.2.2.keeps hk)))
        clear ho hk
        go_wp2_with fail
        refine (spHeld_sp H12.out.2.2.one).mono ?_
        rw [lasts_held]
        rintro e w13 ⟨v, rfl, ho, hk⟩
        obtain ⟨A4, q4, rfl⟩ : ∃ A c, v = .slice A 0 c := OwnI.slice ho
        have H13 := Lib.hid (And.intro (OwnI.keep H12.out.1 hk (by simp)) (And.intro (OwnI.keep H12.out.2.1 hk (by simp)) (H12.out.2.2.keeps hk)))
        clear ho hk
        go_wp2_with fail
        go_loopw [13] (fun i wz => ∃ j : Nat, j ≤ K.length ∧ i = .int .i64 j ∧ Hid (Keeps w13 wz [])) (fun i _ => K.length - (intOf i).toNat)
        case atStart => exact ⟨0, by omega, rfl, Lib.hid (Keeps.refl _ _)⟩
        case round =>
          obtain ⟨j, hj, rfl, HZ⟩ := hrel
          have hKB := HKB.out
          by_cases hjl : j < K.length
          · obtain ⟨b1, o1, rfl, hb1, hc1⟩ := (OwnI.lies (OwnI.keep H13.out.1 HZ.out (by simp))).at_ (k := j) (by simpa using hjl)
            obtain ⟨b2, o2, rfl, hb2, hc2⟩ := (OwnI.lies (OwnI.keep H13.out.2.1 HZ.out (by simp))).at_ (k := j) (by simpa using hjl)
            rw [List.getElem_map] at hc1 hc2
            obtain ⟨x, hx⟩ : ∃ x, K[j] = x := ⟨_, rfl⟩
            rw [hx] at hc1 hc2
            clear hx hb1 hb2
            go_wp2_with fail
            go_region
            go_wp2_with fail
            exact ⟨⟨j + 1, by omega, by go_num, Lib.hid (HZ.out.then_ (Keeps.drew _))⟩, by simp [intOf]; omega⟩
          · obtain rfl : j = K.length := by omega
            go_wp2_with fail
            refine (known7_then (H13.out.2.2.h.then_ HZ.out)).mono ?_
            rintro e w' ⟨rfl, hk⟩
            have HK := Lib.hid hk
            clear hk
            go_wp2_with fail
            go_ret
            exact ⟨rfl, HK.out⟩
set_option maxRecDepth 100000 in
theorem spaceTwice_any (w : World) (high : Int) (A B : Option Addr) (c d : Nat) (free : List Int) (acts : List (Int × Int)) (hf : CameI w A c free) (ha : CameA w B d acts) :
    Calls Try.prog 8 #[.int .i64 high, .slice A free.length c, .slice B acts.length d] w fun e w' => e = .returned (.bool true) ∧ Keeps w w' [] := by
  by_cases h : (60 : Int) < acts.length ∨ (60 : Int) < free.length ∨ 50 < high
  · exact spaceTwice_far w high A B c d _ _ h
  · exact spaceTwice_near w high A B c d free acts hf ha (by omega) (by omega) (by omega)
end Go.Proofs.Ytanbdkfkkochgaa
