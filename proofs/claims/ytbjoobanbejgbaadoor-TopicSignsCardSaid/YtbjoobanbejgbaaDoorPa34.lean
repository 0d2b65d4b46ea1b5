/- The law TopicSigns. -/
import Derived.Test.YtbjoobanbejgbaaDoorPa32
import Derived.Deep.DeepCutAuto

namespace Go.Proofs.YtbjoobanbejgbaaDoor
open Go.RowKit Go.Shelf

theorem lies_take {w : World} {B : Nat} {A : Option Addr} {l : List (List UInt8)} (h : Lies w B A (txL l)) (k : Nat) : Lies w B A (txL (l.take k)) := fun hp => by
  have h0 : 0 < (txL l).length := by
    simp at hp ⊢
    omega
  obtain ⟨b, o, e, hb, hc⟩ := h h0
  refine ⟨b, o, e, hb, fun j u hu => hc j u ?_⟩
  rw [txL, List.map_take, List.getElem?_take] at hu
  split at hu
  · exact hu
  · cases hu
theorem tSum_set (l : List (List UInt8)) (k : Nat) (y : List UInt8) : tSum (l.set k y) ≤ tSum l + y.length := by
  induction l generalizing k with
  | nil => simp
  | cons x l ih =>
    cases k with
    | zero => rw [List.set_cons_zero, tSum_cons, tSum_cons]; omega
    | succ k =>
      have := ih k
      rw [List.set_cons_succ, tSum_cons, tSum_cons]
      omega
set_option maxRecDepth 100000 in
set_option maxHeartbeats 4000000 in
theorem topicSigns_any (w : World) (s : List UInt8) (at' : Int) (hm : MaxL w) : Calls Tryd.prog 7 #[.string ⟨s.toArray⟩, .int .i64 at'] w (TruePost w true) := by
  have HM := Lib.hid hm
  have HK := Lib.hid (Keeps.refl w [])
  clear hm
  by_cases hs : 300 < s.length
  · have hsb : decide ((s.length : Int) > 300) = true := decide_eq_true (by omega)
    go_enter Tryd.func7, Tryd.ntmps7
    go_wp2_with fail
    refine (known13_any _ (HM.out.keeps HK.out)).mono ?_
    rintro e w9 ⟨rfl, hk⟩
    replace HK := Lib.hid (HK.out.then_ hk)
    clear hk
    go_wp2_with fail
    go_ret
    exact ⟨rfl, HK.out⟩
  · have hsb : decide ((s.length : Int) > 300) = false := decide_eq_false (by omega)
    have C2 := Lib.hid (fun w : World => rName_any w s (by omega))
    cases hN : tName s with
    | false =>
      rw [hN] at C2
      clear hN
      go_enter Tryd.func7, Tryd.ntmps7
      go_wp2_with fail
      refine (C2.out _).mono ?_
      rintro e w9 ⟨rfl, hk⟩
      replace HK := Lib.hid (HK.out.then_ hk)
      clear hk
      go_wp2_with fail
      refine (known13_any _ (HM.out.keeps HK.out)).mono ?_
      rintro e w9 ⟨rfl, hk⟩
      replace HK := Lib.hid (HK.out.then_ hk)
      clear hk
      go_wp2_with fail
      go_ret
      exact ⟨rfl, HK.out⟩
    | true =>
      have C3 := Lib.hid (fun w : World => rLevels_any w s (by omega))
      rw [hN] at C2
      by_cases h0 : at' < 0
      · clear hN
        go_enter Tryd.func7, Tryd.ntmps7
        go_wp2_with fail
        refine (C2.out _).mono ?_
        rintro e w9 ⟨rfl, hk⟩
        replace HK := Lib.hid (HK.out.then_ hk)
        clear hk
        go_wp2_with fail
        refine (C3.out _).mono ?_
        rintro e w3 ⟨A, c, rfl, -, -, hk⟩
        replace HK := Lib.hid (HK.out.then_ hk)
        clear hk
        go_wp2_with fail
        refine (known13_any _ (HM.out.keeps HK.out)).mono ?_
        rintro e w9 ⟨rfl, hk⟩
        replace HK := Lib.hid (HK.out.then_ hk)
        clear hk
        go_wp2_with fail
        go_ret
        exact ⟨rfl, HK.out⟩
      · obtain ⟨k, rfl⟩ : ∃ k : Nat, at' = k := ⟨at'.toNat, by omega⟩
        clear h0
        by_cases hkl : k < (tLev s).length
        · have HL := Lib.hid (And.intro hkl (And.intro (show s.length ≤ 300 by omega) hN))
          have hL3 := tLev_len s
          obtain ⟨a, s', hcs⟩ : ∃ a s', s = a :: s' := List.exists_cons_of_ne_nil (tName_levels hN).1
          have i2 : ∀ h, (⟨s.toArray⟩ : ByteArray)[0]'h = a := fun h => by
            rw [str_get rfl (by rw [hcs]; simp) h]
            simp [hcs]
          have p2 : 0 < s.length := by rw [hcs]; simp
          obtain ⟨o, ho⟩ : ∃ o, ((a.toNat : Int) == 36) = o := ⟨_, rfl⟩
          have HO := Lib.hid (show tWant s k = (!o || decide (0 < k)) by
            unfold tWant tOwn
            rw [hcs, pre1_cons, ← ho]
            congr 2
            rw [Bool.eq_iff_iff, beq_iff_eq, beq_iff_eq]
            constructor
            · rintro rfl; rfl
            · intro h
              exact (UInt8.toNat_inj.1 (by simpa using (show a.toNat = 36 by omega))).symm)
          clear hN hcs
          go_enter Tryd.func7, Tryd.ntmps7
          go_wp2_with fail
          refine (C2.out _).mono ?_
          rintro e w9 ⟨rfl, hk⟩
          replace HK := Lib.hid (HK.out.then_ hk)
          clear hk
          go_wp2_with fail
          refine (C3.out _).mono ?_
          rintro e w3 ⟨A, c, rfl, hc, hL, hk⟩
          replace HK := Lib.hid (HK.out.then_ hk)
          have HLi := Lib.hid (And.intro hL hc)
          clear hk hL hc
          obtain ⟨l, hl⟩ : ∃ l, tLev s = l := ⟨_, rfl⟩
          rw [hl] at HL HLi hkl hL3
          rw [hl]
          have HE := Lib.hid hl
          clear hl C2 C3
          go_wp2_with (at_builtin; refine wpList_append_N elemTxt encTxt rfl (Operand.const (.slice none 0 0)) (.tmp 41) rfl w3.heap.size (.slice none 0 0) A l.length c [] l rfl rfl rfl (OwnN.nil _ _ _ _ _) (by rw [flat_txt]; exact HLi.out.1) (by simp; omega) (Nat.le_refl _) ?_; intro A5 c5 w5 l5 hl5 hlen5 ho5 hk5 hb5; have H5 := Lib.hid (And.intro hl5.out (And.intro ho5 hk5)); have h5n : l5.length = l.length := (by rw [hl5.out]; rfl); rw [h5n]; clear hl5 ho5 hk5 hlen5 hb5; refine Hid.out ?_)
          refine Lib.hid ?_
          obtain ⟨g5, cur5, rfl, -, hg5, hr5, hc5, -⟩ := OwnN.one (q := fun a : List UInt8 => .string ⟨a.toArray⟩) (m := k) (fun _ => rfl) H5.out.2.1 (by omega)
          obtain ⟨_, _, e5, -, hgb5, _, _, ho5⟩ := OwnN.one (q := fun a : List UInt8 => .string ⟨a.toArray⟩) (m := k) (fun _ => rfl) H5.out.2.1 (by omega)
          injection e5 with e5
          injection e5 with e5
          subst e5
          rw [h5n] at ho5
          have hl5e : l5 = l := H5.out.1
          rw [hl5e] at ho5
          have hk5 : Keeps w3 w5 [] := H5.out.2.2
          have d5 := (hr5.cell k).trans hc5
          have f5 := hr5.frozen k
          clear hg5 hr5 hc5 hl5e
          obtain ⟨W6, hW6⟩ : ∃ W6, w5.setCell ⟨g5, k, none⟩ (.string ⟨#[43]⟩) = W6 := ⟨_, rfl⟩
          have ho6 : OwnT W6 w3.heap.size (.slice (some ⟨g5, 0, none⟩) l.length c5) (l.set k [43]) := by
            rw [← hW6]
            exact ho5 [43]
          have hk6 : Keeps w3 W6 [] := by
            rw [← hW6]
            exact (hk5.trans (Keeps.setCell _ _ _) fun x hx hlt => by
              simp at hx
              omega)
          have HSm := Lib.hid (show tSum l ≤ 301 by rw [← HE.out, tSum_lev]; have := HL.out.2.1; omega)
          have HLk := Lib.hid (show Lies W6 W6.heap.size A (txL (l.take k)) from lies_take (HLi.out.1.below (hk6.below (Nat.le_refl _) (by simp)) |>.mono hk6.size) k)
          have H6 := Lib.hid (And.intro ho6 (And.intro hk6 (HK.out.then_ hk6)))
          clear ho5 hk5 ho6 hk6 hgb5
          go_wp2_with fail
          clear hW6
          refine (tJoinL_any W6 _ _ c5 (l.set k [43]) (by rw [List.length_set]) H6.out.1.lies1.2 (by have h1 := tSum_set l k [43]; have h2 := HSm.out; simp at h1; omega)).mono ?_
          rintro e w7 ⟨rfl, rfl⟩
          have hkc : k ≤ c := by have := HLi.out.2; omega
          go_wp2_with (at_builtin; refine wpList_append_N elemTxt encTxt rfl (Operand.const (.slice none 0 0)) (.tmp 50) rfl W6.heap.size (.slice none 0 0) A k c [] (l.take k) (by rw [List.length_take]; omega) rfl rfl (OwnN.nil _ _ _ _ _) (by rw [flat_txt]; exact HLk.out) (by simp; omega) (Nat.le_refl _) ?_; intro A8 c8 w8 l8 hl8 hlen8 ho8 hk8 hb8; refine Hid.out ?_)
          refine Lib.hid ?_
          have h8n : l8.length = k := by rw [hl8.out, List.nil_append, List.length_take]; omega
          rw [h8n] at ho8 ⊢
          have h8 : l8 = l.take k := hl8.out
          subst h8
          have H8 := Lib.hid (And.intro ho8 (show Keeps W6 w8 [] from hk8))
          clear ho8 hk8 hb8 hl8 hlen8
          obtain ⟨Wa, hWa⟩ : ∃ Wa, w8.alloc (.cells #[.string ⟨#[35]⟩] 9) = Wa := ⟨_, rfl⟩
          have ra : Row Wa w8.heap.size 9 #[.string ⟨#[35]⟩] := by rw [← hWa]; exact Row.new _ _ _
          have ka : Keeps w8 Wa [] := by rw [← hWa]; exact Keeps.alloc _ _
          have HA := Lib.hid (And.intro (OwnN.keeps H8.out.1 ka) (And.intro (H8.out.2.then_ ka) (show Lies Wa Wa.heap.size (some ⟨w8.heap.size, 0, none⟩) ([[35]].flatMap txtV) from lies_of_row ra rfl)))
          clear ra ka
          go_wp2_with (at_builtin; refine wpList_append_N elemTxt encTxt rfl (.tmp 51) (.tmp 52) rfl W6.heap.size (.slice A8 k c8) (some ⟨w8.heap.size, 0, none⟩) 1 1 (l.take k) [[35]] rfl rfl rfl HA.out.1 HA.out.2.2 (by simp; omega) HA.out.2.1.size ?_; intro A9 c9 w9 l9 hl9 hlen9 ho9 hk9 hb9; refine Hid.out ?_)
          refine Lib.hid ?_
          have h9 : l9 = l.take k ++ [[35]] := hl9.out
          have HK9 := Lib.hid (show Keeps w w9 [] from (H6.out.2.2.then_ HA.out.2.1).trans hk9 fun g hg hlt => by
            have := (HA.out.1.rows g hg).1
            have := H6.out.2.2.size
            omega)
          have HL9 := Lib.hid (ho9.lies1.2)
          have hs9 : tSum l9 ≤ 303 := by
            rw [h9, tSum_app, tSum_cons]
            have := tSum_take l k
            have := HSm.out
            simp [tSum] at *
            omega
          have HJ := Lib.hid (tJoinL_any w9 A9 l9.length c9 l9 rfl HL9.out (by omega))
          obtain ⟨P, hP⟩ : ∃ P, tJoin (l.set k [43]) = P := ⟨_, rfl⟩
          obtain ⟨H, hH⟩ : ∃ H, tJoin l9 = H := ⟨_, rfl⟩
          have hPl : P.length ≤ 302 := by
            rw [← hP]
            have h1 := tSum_set l k [43]
            have h2 := tJoin_le (l.set k [43])
            have h3 := HSm.out
            simp at h1
            omega
          have hHl : H.length ≤ 303 := by
            rw [← hH]
            have h2 := tJoin_le l9
            omega
          rw [hH] at HJ
          rw [hP]
          have hNs : tName s = true := HL.out.2.2
          have hkk : k < (tLev s).length := by rw [HE.out]; exact HL.out.1
          obtain ⟨wt, hwt⟩ : ∃ wt, tWant s k = wt := ⟨_, rfl⟩
          have FP := Lib.hid (show tFilter P = true → mtB P s = wt ∧ mtC P s = 0 from fun hf => by
            refine mt_of hf hNs ?_
            rw [← hwt]
            have e : P = tJoin ((tLev s).set k [43]) := by rw [HE.out, hP]
            rw [e] at hf ⊢
            exact meets_plus hNs hkk hf)
          have FH := Lib.hid (show tFilter H = true → mtB H s = wt ∧ mtC H s = 0 from fun hf => by
            refine mt_of hf hNs ?_
            rw [← hwt]
            have e : H = tJoin ((tLev s).take k ++ [[35]]) := by rw [HE.out, ← hH, h9]
            rw [e] at hf ⊢
            exact meets_hash hNs hkk hf)
          have FM := Lib.hid (show tFilter (s ++ [47, 35]) = true → mtB (s ++ [47, 35]) s = true ∧ mtC (s ++ [47, 35]) s = 0 from fun hf => mt_of hf hNs (meets_more hNs hf))
          have hPn : tName P = false := by
            rw [← hP]
            exact sign_no_name (x := [43]) (List.mem_iff_getElem.2 ⟨k, by rw [List.length_set]; exact HL.out.1, by rw [List.getElem_set_self]⟩) tSign_43
          have hHn : tName H = false := by
            rw [← hH, h9]
            exact sign_no_name (x := [35]) (by simp) tSign_35
          rw [hwt] at HO
          have D1 := Lib.hid (fun (w : World) h => tMeets_any w P s (by omega) (by omega) h)
          have D2 := Lib.hid (fun (w : World) h => tMeets_any w H s (by omega) (by omega) h)
          have D3 := Lib.hid (show ∀ (w : World), MaxL w → Calls Tryd.prog 9 #[.string (⟨s.toArray⟩ ++ ⟨#[47, 35]⟩), .string ⟨s.toArray⟩] w (PairPost w (mtB (s ++ [47, 35]) s) (mtC (s ++ [47, 35]) s)) from fun w h => by
            have := tMeets_any w (s ++ [47, 35]) s (by simp; omega) (by omega) h
            rw [← txt_app s [47, 35]] at this
            exact this)
          have D4 := Lib.hid (fun (w : World) => rFilter_any w P (by omega))
          have D5 := Lib.hid (fun (w : World) => rFilter_any w H (by omega))
          have D6 := Lib.hid (show ∀ (w : World), Calls Tryd.prog 10 #[.string (⟨s.toArray⟩ ++ ⟨#[47, 35]⟩)] w (TruePost w (tFilter (s ++ [47, 35]))) from fun w => by
            have := rFilter_any w (s ++ [47, 35]) (by simp; omega)
            rw [← txt_app s [47, 35]] at this
            exact this)
          have D7 := Lib.hid (fun (w : World) => tPlain_any w P (by omega))
          have D8 := Lib.hid (fun (w : World) => tPlain_any w H (by omega))
          rw [hPn] at D7
          rw [hHn] at D8
          generalize mtB P s = bp at *
          generalize mtC P s = cp at *
          generalize mtB H s = bh at *
          generalize mtC H s = ch at *
          generalize mtB (s ++ [47, 35]) s = bm at *
          generalize mtC (s ++ [47, 35]) s = cm at *
          generalize tFilter P = fp at *
          generalize tFilter H = fh at *
          generalize tFilter (s ++ [47, 35]) = fm at *
          have hsz : ¬ 9223372036854775807 < s.length + 2 := by omega
          clear hl9 hlen9 ho9 hk9 hb9 hs9 hP hH hNs hkk hwt hPn hHn h9 HA H8 H6 HLk HL9 HSm HLi HE HL hWa
          go_wp2_with fail
          refine HJ.out.mono ?_
          rintro e wj ⟨rfl, rfl⟩
          clear HJ
          replace HK := HK9
          clear HK9
          go_wp2_with fail
          refine (D1.out _ (HM.out.keeps HK.out)).mono ?_
          rintro e w9 ⟨rfl, hk⟩
          replace HK := Lib.hid (HK.out.then_ hk)
          clear hk
          go_wp2_with fail
          refine (D2.out _ (HM.out.keeps HK.out)).mono ?_
          rintro e w9 ⟨rfl, hk⟩
          replace HK := Lib.hid (HK.out.then_ hk)
          clear hk
          go_upto_region 13 with fail
          go_cut [14] (fun v wx => v = .bool wt ∧ wx = w9)
          case first =>
            cases o with
            | false =>
              have HW := Lib.hid (show wt = true from HO.out)
              go_wp2_with fail
              go_meet
              case rel => exact ⟨by rw [HW.out], rfl⟩
            | true =>
              by_cases hk0 : 0 < k
              · have HW := Lib.hid (show wt = true by rw [HO.out]; simpa using hk0)
                go_wp2_with fail
                go_meet
                case rel => exact ⟨by rw [HW.out], rfl⟩
              · obtain rfl : k = 0 := by omega
                have HW := Lib.hid (show wt = false by rw [HO.out]; rfl)
                go_wp2_with fail
                go_meet
                case rel => exact ⟨by rw [HW.out], rfl⟩
          case rest =>
            obtain ⟨rfl, rfl⟩ := hcut
            go_upto_region 14 with fail
            go_cut [96] (fun v wx => v = .bool false ∧ Keeps w wx [])
            case first =>
              cases fp with
              | false =>
                go_wp2_with fail
                refine (D4.out _).mono ?_
                rintro e w9 ⟨rfl, hk⟩
                replace HK := Lib.hid (HK.out.then_ hk)
                clear hk
                go_wp2_with fail
                refine (D5.out _).mono ?_
                rintro e w9 ⟨rfl, hk⟩
                replace HK := Lib.hid (HK.out.then_ hk)
                clear hk
                cases fh with
                | false =>
                  go_wp2_with fail
                  go_meet
                  case rel => exact ⟨rfl, HK.out⟩
                | true =>
                  obtain ⟨rfl, rfl⟩ := FH.out (by first | rfl | trivial)
                  go_wp2_with fail
                  go_meet
                  case rel => exact ⟨by first | rfl | simp, HK.out⟩
              | true =>
                obtain ⟨rfl, rfl⟩ := FP.out (by first | rfl | trivial)
                go_wp2_with fail
                refine (D4.out _).mono ?_
                rintro e w9 ⟨rfl, hk⟩
                replace HK := Lib.hid (HK.out.then_ hk)
                clear hk
                go_wp2_with fail
                refine (D5.out _).mono ?_
                rintro e w9 ⟨rfl, hk⟩
                replace HK := Lib.hid (HK.out.then_ hk)
                clear hk
                cases fh with
                | false =>
                  go_wp2_with fail
                  go_meet
                  case rel => exact ⟨by first | rfl | simp, HK.out⟩
                | true =>
                  obtain ⟨rfl, rfl⟩ := FH.out (by first | rfl | trivial)
                  go_wp2_with fail
                  go_meet
                  case rel => exact ⟨by first | rfl | simp, HK.out⟩
            case rest =>
              obtain ⟨rfl, hkc⟩ := hcut
              replace HK := Lib.hid hkc
              clear hkc
              go_wp2_with fail
              refine (D3.out _ (HM.out.keeps HK.out)).mono ?_
              rintro e w9 ⟨rfl, hk⟩
              replace HK := Lib.hid (HK.out.then_ hk)
              clear hk
              go_wp2_with fail
              refine (D6.out _).mono ?_
              rintro e w9 ⟨rfl, hk⟩
              replace HK := Lib.hid (HK.out.then_ hk)
              clear hk
              cases fm with
              | false =>
                go_wp2_with fail
                refine (D7.out _).mono ?_
                rintro e w9 ⟨rfl, hk⟩
                replace HK := Lib.hid (HK.out.then_ hk)
                clear hk
                go_wp2_with fail
                refine (D8.out _).mono ?_
                rintro e w9 ⟨rfl, hk⟩
                replace HK := Lib.hid (HK.out.then_ hk)
                clear hk
                go_wp2_with fail
                refine (known13_any _ (HM.out.keeps HK.out)).mono ?_
                rintro e w9 ⟨rfl, hk⟩
                replace HK := Lib.hid (HK.out.then_ hk)
                clear hk
                go_wp2_with fail
                go_ret
                exact ⟨rfl, HK.out⟩
              | true =>
                obtain ⟨rfl, rfl⟩ := FM.out (by first | rfl | trivial)
                go_wp2_with fail
                refine (D7.out _).mono ?_
                rintro e w9 ⟨rfl, hk⟩
                replace HK := Lib.hid (HK.out.then_ hk)
                clear hk
                go_wp2_with fail
                refine (D8.out _).mono ?_
                rintro e w9 ⟨rfl, hk⟩
                replace HK := Lib.hid (HK.out.then_ hk)
                clear hk
                go_wp2_with fail
                refine (known13_any _ (HM.out.keeps HK.out)).mono ?_
                rintro e w9 ⟨rfl, hk⟩
                replace HK := Lib.hid (HK.out.then_ hk)
                clear hk
                go_wp2_with fail
                go_ret
                exact ⟨rfl, HK.out⟩
        · clear hN
          go_enter Tryd.func7, Tryd.ntmps7
          go_wp2_with fail
          refine (C2.out _).mono ?_
          rintro e w9 ⟨rfl, hk⟩
          replace HK := Lib.hid (HK.out.then_ hk)
          clear hk
          go_wp2_with fail
          refine (C3.out _).mono ?_
          rintro e w3 ⟨A, c, rfl, -, -, hk⟩
          replace HK := Lib.hid (HK.out.then_ hk)
          clear hk
          go_wp2_with fail
          refine (known13_any _ (HM.out.keeps HK.out)).mono ?_
          rintro e w9 ⟨rfl, hk⟩
          replace HK := Lib.hid (HK.out.then_ hk)
          clear hk
          go_wp2_with fail
          go_ret
          exact ⟨rfl, HK.out⟩
end Go.Proofs.YtbjoobanbejgbaaDoor
