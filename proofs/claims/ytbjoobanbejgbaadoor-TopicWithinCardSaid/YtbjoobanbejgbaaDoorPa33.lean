/- The law TopicWithin. -/
import Derived.Test.YtbjoobanbejgbaaDoorPa32

namespace Go.Proofs.YtbjoobanbejgbaaDoor
open Go.RowKit Go.Shelf

theorem nmO_size (y m : List (List UInt8)) (j : Nat) : ∀ x ∈ nmO y m j, x.length ≤ tSum m + 2 * j := by
  induction j with
  | zero =>
    intro x hx
    rw [nmO, List.mem_singleton] at hx
    rw [hx]
    exact tJoin_le m
  | succ j ih =>
    intro x hx
    rw [nmO] at hx
    rcases List.mem_append.1 hx with h | h
    · have := ih x h; omega
    · rw [List.mem_singleton] at h
      rw [h]
      have := tJoin_le (nmM y m (j + 1))
      rw [nmM_sum] at this
      exact this
theorem tNames_size (a b : List UInt8) : ∀ x ∈ tNames a b, x.length ≤ a.length + 5 := by
  intro x hx
  unfold tNames at hx
  rw [names_O] at hx
  have h1 := tBase_sum (tLev b) (tLev a) 0
  rw [tSum_lev] at h1
  split at hx
  · have := nmO_size _ _ _ x hx; omega
  · have := nmO_size _ _ _ x hx; omega
theorem tNames_len (a b : List UInt8) : (tNames a b).length ≤ 3 := by
  unfold tNames
  rw [names_O]
  split
  · rw [nmO_len]; omega
  · rw [nmO_len]; omega
theorem any_take {L : List (List UInt8)} {p : List UInt8 → Bool} {k : Nat} {x : List UInt8} {o : Bool} (hk : k < L.length) (hx : L[k] = x) (ho : o = (L.take k).any p) : (L.take (k + 1)).any p = (o || p x) := by
  rw [List.take_succ_eq_append_getElem hk, List.any_append, ← ho, hx]
  simp
set_option maxRecDepth 100000 in
set_option maxHeartbeats 4000000 in
theorem topicWithin_any (w : World) (a b n : List UInt8) (hm : MaxL w) : Calls Tryd.prog 4 #[.string ⟨a.toArray⟩, .string ⟨b.toArray⟩, .string ⟨n.toArray⟩] w (TruePost w true) := by
  have HM := Lib.hid hm
  have HK := Lib.hid (Keeps.refl w [])
  clear hm
  by_cases hs : 300 < a.length
  · have hsb : decide ((a.length : Int) > 300) = true := decide_eq_true (by omega)
    go_enter Tryd.func4, Tryd.ntmps4
    go_wp2_with fail
    refine (known13_any _ (HM.out.keeps HK.out)).mono ?_
    rintro e w9 ⟨rfl, hk⟩
    replace HK := Lib.hid (HK.out.then_ hk)
    clear hk
    go_wp2_with fail
    go_ret
    exact ⟨rfl, HK.out⟩
  · have hsb : decide ((a.length : Int) > 300) = false := decide_eq_false (by omega)
    by_cases hs2 : 300 < b.length
    · have hsb2 : decide ((b.length : Int) > 300) = true := decide_eq_true (by omega)
      go_enter Tryd.func4, Tryd.ntmps4
      go_wp2_with fail
      refine (known13_any _ (HM.out.keeps HK.out)).mono ?_
      rintro e w9 ⟨rfl, hk⟩
      replace HK := Lib.hid (HK.out.then_ hk)
      clear hk
      go_wp2_with fail
      go_ret
      exact ⟨rfl, HK.out⟩
    · have hsb2 : decide ((b.length : Int) > 300) = false := decide_eq_false (by omega)
      by_cases hs3 : 300 < n.length
      · have hsb3 : decide ((n.length : Int) > 300) = true := decide_eq_true (by omega)
        go_enter Tryd.func4, Tryd.ntmps4
        go_wp2_with fail
        refine (known13_any _ (HM.out.keeps HK.out)).mono ?_
        rintro e w9 ⟨rfl, hk⟩
        replace HK := Lib.hid (HK.out.then_ hk)
        clear hk
        go_wp2_with fail
        go_ret
        exact ⟨rfl, HK.out⟩
      · have hsb3 : decide ((n.length : Int) > 300) = false := decide_eq_false (by omega)
        have C1 := Lib.hid (fun (w : World) h => tWithin_any w a b (by omega) (by omega) h)
        have C2 := Lib.hid (fun w : World => rFilter_any w a (by omega))
        have C3 := Lib.hid (fun w : World => rFilter_any w b (by omega))
        cases hA : tFilter a with
        | false =>
          rw [show wiB a b = false by unfold wiB; rw [hA]; rfl, show wiC a b = 230 by unfold wiC; rw [hA]; rfl] at C1
          rw [hA] at C2
          clear hA
          go_enter Tryd.func4, Tryd.ntmps4
          go_wp2_with fail
          refine (C1.out _ (HM.out.keeps HK.out)).mono ?_
          rintro e w9 ⟨rfl, hk⟩
          replace HK := Lib.hid (HK.out.then_ hk)
          clear hk
          go_wp2_with fail
          refine (C2.out _).mono ?_
          rintro e w9 ⟨rfl, hk⟩
          replace HK := Lib.hid (HK.out.then_ hk)
          clear hk
          go_wp2_with fail
          refine (known13_any _ (HM.out.keeps HK.out)).mono ?_
          rintro e w9 ⟨rfl, hk⟩
          replace HK := Lib.hid (HK.out.then_ hk)
          clear hk
          go_wp2_with fail
          go_ret
          exact ⟨rfl, HK.out⟩
        | true =>
          cases hB : tFilter b with
          | false =>
            rw [show wiB a b = false by unfold wiB; rw [hA, hB]; rfl, show wiC a b = 230 by unfold wiC; rw [hA, hB]; rfl] at C1
            rw [hA] at C2
            rw [hB] at C3
            clear hA hB
            go_enter Tryd.func4, Tryd.ntmps4
            go_wp2_with fail
            refine (C1.out _ (HM.out.keeps HK.out)).mono ?_
            rintro e w9 ⟨rfl, hk⟩
            replace HK := Lib.hid (HK.out.then_ hk)
            clear hk
            go_wp2_with fail
            refine (C2.out _).mono ?_
            rintro e w9 ⟨rfl, hk⟩
            replace HK := Lib.hid (HK.out.then_ hk)
            clear hk
            go_wp2_with fail
            refine (C3.out _).mono ?_
            rintro e w9 ⟨rfl, hk⟩
            replace HK := Lib.hid (HK.out.then_ hk)
            clear hk
            go_wp2_with fail
            refine (known13_any _ (HM.out.keeps HK.out)).mono ?_
            rintro e w9 ⟨rfl, hk⟩
            replace HK := Lib.hid (HK.out.then_ hk)
            clear hk
            go_wp2_with fail
            go_ret
            exact ⟨rfl, HK.out⟩
          | true =>
            obtain ⟨q, hq⟩ : ∃ q, tWithin a b = q := ⟨_, rfl⟩
            have C4 := Lib.hid (fun (w : World) h => tWithin_any w a a (by omega) (by omega) h)
            rw [show wiB a b = q by unfold wiB; rw [hA, hB, hq]; rfl, show wiC a b = 0 by unfold wiC; rw [hA, hB]; rfl] at C1
            rw [show wiB a a = true by unfold wiB; rw [hA, within_self hA]; rfl, show wiC a a = 0 by unfold wiC; rw [hA]; rfl] at C4
            rw [hA] at C2
            rw [hB] at C3
            have C5 := Lib.hid (fun w : World => tNames_any w a b (by omega) (by omega))
            have HL0 := Lib.hid (show ((tNames a b ++ [n]).any fun n => tOnly a b n) = !q by rw [← hq]; exact only_within hA hB n)
            have HLS := Lib.hid (show ∀ x ∈ tNames a b ++ [n], x.length ≤ 400 from fun x hx => by
              rcases List.mem_append.1 hx with h | h
              · have := tNames_size a b x h; omega
              · rw [List.mem_singleton] at h
                rw [h]
                omega)
            have hln := tNames_len a b
            have C6 := Lib.hid (fun (w : World) (x : List UInt8) (hx : x.length ≤ 400) => rName_any w x (by omega))
            have C7 := Lib.hid (fun (w : World) (x : List UInt8) (hx : x.length ≤ 400) (h0 : x ≠ []) => rMeets_any w a x (by omega) (by omega) (tFilter_levels hA).1 h0)
            have C8 := Lib.hid (fun (w : World) (x : List UInt8) (hx : x.length ≤ 400) (h0 : x ≠ []) => rMeets_any w b x (by omega) (by omega) (tFilter_levels hB).1 h0)
            clear hA hB hq
            go_enter Tryd.func4, Tryd.ntmps4
            go_wp2_with fail
            refine (C1.out _ (HM.out.keeps HK.out)).mono ?_
            rintro e w9 ⟨rfl, hk⟩
            replace HK := Lib.hid (HK.out.then_ hk)
            clear hk
            go_wp2_with fail
            refine (C2.out _).mono ?_
            rintro e w9 ⟨rfl, hk⟩
            replace HK := Lib.hid (HK.out.then_ hk)
            clear hk
            go_wp2_with fail
            refine (C3.out _).mono ?_
            rintro e w9 ⟨rfl, hk⟩
            replace HK := Lib.hid (HK.out.then_ hk)
            clear hk
            go_wp2_with fail
            refine (C4.out _ (HM.out.keeps HK.out)).mono ?_
            rintro e w9 ⟨rfl, hk⟩
            replace HK := Lib.hid (HK.out.then_ hk)
            clear hk
            go_wp2_with fail
            have HK0 := HK
            refine (C5.out _).mono ?_
            rintro e w5 ⟨A, c, rfl, ho, hk⟩
            replace HK := Lib.hid (HK.out.then_ hk)
            obtain ⟨N, hN⟩ : ∃ N, tNames a b = N := ⟨_, rfl⟩
            rw [hN] at ho HL0 HLS hln
            rw [hN]
            obtain ⟨Wa, hWa⟩ : ∃ Wa, w5.alloc (.cells #[.string ⟨n.toArray⟩] 9) = Wa := ⟨_, rfl⟩
            have ra : Row Wa w5.heap.size 9 #[.string ⟨n.toArray⟩] := by rw [← hWa]; exact Row.new _ _ _
            have ka : Keeps w5 Wa [] := by rw [← hWa]; exact Keeps.alloc _ _
            have HLa := Lib.hid (show Lies Wa Wa.heap.size (some ⟨w5.heap.size, 0, none⟩) ([n].flatMap txtV) from lies_of_row ra rfl)
            have ho2 := ownN_base ho (show w.heap.size ≤ _ from HK0.out.size)
            have HA := Lib.hid (And.intro (OwnN.keeps ho2 ka) (HK.out.then_ ka))
            clear ra ka ho ho2 hk hN C5
            go_wp2_with (at_builtin; refine wpList_append_N elemTxt encTxt rfl (.tmp 69) (.tmp 71) rfl w.heap.size (.slice A N.length c) (some ⟨w5.heap.size, 0, none⟩) 1 1 N [n] rfl rfl rfl HA.out.1 HLa.out (by simp; omega) HA.out.2.size ?_; intro A5 c5 w5 l5 hl5 hlen5 ho5 hk5 hb5; have H5 := Lib.hid (And.intro hl5.out (And.intro ho5 hk5)); clear hl5 ho5 hk5 hlen5 hb5)
            rw [← H5.out.1] at HL0 HLS
            have HLi := Lib.hid (H5.out.2.1.lies1.2)
            have HK5 := Lib.hid (show Keeps w w5 [] from HA.out.2.trans H5.out.2.2 fun g hg hlt => by
              have := (HA.out.1.rows g hg).1
              omega)
            have h5n : l5.length ≤ 4 := by rw [H5.out.1, List.length_append]; simp; omega
            have HP := Lib.hid (show false = (l5.take 0).any (fun n => tOnly a b n) from rfl)
            have HP2 := Lib.hid (Keeps.refl w5 [])
            clear HA H5 HK HK0 HLa hWa
            go_loopw [12, 13] (fun on i wr => ∃ (k : Nat) (o : Bool), k ≤ l5.length ∧ i = .int .i64 k ∧ on = .bool o ∧ Hid (o = (l5.take k).any (fun n => tOnly a b n)) ∧ Hid (Keeps w5 wr [])) (fun _ i _ => l5.length - (intOf i).toNat)
            case atStart => exact ⟨0, false, by omega, rfl, rfl, HP, HP2⟩
            case round =>
              clear HP HP2
              obtain ⟨k, o, hk, rfl, rfl, HR, HK⟩ := hrel
              by_cases hlt : k < l5.length
              · obtain ⟨g, og, rfl, hgb, hcx⟩ := HLi.out.at_ (k := k) (by simpa using hlt)
                rw [List.getElem_map] at hcx
                obtain ⟨x, hx⟩ : ∃ x, l5[k] = x := ⟨_, rfl⟩
                have HX := Lib.hid (any_take (p := fun n => tOnly a b n) hlt hx HR.out)
                have hxl := HLS.out l5[k] (List.getElem_mem hlt)
                rw [hx] at hcx hxl
                have D0 := (HK.out.cell (p := ⟨g, og + k, none⟩) hgb (by simp)).trans hcx
                clear hcx hx
                have E6 := Lib.hid (fun w => C6.out w x hxl)
                have HON := Lib.hid (show tOnly a b x = (tName x && tMeets a x && !tMeets b x) from rfl)
                have E7 := Lib.hid (show tName x = true → ∀ w, Calls Tryd.prog 12 #[.string ⟨a.toArray⟩, .string ⟨x.toArray⟩] w (TruePost w (tMeets a x)) from fun h w => C7.out w x hxl (tName_levels h).1)
                have E8 := Lib.hid (show tName x = true → ∀ w, Calls Tryd.prog 12 #[.string ⟨b.toArray⟩, .string ⟨x.toArray⟩] w (TruePost w (tMeets b x)) from fun h w => C8.out w x hxl (tName_levels h).1)
                have MA := Lib.hid (fun (W' : World) (hW : Keeps wr W' []) => (hW.cell (p := ⟨g, og + k, none⟩) (Nat.lt_of_lt_of_le hgb HK.out.size) (by simp)).trans D0)
                obtain ⟨b1, h1⟩ : ∃ b1, tName x = b1 := ⟨_, rfl⟩
                obtain ⟨b2, h2⟩ : ∃ b2, tMeets a x = b2 := ⟨_, rfl⟩
                obtain ⟨b3, h3⟩ : ∃ b3, tMeets b x = b3 := ⟨_, rfl⟩
                rw [h1] at E6 E7 E8
                rw [h2] at E7
                rw [h3] at E8
                rw [h1, h2, h3] at HON
                rw [HON.out] at HX
                clear h1 h2 h3 HON hgb hxl
                go_wp2_with fail
                refine (E6.out _).mono ?_
                rintro e w6 ⟨rfl, hk6⟩
                have D1 := MA.out w6 hk6
                have HK6 := Lib.hid (HK.out.then_ hk6)
                cases b1 with
                | false =>
                  clear hk6
                  go_wp2_with fail
                  exact ⟨⟨k + 1, o, by omega, by go_num, rfl, Lib.hid (by rw [HX.out]; simp), HK6⟩, by simp [intOf]; omega⟩
                | true =>
                  have HK6r := Lib.hid hk6
                  clear hk6
                  go_wp2_with fail
                  refine (E7.out (by first | rfl | trivial) _).mono ?_
                  rintro e w7 ⟨rfl, hk7⟩
                  have D2 := MA.out w7 (HK6r.out.then_ hk7)
                  have HK7 := Lib.hid (HK6.out.then_ hk7)
                  clear hk7 HK6 HK6r D1
                  cases b2 with
                  | false =>
                    go_wp2_with fail
                    exact ⟨⟨k + 1, o, by omega, by go_num, rfl, Lib.hid (by rw [HX.out]; simp), HK7⟩, by simp [intOf]; omega⟩
                  | true =>
                    go_wp2_with fail
                    refine (E8.out (by first | rfl | trivial) _).mono ?_
                    rintro e w8 ⟨rfl, hk8⟩
                    have HK8 := Lib.hid (HK7.out.then_ hk8)
                    clear hk8 HK7 D2
                    cases b3 with
                    | false =>
                      go_wp2_with fail
                      exact ⟨⟨k + 1, true, by omega, by go_num, rfl, Lib.hid (by rw [HX.out]; simp), HK8⟩, by simp [intOf]; omega⟩
                    | true =>
                      go_wp2_with fail
                      exact ⟨⟨k + 1, o, by omega, by go_num, rfl, Lib.hid (by rw [HX.out]; simp), HK8⟩, by simp [intOf]; omega⟩
              · obtain rfl : k = l5.length := by omega
                have ho : o = !q := by rw [HR.out, List.take_length, HL0.out]
                subst ho
                replace HK := Lib.hid (HK5.out.then_ HK.out)
                cases q with
                | false =>
                  go_wp2_with fail
                  refine (known13_any _ (HM.out.keeps HK.out)).mono ?_
                  rintro e w9 ⟨rfl, hk⟩
                  replace HK := Lib.hid (HK.out.then_ hk)
                  clear hk
                  go_wp2_with fail
                  go_ret
                  exact ⟨rfl, HK.out⟩
                | true =>
                  go_wp2_with fail
                  refine (known13_any _ (HM.out.keeps HK.out)).mono ?_
                  rintro e w9 ⟨rfl, hk⟩
                  replace HK := Lib.hid (HK.out.then_ hk)
                  clear hk
                  go_wp2_with fail
                  go_ret
                  exact ⟨rfl, HK.out⟩
end Go.Proofs.YtbjoobanbejgbaaDoor
