/- The law TopicMeets. -/
import Derived.Test.YtbjoobanbejgbaaDoorPa30

namespace Go.Proofs.YtbjoobanbejgbaaDoor
open Go.RowKit Go.Shelf

set_option maxRecDepth 100000 in
set_option maxHeartbeats 2000000 in
theorem topicMeets_any (w : World) (f n : List UInt8) (hm : MaxL w) : Calls Tryd.prog 3 #[.string ⟨f.toArray⟩, .string ⟨n.toArray⟩] w (TruePost w true) := by
  have HM := Lib.hid hm
  have HK := Lib.hid (Keeps.refl w [])
  clear hm
  by_cases hs : 300 < f.length
  · have hsb : decide ((f.length : Int) > 300) = true := decide_eq_true (by omega)
    go_enter Tryd.func3, Tryd.ntmps3
    go_wp2_with fail
    refine (known13_any _ (HM.out.keeps HK.out)).mono ?_
    rintro e w9 ⟨rfl, hk⟩
    replace HK := Lib.hid (HK.out.then_ hk)
    clear hk
    go_wp2_with fail
    go_ret
    exact ⟨rfl, HK.out⟩
  · have hsb : decide ((f.length : Int) > 300) = false := decide_eq_false (by omega)
    by_cases hs2 : 300 < n.length
    · have hsb2 : decide ((n.length : Int) > 300) = true := decide_eq_true (by omega)
      go_enter Tryd.func3, Tryd.ntmps3
      go_wp2_with fail
      refine (known13_any _ (HM.out.keeps HK.out)).mono ?_
      rintro e w9 ⟨rfl, hk⟩
      replace HK := Lib.hid (HK.out.then_ hk)
      clear hk
      go_wp2_with fail
      go_ret
      exact ⟨rfl, HK.out⟩
    · have hsb2 : decide ((n.length : Int) > 300) = false := decide_eq_false (by omega)
      have C1 := Lib.hid (fun (w : World) h => tMeets_any w f n (by omega) (by omega) h)
      have C2 := Lib.hid (fun w : World => rFilter_any w f (by omega))
      have C3 := Lib.hid (fun w : World => rName_any w n (by omega))
      cases hF : tFilter f with
      | false =>
        rw [hF] at C2
        rw [show mtB f n = false by unfold mtB; rw [hF]; rfl, show mtC f n = 230 by unfold mtC; rw [hF]; rfl] at C1
        clear hF
        go_enter Tryd.func3, Tryd.ntmps3
        go_wp2_with fail
        refine (C1.out _ (HM.out.keeps HK.out)).mono ?_
        rintro e w9 ⟨rfl, hk⟩
        replace HK := Lib.hid (HK.out.then_ hk)
        clear hk
        go_wp2_with fail
        refine (C2.out _).mono ?_
        rintro e w9 ⟨rfl, hk⟩
        replace HK := Lib.hid (HK.out.then_ hk)
        clear hk
        go_wp2_with fail
        refine (known13_any _ (HM.out.keeps HK.out)).mono ?_
        rintro e w9 ⟨rfl, hk⟩
        replace HK := Lib.hid (HK.out.then_ hk)
        clear hk
        go_wp2_with fail
        go_ret
        exact ⟨rfl, HK.out⟩
      | true =>
        cases hN : tName n with
        | false =>
          rw [hF] at C2
          rw [hN] at C3
          rw [show mtB f n = false by unfold mtB; rw [hF, hN]; rfl, show mtC f n = 230 by unfold mtC; rw [hF, hN]; rfl] at C1
          clear hF hN
          go_enter Tryd.func3, Tryd.ntmps3
          go_wp2_with fail
          refine (C1.out _ (HM.out.keeps HK.out)).mono ?_
          rintro e w9 ⟨rfl, hk⟩
          replace HK := Lib.hid (HK.out.then_ hk)
          clear hk
          go_wp2_with fail
          refine (C2.out _).mono ?_
          rintro e w9 ⟨rfl, hk⟩
          replace HK := Lib.hid (HK.out.then_ hk)
          clear hk
          go_wp2_with fail
          refine (C3.out _).mono ?_
          rintro e w9 ⟨rfl, hk⟩
          replace HK := Lib.hid (HK.out.then_ hk)
          clear hk
          go_wp2_with fail
          refine (known13_any _ (HM.out.keeps HK.out)).mono ?_
          rintro e w9 ⟨rfl, hk⟩
          replace HK := Lib.hid (HK.out.then_ hk)
          clear hk
          go_wp2_with fail
          go_ret
          exact ⟨rfl, HK.out⟩
        | true =>
          obtain ⟨q, hq⟩ : ∃ q, tMeets f n = q := ⟨_, rfl⟩
          have C4 := Lib.hid (fun w : World => rMeets_any w f n (by omega) (by omega) (tFilter_levels hF).1 (tName_levels hN).1)
          have e1 := mt_of hF hN hq
          have e2 := mt_of (name_filter hN) hN (name_self hN)
          have C5 := Lib.hid (fun (w : World) h => tMeets_any w n n (by omega) (by omega) h)
          have e3 : mtB n (n ++ [120]) = false := by
            unfold mtB
            rw [name_other hN (fun e => by have := congrArg List.length e; simp at this), Bool.and_false]
          obtain ⟨g, hg⟩ : ∃ g, mtC n (n ++ [120]) = g := ⟨_, rfl⟩
          have hgg : g = 0 ∨ g = 230 := by
            rw [← hg]
            unfold mtC
            split
            · exact .inl rfl
            · exact .inr rfl
          have C6 := Lib.hid (show ∀ (w : World), MaxL w → Calls Tryd.prog 9 #[.string ⟨n.toArray⟩, .string (⟨n.toArray⟩ ++ ⟨#[120]⟩)] w (PairPost w false g) from fun w h => by
            have := tMeets_any w n (n ++ [120]) (by omega) (by simp; omega) h
            rw [e3, hg, ← txt_app n [120]] at this
            exact this)
          have hsz : ¬ 9223372036854775807 < n.length + 1 := by omega
          rw [e1.1, e1.2] at C1
          rw [e2.1, e2.2] at C5
          rw [hq] at C4
          rw [hF] at C2
          rw [hN] at C3
          clear hF hN hq e1 e2 e3 hg
          go_enter Tryd.func3, Tryd.ntmps3
          go_wp2_with fail
          refine (C1.out _ (HM.out.keeps HK.out)).mono ?_
          rintro e w9 ⟨rfl, hk⟩
          replace HK := Lib.hid (HK.out.then_ hk)
          clear hk
          go_wp2_with fail
          refine (C2.out _).mono ?_
          rintro e w9 ⟨rfl, hk⟩
          replace HK := Lib.hid (HK.out.then_ hk)
          clear hk
          go_wp2_with fail
          refine (C3.out _).mono ?_
          rintro e w9 ⟨rfl, hk⟩
          replace HK := Lib.hid (HK.out.then_ hk)
          clear hk
          go_wp2_with fail
          refine (C4.out _).mono ?_
          rintro e w9 ⟨rfl, hk⟩
          replace HK := Lib.hid (HK.out.then_ hk)
          clear hk
          go_wp2_with fail
          refine (C5.out _ (HM.out.keeps HK.out)).mono ?_
          rintro e w9 ⟨rfl, hk⟩
          replace HK := Lib.hid (HK.out.then_ hk)
          clear hk
          go_wp2_with fail
          refine (C6.out _ (HM.out.keeps HK.out)).mono ?_
          rintro e w9 ⟨rfl, hk⟩
          replace HK := Lib.hid (HK.out.then_ hk)
          clear hk
          rcases hgg with rfl | rfl
          · go_wp2_with fail
            refine (known13_any _ (HM.out.keeps HK.out)).mono ?_
            rintro e w9 ⟨rfl, hk⟩
            replace HK := Lib.hid (HK.out.then_ hk)
            clear hk
            go_wp2_with fail
            go_ret
            exact ⟨rfl, HK.out⟩
          · go_wp2_with fail
            refine (known13_any _ (HM.out.keeps HK.out)).mono ?_
            rintro e w9 ⟨rfl, hk⟩
            replace HK := Lib.hid (HK.out.then_ hk)
            clear hk
            go_wp2_with fail
            go_ret
            exact ⟨rfl, HK.out⟩
end Go.Proofs.YtbjoobanbejgbaaDoor
