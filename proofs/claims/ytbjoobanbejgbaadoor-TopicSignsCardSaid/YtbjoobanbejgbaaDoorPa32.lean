/- The law TopicThree. -/
import Derived.Test.YtbjoobanbejgbaaDoorPa31

namespace Go.Proofs.YtbjoobanbejgbaaDoor
open Go.RowKit Go.Shelf

def wiB (a b : List UInt8) : Bool := tFilter a && tFilter b && tWithin a b
def wiC (a b : List UInt8) : Int := if (tFilter a && tFilter b) = true then 0 else 230
theorem tWithin_any (w : World) (a b : List UInt8) (ha : a.length ≤ 50000) (hb : b.length ≤ 50000) (hm : MaxL w) : Calls Tryd.prog 13 #[.string ⟨a.toArray⟩, .string ⟨b.toArray⟩] w (WiPost w (wiB a b) (wiC a b)) := by
  have e : [a, b].all tFilter = (tFilter a && tFilter b) := by simp
  unfold wiB wiC
  cases h : (tFilter a && tFilter b) with
  | false =>
    rw [if_neg (by simp)]
    exact tWithin_bad w a b ha hb hm (by rw [e, h])
  | true =>
    rw [if_pos rfl, Bool.true_and]
    exact tWithin_good w a b ha hb hm (by rw [e, h])
set_option maxRecDepth 100000 in
set_option maxHeartbeats 2000000 in
theorem topicThree_any (w : World) (a b c : List UInt8) (hm : MaxL w) : Calls Tryd.prog 5 #[.string ⟨a.toArray⟩, .string ⟨b.toArray⟩, .string ⟨c.toArray⟩] w (TruePost w true) := by
  have HM := Lib.hid hm
  have HK := Lib.hid (Keeps.refl w [])
  clear hm
  by_cases hs : 300 < a.length
  · have hsb : decide ((a.length : Int) > 300) = true := decide_eq_true (by omega)
    go_enter Tryd.func5, Tryd.ntmps5
    go_wp2_with fail
    refine (known13_any _ (HM.out.keeps HK.out)).mono ?_
    rintro e w9 ⟨rfl, hk⟩
    replace HK := Lib.hid (HK.out.then_ hk)
    clear hk
    go_wp2_with fail
    go_ret
    exact ⟨rfl, HK.out⟩
  · have hsb : decide ((a.length : Int) > 300) = false := decide_eq_false (by omega)
    by_cases hs2 : 300 < b.length
    · have hsb2 : decide ((b.length : Int) > 300) = true := decide_eq_true (by omega)
      go_enter Tryd.func5, Tryd.ntmps5
      go_wp2_with fail
      refine (known13_any _ (HM.out.keeps HK.out)).mono ?_
      rintro e w9 ⟨rfl, hk⟩
      replace HK := Lib.hid (HK.out.then_ hk)
      clear hk
      go_wp2_with fail
      go_ret
      exact ⟨rfl, HK.out⟩
    · have hsb2 : decide ((b.length : Int) > 300) = false := decide_eq_false (by omega)
      by_cases hs3 : 300 < c.length
      · have hsb3 : decide ((c.length : Int) > 300) = true := decide_eq_true (by omega)
        go_enter Tryd.func5, Tryd.ntmps5
        go_wp2_with fail
        refine (known13_any _ (HM.out.keeps HK.out)).mono ?_
        rintro e w9 ⟨rfl, hk⟩
        replace HK := Lib.hid (HK.out.then_ hk)
        clear hk
        go_wp2_with fail
        go_ret
        exact ⟨rfl, HK.out⟩
      · have hsb3 : decide ((c.length : Int) > 300) = false := decide_eq_false (by omega)
        have C1 := Lib.hid (fun (w : World) h => tWithin_any w a b (by omega) (by omega) h)
        have C2 := Lib.hid (fun (w : World) h => tWithin_any w b c (by omega) (by omega) h)
        have C3 := Lib.hid (fun (w : World) h => tWithin_any w a c (by omega) (by omega) h)
        cases hA : (tFilter a && tFilter b) with
        | false =>
          rw [show wiB a b = false by unfold wiB; rw [hA]; rfl, show wiC a b = 230 by unfold wiC; rw [hA]; rfl] at C1
          generalize wiB b c = y at *
          generalize wiC b c = f at *
          generalize wiB a c = z at *
          generalize wiC a c = g at *
          clear hA
          go_enter Tryd.func5, Tryd.ntmps5
          go_wp2_with fail
          refine (C1.out _ (HM.out.keeps HK.out)).mono ?_
          rintro e w9 ⟨rfl, hk⟩
          replace HK := Lib.hid (HK.out.then_ hk)
          clear hk
          go_wp2_with fail
          refine (C2.out _ (HM.out.keeps HK.out)).mono ?_
          rintro e w9 ⟨rfl, hk⟩
          replace HK := Lib.hid (HK.out.then_ hk)
          clear hk
          go_wp2_with fail
          refine (C3.out _ (HM.out.keeps HK.out)).mono ?_
          rintro e w9 ⟨rfl, hk⟩
          replace HK := Lib.hid (HK.out.then_ hk)
          clear hk
          go_wp2_with fail
          refine (known13_any _ (HM.out.keeps HK.out)).mono ?_
          rintro e w9 ⟨rfl, hk⟩
          replace HK := Lib.hid (HK.out.then_ hk)
          clear hk
          go_wp2_with fail
          go_ret
          exact ⟨rfl, HK.out⟩
        | true =>
          have h1 : wiC a b = 0 := by unfold wiC; rw [hA]; rfl
          rw [h1] at C1
          rw [Bool.and_eq_true] at hA
          cases hC : tFilter c with
          | false =>
            rw [show wiB b c = false by unfold wiB; rw [hC]; simp, show wiC b c = 230 by unfold wiC; rw [hC]; simp] at C2
            rw [show wiB a c = false by unfold wiB; rw [hC]; simp, show wiC a c = 230 by unfold wiC; rw [hC]; simp] at C3
            generalize wiB a b = x at *
            clear hA hC h1
            cases x with
            | false =>
              go_enter Tryd.func5, Tryd.ntmps5
              go_wp2_with fail
              refine (C1.out _ (HM.out.keeps HK.out)).mono ?_
              rintro e w9 ⟨rfl, hk⟩
              replace HK := Lib.hid (HK.out.then_ hk)
              clear hk
              go_wp2_with fail
              refine (C2.out _ (HM.out.keeps HK.out)).mono ?_
              rintro e w9 ⟨rfl, hk⟩
              replace HK := Lib.hid (HK.out.then_ hk)
              clear hk
              go_wp2_with fail
              refine (C3.out _ (HM.out.keeps HK.out)).mono ?_
              rintro e w9 ⟨rfl, hk⟩
              replace HK := Lib.hid (HK.out.then_ hk)
              clear hk
              go_wp2_with fail
              refine (known13_any _ (HM.out.keeps HK.out)).mono ?_
              rintro e w9 ⟨rfl, hk⟩
              replace HK := Lib.hid (HK.out.then_ hk)
              clear hk
              go_wp2_with fail
              go_ret
              exact ⟨rfl, HK.out⟩
            | true =>
              go_enter Tryd.func5, Tryd.ntmps5
              go_wp2_with fail
              refine (C1.out _ (HM.out.keeps HK.out)).mono ?_
              rintro e w9 ⟨rfl, hk⟩
              replace HK := Lib.hid (HK.out.then_ hk)
              clear hk
              go_wp2_with fail
              refine (C2.out _ (HM.out.keeps HK.out)).mono ?_
              rintro e w9 ⟨rfl, hk⟩
              replace HK := Lib.hid (HK.out.then_ hk)
              clear hk
              go_wp2_with fail
              refine (C3.out _ (HM.out.keeps HK.out)).mono ?_
              rintro e w9 ⟨rfl, hk⟩
              replace HK := Lib.hid (HK.out.then_ hk)
              clear hk
              go_wp2_with fail
              refine (known13_any _ (HM.out.keeps HK.out)).mono ?_
              rintro e w9 ⟨rfl, hk⟩
              replace HK := Lib.hid (HK.out.then_ hk)
              clear hk
              go_wp2_with fail
              go_ret
              exact ⟨rfl, HK.out⟩
          | true =>
            have hbc : wiC b c = 0 ∧ wiC a c = 0 := by unfold wiC; rw [hA.1, hA.2, hC]; exact ⟨rfl, rfl⟩
            rw [hbc.1] at C2
            rw [hbc.2] at C3
            have ht : wiB a b = true → wiB b c = true → wiB a c = true := by
              unfold wiB
              rw [hA.1, hA.2, hC]
              simp only [Bool.true_and]
              exact within_trans hA.1 hA.2 hC
            generalize wiB a b = x at *
            generalize wiB b c = y at *
            generalize wiB a c = z at *
            clear hA hC h1 hbc
            cases x with
            | false =>
              clear ht
              go_enter Tryd.func5, Tryd.ntmps5
              go_wp2_with fail
              refine (C1.out _ (HM.out.keeps HK.out)).mono ?_
              rintro e w9 ⟨rfl, hk⟩
              replace HK := Lib.hid (HK.out.then_ hk)
              clear hk
              go_wp2_with fail
              refine (C2.out _ (HM.out.keeps HK.out)).mono ?_
              rintro e w9 ⟨rfl, hk⟩
              replace HK := Lib.hid (HK.out.then_ hk)
              clear hk
              go_wp2_with fail
              refine (C3.out _ (HM.out.keeps HK.out)).mono ?_
              rintro e w9 ⟨rfl, hk⟩
              replace HK := Lib.hid (HK.out.then_ hk)
              clear hk
              go_wp2_with fail
              refine (known13_any _ (HM.out.keeps HK.out)).mono ?_
              rintro e w9 ⟨rfl, hk⟩
              replace HK := Lib.hid (HK.out.then_ hk)
              clear hk
              go_wp2_with fail
              go_ret
              exact ⟨rfl, HK.out⟩
            | true =>
              cases y with
              | false =>
                clear ht
                go_enter Tryd.func5, Tryd.ntmps5
                go_wp2_with fail
                refine (C1.out _ (HM.out.keeps HK.out)).mono ?_
                rintro e w9 ⟨rfl, hk⟩
                replace HK := Lib.hid (HK.out.then_ hk)
                clear hk
                go_wp2_with fail
                refine (C2.out _ (HM.out.keeps HK.out)).mono ?_
                rintro e w9 ⟨rfl, hk⟩
                replace HK := Lib.hid (HK.out.then_ hk)
                clear hk
                go_wp2_with fail
                refine (C3.out _ (HM.out.keeps HK.out)).mono ?_
                rintro e w9 ⟨rfl, hk⟩
                replace HK := Lib.hid (HK.out.then_ hk)
                clear hk
                go_wp2_with fail
                refine (known13_any _ (HM.out.keeps HK.out)).mono ?_
                rintro e w9 ⟨rfl, hk⟩
                replace HK := Lib.hid (HK.out.then_ hk)
                clear hk
                go_wp2_with fail
                go_ret
                exact ⟨rfl, HK.out⟩
              | true =>
                obtain rfl := ht rfl rfl
                go_enter Tryd.func5, Tryd.ntmps5
                go_wp2_with fail
                refine (C1.out _ (HM.out.keeps HK.out)).mono ?_
                rintro e w9 ⟨rfl, hk⟩
                replace HK := Lib.hid (HK.out.then_ hk)
                clear hk
                go_wp2_with fail
                refine (C2.out _ (HM.out.keeps HK.out)).mono ?_
                rintro e w9 ⟨rfl, hk⟩
                replace HK := Lib.hid (HK.out.then_ hk)
                clear hk
                go_wp2_with fail
                refine (C3.out _ (HM.out.keeps HK.out)).mono ?_
                rintro e w9 ⟨rfl, hk⟩
                replace HK := Lib.hid (HK.out.then_ hk)
                clear hk
                go_wp2_with fail
                refine (known13_any _ (HM.out.keeps HK.out)).mono ?_
                rintro e w9 ⟨rfl, hk⟩
                replace HK := Lib.hid (HK.out.then_ hk)
                clear hk
                go_wp2_with fail
                go_ret
                exact ⟨rfl, HK.out⟩
end Go.Proofs.YtbjoobanbejgbaaDoor
