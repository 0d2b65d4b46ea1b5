/- Layer 18: the parts of any bytes, or that they are none's: the law. -/
import Derived.Test.YtckmlmedhchpaaaDoorPa49
import Derived.Test.YtckmlmedhchpaaaDoorPa35

namespace Go.Proofs.YtckmlmedhchpaaaDoor
open Go.RowKit

theorem text_le : ∀ {l : List KP}, (∀ p ∈ l, kMay p = true) → ∀ p ∈ l, p.s.length ≤ (kRaw l).length
  | q :: l, h, p, hp => by
    have hl : (kRaw (q :: l)).length = 1 + (kTail q).length + (kRaw l).length := by
      show (UInt8.ofNat q.k.toNat :: (kTail q ++ kRaw l)).length = _
      simp; omega
    rcases List.mem_cons.1 hp with rfl | hp
    · rcases kMay_cases (h p (by simp)) with ⟨_, e, _⟩ | ⟨_, e, _⟩ | ⟨e, _, _⟩
      · rw [e]; simp
      · rw [e]; simp
      · have : kTail p = kEsc p.s ++ [0, 1] := by unfold kTail; rw [if_neg (by omega), if_neg (by omega)]
        have h2 := (kEsc_length p.s).2
        rw [this] at hl
        simp only [List.length_append] at hl
        omega
    · have := text_le (fun p hp => h p (by simp [hp])) p hp
      omega
set_option maxRecDepth 100000 in
set_option maxHeartbeats 4000000 in
theorem keysParse_any (w : World) (s : List UInt8) (hM : MaxL w) :
    Calls Tryd.prog 3 #[.string ⟨s.toArray⟩] w fun e w' => e = .returned (.bool true) ∧ Keeps w w' [] := by
  have HKN := Lib.hid (known_at hM)
  have hsl : (⟨s.toArray⟩ : ByteArray).size = s.length := by simp [ByteArray.size]
  by_cases h100 : (s.length : Int) > 100
  · clear hM
    have HM := Lib.hid (Keeps.refl w [])
    go_enter Tryd.func3, Tryd.ntmps3
    go_wp2_with fail
    refine (HKN.out _ HM.out).mono ?_
    rintro e w' ⟨rfl, hk⟩
    replace HM := Lib.hid (HM.out.trans hk (by simp))
    clear hk
    go_wp2_with fail
    go_ret
    exact ⟨rfl, HM.out⟩
  · have HX := Lib.hid hM
    have HP := Lib.hid (fun W (hk : Keeps w W []) => kParse_any W s (hM.keeps hk) (by omega))
    have HR := Lib.hid (fun W => refParse_any W s (by omega))
    clear hM
    simp only [strV] at HP HR
    have HM := Lib.hid (Keeps.refl w [])
    go_enter Tryd.func3, Tryd.ntmps3
    go_wp2_with fail
    refine (HP.out _ HM.out).mono ?_
    rintro e w1 ⟨hk1, h⟩
    replace HM := Lib.hid (HM.out.trans hk1 (by simp))
    clear hk1
    rcases h with ⟨l, v, h48, hp, he, rfl, ho⟩ | ⟨hno, rfl⟩
    · have hsd := ps_sound _ _ _ hp
      obtain ⟨A, c, rfl, hL⟩ := ownP_slice ho
      go_wp2_with fail
      refine (HR.out _).mono ?_
      rintro e w2 ⟨hk2, h⟩
      rcases h with ⟨l2, v2, rfl, ho2, hok2, he2, hr2⟩ | ⟨hno, rfl⟩
      · have hm2 : ∀ p ∈ l2, p.Ok ∧ kMay p = true := fun p hp => ⟨(hok2 p hp).1, List.all_eq_true.1 (kErr_may (.inl he2)) p hp⟩
        obtain ⟨hlen, hcmp⟩ := raw_inj l l2 hsd.2 hm2 (by rw [hsd.1, hr2])
        have hl48 : l.length ≤ 48 := by have := raw_count l; rw [hsd.1] at this; omega
        obtain ⟨A2, c2, rfl, hL2⟩ := ownP_slice ho2
        replace hL := hL.keeps hk2
        have HC := Lib.hid (fun W (hk : Keeps w2 W []) => refCompare_any W A A2 c c2 l l2 (fun p hp => (hsd.2 p hp).1) (fun p hp => (hm2 p hp).1) (hL.keeps hk) (hL2.keeps hk) (by omega) (by omega))
        rw [hcmp, ← hlen] at HC
        have ha : KArg w2 A l := ⟨fun p hp => (hsd.2 p hp).1, hL, HX.out.keeps (HM.out.trans hk2 (by simp)), by omega, fun p hp => by have := text_le (fun p hp => (hsd.2 p hp).2) p hp; rw [hsd.1] at this; omega⟩
        have HRW := Lib.hid (fun W (hk : Keeps w2 W []) => (ha.keep hk).raw c)
        have hkey : kKey l = s := by unfold kKey; rw [if_pos he]; exact hsd.1
        rw [hkey, he] at HRW
        simp only [strV] at HRW
        have HMay := Lib.hid (fun p (hp : p ∈ l) => (hsd.2 p hp).2)
        have HN := Lib.hid (Keeps.refl w2 [])
        have HLL := Lib.hid hL
        replace HM := Lib.hid (HM.out.trans hk2 (by simp))
        rw [← hlen]
        clear hk2 hsd hm2 hlen hcmp ho ho2 hok2 he2 hr2 hL hL2 ha hp he hkey HP HR
        go_wp2_with fail
        refine (HC.out _ HN.out).mono ?_
        rintro e w3 ⟨rfl, hk⟩
        replace HM := Lib.hid (HM.out.trans hk (by simp))
        replace HN := Lib.hid (HN.out.trans hk (by simp))
        clear hk
        go_wp2_with fail
        go_loopw [7] (fun i wr => ∃ j : Nat, j ≤ l.length ∧ i = .int .i64 j ∧ Hid (Keeps w2 wr []) ∧ Hid (Keeps w wr [])) (fun i _ => l.length - (intOf i).toNat)
        case atStart => exact ⟨0, by omega, rfl, HN, HM⟩
        case round =>
          clear HN HM
          obtain ⟨j, hj, rfl, HN, HM⟩ := hrel
          by_cases hjl : j < l.length
          · obtain ⟨b, o, rfl, hb, hc⟩ := kpAt HLL.out (Nat.le_refl _) hjl
            obtain ⟨c0, c1, c2, c3⟩ := hc wr HN.out
            have hmj := HMay.out l[j] (List.getElem_mem _)
            obtain ⟨p, hpd⟩ : ∃ p, l[j] = p := ⟨_, rfl⟩
            rw [hpd] at c0 c1 c2 c3 hmj
            have HY := Lib.hid (fun W => refMay_any p W)
            rw [hmj] at HY
            clear hc hpd hb hmj
            obtain ⟨k, n, f, s⟩ := p
            simp only [strV] at c3
            simp only [kpV, strV] at HY
            go_wp2_with fail
            refine (HY.out _).mono ?_
            rintro e w4 ⟨rfl, hk⟩
            have HM1 := Lib.hid (HM.out.trans hk (by simp))
            have HN1 := Lib.hid (HN.out.trans hk (by simp))
            clear hk c0 c1 c2 c3
            go_wp2_with fail
            exact ⟨⟨j + 1, by omega, by go_num, HN1, HM1⟩, by simp [intOf]; omega⟩
          · obtain rfl : j = l.length := by omega
            go_wp2_with fail
            refine (HRW.out _ HN.out).mono ?_
            rintro e w4 ⟨rfl, hk⟩
            replace HM := Lib.hid (HM.out.trans hk (by simp))
            clear hk
            have tX := strV_toList s
            go_wp2_with fail
            refine (HKN.out _ HM.out).mono ?_
            rintro e w' ⟨rfl, hk⟩
            replace HM := Lib.hid (HM.out.trans hk (by simp))
            clear hk
            go_wp2_with fail
            go_ret
            exact ⟨rfl, HM.out⟩
      · exact absurd ⟨l, fun p hp => (hsd.2 p hp).1, he, hsd.1⟩ hno
    · go_wp2_with fail
      refine (HR.out _).mono ?_
      rintro e w2 ⟨hk2, h⟩
      rcases h with ⟨l2, v2, rfl, ho2, hok2, he2, hr2⟩ | ⟨hno2, rfl⟩
      · obtain ⟨g48, l', g1, g2, _⟩ := par_own l2 (fun p hp => (hok2 p hp).1) he2
        rw [hr2] at g48 g1
        exact absurd ⟨g48, l', g1, g2⟩ hno
      · have HC := Lib.hid (fun W => refCompare_any W none none 0 0 [] [] (fun _ h => nomatch h) (fun _ h => nomatch h) (fun h => absurd h (by simp [kFlat])) (fun h => absurd h (by simp [kFlat])) (by simp) (by simp))
        replace HM := Lib.hid (HM.out.trans hk2 (by simp))
        clear hk2
        go_wp2_with fail
        refine (HC.out _).mono ?_
        rintro e w3 ⟨rfl, hk3⟩
        replace HM := Lib.hid (HM.out.trans hk3 (by simp))
        clear hk3
        rw [show kCmp [] [] = 0 from rfl]
        go_wp2_with fail
        refine (HKN.out _ HM.out).mono ?_
        rintro e w' ⟨rfl, hk⟩
        replace HM := Lib.hid (HM.out.trans hk (by simp))
        clear hk
        go_wp2_with fail
        go_ret
        exact ⟨rfl, HM.out⟩
end Go.Proofs.YtckmlmedhchpaaaDoor
