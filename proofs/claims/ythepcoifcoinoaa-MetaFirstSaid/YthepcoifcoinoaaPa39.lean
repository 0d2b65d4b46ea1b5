/- The statement MetaFirst (layer 6): its walks. -/
import Derived.Test.YthepcoifcoinoaaPa35
import Derived.Test.YthepcoifcoinoaaPa37
import Derived.Test.YthepcoifcoinoaaPa38

namespace Go.Proofs.Ythepcoifcoinoaa
open Go.RowKit

/-- A meta's page's bytes, one of which is made another one, are none's. -/
theorem mpErr_set {t r f h : Int} (hok : metaOk t r f h = true) (n : Int) (hn : withinB n 0 1 = true) (p : Nat) (hp : p < 256) (x : UInt8) (hx : x ≠ 0) :
    mpErr n ((metaRaw t r f h).set p ((metaRaw t r f h).getD p 0 ^^^ x)) = 160 := by
  obtain ⟨h1, h2, _⟩ := metaRaw_parts hok
  obtain ⟨hs, _⟩ := lookOk_parts h1 h2
  have hl : ((metaRaw t r f h).set p ((metaRaw t r f h).getD p 0 ^^^ x)).length = 256 := by rw [List.length_set]; exact h1
  have hne : ¬ beN (((metaRaw t r f h).set p ((metaRaw t r f h).getD p 0 ^^^ x)).take 4) = crcSum (((metaRaw t r f h).set p ((metaRaw t r f h).getD p 0 ^^^ x)).drop 4) := fun he =>
    hx (synd_byte _ h1 p hp x (((synd_right _).1 he).trans ((synd_right _).1 hs).symm))
  generalize (metaRaw t r f h).set p ((metaRaw t r f h).getD p 0 ^^^ x) = L at *
  have hle : lookErr L = 140 := by unfold lookErr; rw [if_neg (by omega), if_pos hne]
  have hpe : parseErr n L = 140 := by
    unfold parseErr
    rw [if_neg (by simp [withinB] at hn ⊢; omega), if_pos (by omega), hle]
  have hpp : mpPage n L = false := by simp [mpPage, hpe]
  rw [mpErr_in hn hl, hpp]; rfl
theorem xor_byte (v : UInt8) (x : Nat) (h : x < 256) : bits BinOp.xor IntKind.u8 ((v.toNat : Nat) : Int) (x : Int) = (((v ^^^ UInt8.ofNat x).toNat : Nat) : Int) := by
  rw [u8_xor_nat _ _ v.toNat_lt h, UInt8.toNat_xor, UInt8.toNat_ofNat', Nat.mod_eq_of_lt h]

set_option maxRecDepth 100000 in
set_option maxHeartbeats 8000000 in
theorem metaFirst_any (w : World) (at_ : Int) (x : Nat) (hx : x < 256) :
    Calls Try.prog 12 #[.int .i64 at_, .int .u8 x] w fun e w' => e = .returned (.bool true) ∧ Keeps w w' [] := by
  have o0 : metaOk 0 0 0 2 = true := by decide
  have o1 : metaOk 1 0 0 2 = true := by decide
  have HO := Lib.hid (And.intro o0 o1)
  clear o0 o1
  go_enter Try.func12, Try.ntmps12
  go_wp2_with fail
  refine (mFirst_any w).mono ?_
  rintro e w1 ⟨b, o, c, b', o', c', rfl, hT, hk1⟩
  have H1 := Lib.hid (And.intro hT hk1)
  clear hT hk1
  go_wp2_with fail
  obtain ⟨W1, hW1⟩ : ∃ W', w1.alloc (.cells #[.slice (some ⟨b, o, none⟩) 256 c, .slice (some ⟨b', o', none⟩) 256 c'] 65) = W' := ⟨_, rfl⟩
  have k1 : Keeps w1 W1 [] := by rw [← hW1]; exact Keeps.alloc _ _
  have rF : Row W1 w1.heap.size 65 #[.slice (some ⟨b, o, none⟩) 256 c, .slice (some ⟨b', o', none⟩) 256 c'] := by rw [← hW1]; exact Row.new _ _ _
  rw [hW1]
  clear hW1
  refine (mParse_raw W1 _ b o c 0 0 0 0 2 HO.out.1 (by decide) (H1.out.1.one.keeps k1)).mono ?_
  rintro e w2 ⟨rfl, hk2⟩
  have H2 := Lib.hid (And.intro (H1.out.2.then_ (k1.then_ hk2)) (And.intro (H1.out.1.keep (k1.then_ hk2) (by simp) (by simp)) (rF.keeps hk2)))
  have rf := rF.keeps hk2
  have f0 := rf.cell 0
  have f1 := rf.cell 1
  have hlf := rf.lt
  clear hk2 k1 rF rf
  go_wp2_with fail
  have k3 := Keeps.alloc w2 (.cells #[.int .i64 0, .int .i64 0, .int .i64 0, .int .i64 2] 49)
  have r3 := Row.new w2 49 #[.int .i64 0, .int .i64 0, .int .i64 0, .int .i64 2]
  refine (mParse_raw _ _ b' o' c' 1 1 0 0 2 HO.out.2 (by decide) (H2.out.2.1.two.keeps k3)).mono ?_
  rintro e w4 ⟨rfl, hk4⟩
  have k34 := k3.then_ hk4
  have r4 := r3.keeps hk4
  have rf := H2.out.2.2.keeps k34
  have H4 := Lib.hid (And.intro (H2.out.1.then_ k34) (And.intro (H2.out.2.1.keep k34 (by simp) (by simp)) (And.intro rf r4)))
  clear k3 r3 hk4 k34 f0 f1
  have f0 := rf.cell 0
  have f1 := rf.cell 1
  have hlf4 := rf.lt
  have hl4 := r4.lt
  have m0 := r4.cell 0
  have m1 := r4.cell 1
  have m2 := r4.cell 2
  have m3 := r4.cell 3
  simp only [List.getElem?_toArray, List.getElem?_cons_zero, List.getElem?_cons_succ] at m0 m1 m2 m3
  clear rf r4
  go_upto_region 6 with (fail)
  obtain ⟨W5, hW5⟩ : ∃ W', w4.alloc (.cells #[.int .i64 1, .int .i64 0, .int .i64 0, .int .i64 2] 49) = W' := ⟨_, rfl⟩
  have k5 : Keeps w4 W5 [] := by rw [← hW5]; exact Keeps.alloc _ _
  have r5 : Row W5 w4.heap.size 49 #[.int .i64 1, .int .i64 0, .int .i64 0, .int .i64 2] := by rw [← hW5]; exact Row.new _ _ _
  rw [hW5]
  clear hW5
  have rf := H4.out.2.2.1.keeps k5
  have H5 := Lib.hid (And.intro (H4.out.1.then_ k5) (And.intro (H4.out.2.1.keep k5 (by simp) (by simp)) (And.intro rf (And.intro (H4.out.2.2.2.keeps k5) r5))))
  clear f0 f1 m0 m1 m2 m3 hlf4 hl4 hlf
  have f0 := rf.cell 0
  have hlf := rf.lt
  have hl5 := r5.lt
  clear rf r5 k5
  have hcm := H5.out.2.1.one.max
  have hcc := H5.out.2.1.one.cap
  by_cases hlo : at_ < 0
  · have d1 : decide (0 ≤ at_) = false := by simp; omega
    clear hlo
    have H7 := Lib.hid (And.intro H5.out.1 H5.out.2.2.2.2)
    go_wp2_with fail
    refine (mFirst_any W5).mono ?_
    rintro e w8 ⟨b3, o3, c3, b4, o4, c4, rfl, hT3, hk8⟩
    have H8 := Lib.hid (And.intro (H7.out.1.then_ hk8) (And.intro hT3 (H7.out.2.keeps hk8)))
    clear hT3 hk8
    go_wp2_with fail
    have k9 := Keeps.alloc w8 (.cells #[.slice (some ⟨b3, o3, none⟩) 256 c3, .slice (some ⟨b4, o4, none⟩) 256 c4] 65)
    refine (mCounts_full _ _ _ _ _ _ _ _ _ _ _ (H8.out.2.1.one.keeps k9) (H8.out.2.1.two.keeps k9)).mono ?_
    rintro e w10 ⟨rfl, hk10⟩
    rw [mcV_first.1, mcV_first.2]
    have r10 := H8.out.2.2.keeps (k9.then_ hk10)
    have H10 := Lib.hid ((H8.out.1.then_ k9).then_ hk10)
    have n0 := r10.cell 0
    have n1 := r10.cell 1
    have n2 := r10.cell 2
    have n3 := r10.cell 3
    simp only [List.getElem?_toArray, List.getElem?_cons_zero, List.getElem?_cons_succ] at n0 n1 n2 n3
    have l10 := r10.lt
    clear hk10 k9 r10
    go_wp2_with fail
    refine (known6_any _).mono ?_
    rintro e w11 ⟨rfl, hk11⟩
    have H11 := Lib.hid ((H10.out.then_alloc _).then_ hk11)
    clear hk11
    go_wp2
    go_ret
    exact ⟨rfl, H11.out⟩
  · have d1 : decide (0 ≤ at_) = true := by simp; omega
    by_cases hhi : 256 ≤ at_
    · have d2 : decide (at_ < 256) = false := by simp; omega
      clear hlo hhi
      have H7 := Lib.hid (And.intro H5.out.1 H5.out.2.2.2.2)
      go_wp2_with fail
      refine (mFirst_any W5).mono ?_
      rintro e w8 ⟨b3, o3, c3, b4, o4, c4, rfl, hT3, hk8⟩
      have H8 := Lib.hid (And.intro (H7.out.1.then_ hk8) (And.intro hT3 (H7.out.2.keeps hk8)))
      clear hT3 hk8
      go_wp2_with fail
      have k9 := Keeps.alloc w8 (.cells #[.slice (some ⟨b3, o3, none⟩) 256 c3, .slice (some ⟨b4, o4, none⟩) 256 c4] 65)
      refine (mCounts_full _ _ _ _ _ _ _ _ _ _ _ (H8.out.2.1.one.keeps k9) (H8.out.2.1.two.keeps k9)).mono ?_
      rintro e w10 ⟨rfl, hk10⟩
      rw [mcV_first.1, mcV_first.2]
      have r10 := H8.out.2.2.keeps (k9.then_ hk10)
      have H10 := Lib.hid ((H8.out.1.then_ k9).then_ hk10)
      have n0 := r10.cell 0
      have n1 := r10.cell 1
      have n2 := r10.cell 2
      have n3 := r10.cell 3
      simp only [List.getElem?_toArray, List.getElem?_cons_zero, List.getElem?_cons_succ] at n0 n1 n2 n3
      have l10 := r10.lt
      clear hk10 k9 r10
      go_wp2_with fail
      refine (known6_any _).mono ?_
      rintro e w11 ⟨rfl, hk11⟩
      have H11 := Lib.hid ((H10.out.then_alloc _).then_ hk11)
      clear hk11
      go_wp2
      go_ret
      exact ⟨rfl, H11.out⟩
    · have d2 : decide (at_ < 256) = true := by simp; omega
      obtain ⟨p, rfl⟩ : ∃ p : Nat, at_ = p := Int.eq_ofNat_of_zero_le (by omega)
      have hp : p < 256 := by omega
      clear hlo hhi
      have HF := Lib.hid H5.out.2.1.one
      have hcx := HF.out.cell p hp
      have hfz := HF.out.frozen (o + p)
      have hxb := xor_byte ((metaRaw 0 0 0 2).getD p 0) x hx
      obtain ⟨v, hv⟩ : ∃ v, (metaRaw 0 0 0 2).getD p 0 = v := ⟨_, rfl⟩
      rw [hv] at hcx hxb
      obtain ⟨y, hy⟩ : ∃ y, v ^^^ UInt8.ofNat x = y := ⟨_, rfl⟩
      rw [hy] at hxb
      have HY := Lib.hid hy
      clear hy
      have HV := Lib.hid hv
      have hlb := H5.out.2.1.one.lt
      have hb1 : b < w1.heap.size := H1.out.1.one.lt
      have hbn : ¬ w1.heap.size = b := by omega
      have hbn' : ¬ b = w1.heap.size := by omega
      have hlw := H5.out.2.1.one.low
      clear hv
      go_wp2_with fail
      have kS := Keeps.setCell W5 ⟨b, o + p, none⟩ (.int .u8 (y.toNat : Nat))
      have hFS := HF.out.set hp y
      obtain ⟨W6, hW6⟩ : ∃ W6, W5.setCell ⟨b, o + p, none⟩ (.int .u8 (y.toNat : Nat)) = W6 := ⟨_, rfl⟩
      unfold byteV at hFS
      rw [hW6] at kS hFS ⊢
      clear hW6 hcx hfz hxb f0
      refine (mCounts_left W6 _ b o c _ hFS).mono ?_
      rintro e w7 ⟨rfl, hk7⟩
      have hbw : w.heap.size ≤ b := H1.out.1.one.low
      have hb6 : w2.heap.size ≠ b := fun h => by have := H2.out.2.1.one.lt; omega
      have hb8 : w4.heap.size ≠ b := fun h => by have := H4.out.2.1.one.lt; omega
      have K7 := (H5.out.1.trans kS (fun y hy hl => by simp at hy; omega)).then_ hk7
      have r6 := (H5.out.2.2.2.1.keep kS (by simpa using hb6)).keeps hk7
      have r8 := (H5.out.2.2.2.2.keep kS (by simpa using hb8)).keeps hk7
      by_cases hx0 : x = 0
      · subst hx0
        have hL : (metaRaw 0 0 0 2).set p y = metaRaw 0 0 0 2 := by
          rw [← HY.out, ← HV.out]
          have hl := HF.out.len
          apply List.ext_getElem
          · simp
          · intro j h1 h2
            rw [List.getElem_set]
            split
            · rename_i h3; subst h3; simp [List.getD, List.getElem?_eq_getElem h2]
            · rfl
        have hm := mc_left (a := metaRaw 0 0 0 2) (b := []) (by rw [mpErr_raw HO.out.1 0 (by decide)]; rfl) (by rw [mpErr_short 1 (by decide)]; decide)
        rw [mAgg_raw HO.out.1] at hm
        rw [hL, hm.1, hm.2]
        have m0 := r6.cell 0
        have m1 := r6.cell 1
        have m2 := r6.cell 2
        have m3 := r6.cell 3
        simp only [List.getElem?_toArray, List.getElem?_cons_zero, List.getElem?_cons_succ] at m0 m1 m2 m3
        have l6 := r6.lt
        have H6 := Lib.hid (And.intro K7 r8)
        clear hm hL K7 r6 r8 kS hFS hk7
        go_upto_region 11 with (fail)
        have H7 := Lib.hid (And.intro (H6.out.1.then_alloc (.cells #[.int .i64 0, .int .i64 0, .int .i64 0, .int .i64 2] 49)) (H6.out.2.alloc (.cells #[.int .i64 0, .int .i64 0, .int .i64 0, .int .i64 2] 49)))
        go_wp2_with fail
        refine (mFirst_any _).mono ?_
        rintro e w8 ⟨b3, o3, c3, b4, o4, c4, rfl, hT3, hk8⟩
        have H8 := Lib.hid (And.intro (H7.out.1.then_ hk8) (And.intro hT3 (H7.out.2.keeps hk8)))
        clear hT3 hk8
        go_wp2_with fail
        have k9 := Keeps.alloc w8 (.cells #[.slice (some ⟨b3, o3, none⟩) 256 c3, .slice (some ⟨b4, o4, none⟩) 256 c4] 65)
        refine (mCounts_full _ _ _ _ _ _ _ _ _ _ _ (H8.out.2.1.one.keeps k9) (H8.out.2.1.two.keeps k9)).mono ?_
        rintro e w10 ⟨rfl, hk10⟩
        rw [mcV_first.1, mcV_first.2]
        have r10 := H8.out.2.2.keeps (k9.then_ hk10)
        have H10 := Lib.hid ((H8.out.1.then_ k9).then_ hk10)
        have n0 := r10.cell 0
        have n1 := r10.cell 1
        have n2 := r10.cell 2
        have n3 := r10.cell 3
        simp only [List.getElem?_toArray, List.getElem?_cons_zero, List.getElem?_cons_succ] at n0 n1 n2 n3
        have l10 := r10.lt
        clear hk10 k9 r10
        go_wp2_with fail
        refine (known6_any _).mono ?_
        rintro e w11 ⟨rfl, hk11⟩
        have H11 := Lib.hid ((H10.out.then_alloc _).then_ hk11)
        clear hk11
        go_wp2
        go_ret
        exact ⟨rfl, H11.out⟩
      · have hxx : UInt8.ofNat x ≠ 0 := fun h => hx0 (by
          have := congrArg UInt8.toNat h
          rw [UInt8.toNat_ofNat', Nat.mod_eq_of_lt (by omega)] at this
          simpa using this)
        have hm := mc_none (a := (metaRaw 0 0 0 2).set p y) (b := []) (by rw [← HY.out, ← HV.out, mpErr_set HO.out.1 0 (by decide) p hp _ hxx]; decide) (by rw [mpErr_short 1 (by decide)]; decide)
        rw [hm.1, hm.2]
        unfold mZero
        have e0 : ((x : Int) == 0) = false := by simp; omega
        have H6 := Lib.hid (And.intro K7 r8)
        clear hm K7 r6 r8 kS hFS hk7 hxx hx0
        go_upto_region 11 with (fail)
        have H7 := Lib.hid (And.intro (H6.out.1.then_alloc (.cells #[.int .i64 0, .int .i64 0, .int .i64 0, .int .i64 0] 49)) (H6.out.2.alloc (.cells #[.int .i64 0, .int .i64 0, .int .i64 0, .int .i64 0] 49)))
        go_wp2_with fail
        refine (mFirst_any _).mono ?_
        rintro e w8 ⟨b3, o3, c3, b4, o4, c4, rfl, hT3, hk8⟩
        have H8 := Lib.hid (And.intro (H7.out.1.then_ hk8) (And.intro hT3 (H7.out.2.keeps hk8)))
        clear hT3 hk8
        go_wp2_with fail
        have k9 := Keeps.alloc w8 (.cells #[.slice (some ⟨b3, o3, none⟩) 256 c3, .slice (some ⟨b4, o4, none⟩) 256 c4] 65)
        refine (mCounts_full _ _ _ _ _ _ _ _ _ _ _ (H8.out.2.1.one.keeps k9) (H8.out.2.1.two.keeps k9)).mono ?_
        rintro e w10 ⟨rfl, hk10⟩
        rw [mcV_first.1, mcV_first.2]
        have r10 := H8.out.2.2.keeps (k9.then_ hk10)
        have H10 := Lib.hid ((H8.out.1.then_ k9).then_ hk10)
        have n0 := r10.cell 0
        have n1 := r10.cell 1
        have n2 := r10.cell 2
        have n3 := r10.cell 3
        simp only [List.getElem?_toArray, List.getElem?_cons_zero, List.getElem?_cons_succ] at n0 n1 n2 n3
        have l10 := r10.lt
        clear hk10 k9 r10
        go_wp2_with fail
        refine (known6_any _).mono ?_
        rintro e w11 ⟨rfl, hk11⟩
        have H11 := Lib.hid ((H10.out.then_alloc _).then_ hk11)
        clear hk11
        go_wp2
        go_ret
        exact ⟨rfl, H11.out⟩
end Go.Proofs.Ythepcoifcoinoaa
