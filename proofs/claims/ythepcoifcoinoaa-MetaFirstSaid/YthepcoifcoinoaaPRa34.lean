/- Plain law of a meta's page's bytes: what is read of them. Metas compared. Walk over the statements' own 'known' (layer 6). The statement MetaRaws (layer 6): its walks. The statement MetaRaws (layer 6): the walk where the meta may be. -/
import Derived.Test.YthepcoifcoinoaaPRa33
import Derived.Laws.StructEq

namespace Go.Proofs.Ythepcoifcoinoaa
open Go.RowKit

theorem mBody_nums (r f h : Nat) (hr : r < 4294967296) (hf : f < 4294967296) (hh : h < 4294967296) :
    beN (((mParts r f h 3).drop 0).take 4) = r ∧ beN (((mParts r f h 3).drop 4).take 4) = f ∧ beN (((mParts r f h 3).drop 8).take 4) = h := by
  have e : mParts r f h 3 = toBE 4 r ++ (toBE 4 f ++ toBE 4 h) := by
    show [] ++ toBE 4 r ++ toBE 4 f ++ toBE 4 h = _
    simp
  have p : (256 : Nat) ^ 4 = 4294967296 := by decide
  rw [e]
  refine ⟨?_, ?_, ?_⟩
  · rw [List.drop_zero, take_here (toBE_length 4 r)]; exact beN_toBE 4 r (by omega)
  · rw [drop_past (toBE_length 4 r) (by omega), Nat.sub_self, List.drop_zero, take_here (toBE_length 4 f)]; exact beN_toBE 4 f (by omega)
  · rw [drop_past (toBE_length 4 r) (by omega), drop_past (toBE_length 4 f) (by omega), List.drop_zero, List.take_of_length_le (by rw [toBE_length]; omega)]; exact beN_toBE 4 h (by omega)

/-- What is read of a meta's page's bytes. -/
theorem metaRaw_parts {t r f h : Int} (hok : metaOk t r f h = true) :
    (metaRaw t r f h).length = 256 ∧ lookErr (metaRaw t r f h) = 0 ∧ ((pgNum (metaRaw t r f h) : Nat) : Int) = whereOf t ∧ pgKind (metaRaw t r f h) = 1 ∧ pgTxid (metaRaw t r f h) = t ∧ pgNext (metaRaw t r f h) = 0 ∧
    (pgBody (metaRaw t r f h)).length = 12 ∧ ((mbNum (metaRaw t r f h) 0 : Nat) : Int) = r ∧ ((mbNum (metaRaw t r f h) 1 : Nat) : Int) = f ∧ ((mbNum (metaRaw t r f h) 2 : Nat) : Int) = h := by
  obtain ⟨h1, h2, h3, h4, h5, h6, h7, h8, h9⟩ := rawI_look (whereOf t) 1 t 0 (metaBody r f h) (metaPage_ok hok) (whereOf_ok t)
  obtain ⟨_, hh, hr, hf⟩ := metaOk_true hok
  obtain ⟨b1, b2, b3⟩ := mBody_nums r.toNat f.toNat h.toNat (by omega) (by omega) (by omega)
  change (rawI (whereOf t) 1 t 0 (metaBody r f h)).length = 256 ∧ _
  refine ⟨h1, h3, h5, by show pgKind (rawI (whereOf t) 1 t 0 (metaBody r f h)) = 1; omega, h7, by show pgNext (rawI (whereOf t) 1 t 0 (metaBody r f h)) = 0; omega, ?_, ?_, ?_, ?_⟩
  · show (pgBody (rawI (whereOf t) 1 t 0 (metaBody r f h))).length = 12
    rw [h9]; exact metaBody_length r f h
  · show ((beN (((pgBody (rawI (whereOf t) 1 t 0 (metaBody r f h))).drop (4 * 0)).take 4) : Nat) : Int) = r
    rw [h9]; show ((beN (((mParts r.toNat f.toNat h.toNat 3).drop 0).take 4) : Nat) : Int) = r; rw [b1]; omega
  · show ((beN (((pgBody (rawI (whereOf t) 1 t 0 (metaBody r f h))).drop (4 * 1)).take 4) : Nat) : Int) = f
    rw [h9]; show ((beN (((mParts r.toNat f.toNat h.toNat 3).drop 4).take 4) : Nat) : Int) = f; rw [b2]; omega
  · show ((beN (((pgBody (rawI (whereOf t) 1 t 0 (metaBody r f h))).drop (4 * 2)).take 4) : Nat) : Int) = h
    rw [h9]; show ((beN (((mParts r.toNat f.toNat h.toNat 3).drop 8).take 4) : Nat) : Int) = h; rw [b3]; omega
theorem mAgg_raw {t r f h : Int} (hok : metaOk t r f h = true) : mAgg (metaRaw t r f h) = .agg #[.int .i64 t, .int .i64 r, .int .i64 f, .int .i64 h] := by
  obtain ⟨_, _, _, _, h5, _, _, h8, h9, h10⟩ := metaRaw_parts hok
  unfold mAgg
  rw [h5, h8, h9, h10]
theorem mpErr_raw {t r f h : Int} (hok : metaOk t r f h = true) (n : Int) (hn : withinB n 0 1 = true) : mpErr n (metaRaw t r f h) = if whereOf t = n then 0 else 160 := by
  obtain ⟨h1, h2, h3, h4, h5, h6, h7, h8, h9, h10⟩ := metaRaw_parts hok
  rw [mpErr_in hn h1]
  have hg : mpGood (metaRaw t r f h) = true := by unfold mpGood; rw [h5, h8, h9, h10]; exact hok
  have hn4 : withinB n 0 4095 = true := by simp [withinB] at hn ⊢; omega
  have hpe : parseErr n (metaRaw t r f h) = if whereOf t = n then 0 else 141 := by
    unfold parseErr
    rw [if_neg (by simp [hn4]), if_neg (by simp [h2]), h3]
  by_cases hw : whereOf t = n
  · rw [if_pos hw]
    have : mpPage n (metaRaw t r f h) = true := by simp [mpPage, hpe, h4, h5, h6, h7, hw]
    rw [this, hg]; rfl
  · rw [if_neg hw]
    have : mpPage n (metaRaw t r f h) = false := by simp [mpPage, hpe, hw]
    rw [this]; rfl

end Go.Proofs.Ythepcoifcoinoaa

namespace Go.Proofs.Ythepcoifcoinoaa
open Go.RowKit

theorem mcV_first : mcV (metaRaw 0 0 0 2) (metaRaw 1 0 0 2) = .agg #[.int .i64 1, .int .i64 0, .int .i64 0, .int .i64 2] ∧ mcErr (metaRaw 0 0 0 2) (metaRaw 1 0 0 2) = 0 := by
  have o0 : metaOk 0 0 0 2 = true := by decide
  have o1 : metaOk 1 0 0 2 = true := by decide
  have e0 : mpErr 0 (metaRaw 0 0 0 2) = 0 := by rw [mpErr_raw o0 0 (by decide)]; rfl
  have e1 : mpErr 1 (metaRaw 1 0 0 2) = 0 := by rw [mpErr_raw o1 1 (by decide)]; rfl
  have t0 := (metaRaw_parts o0).2.2.2.2.1
  have t1 := (metaRaw_parts o1).2.2.2.2.1
  have hb : mcB (metaRaw 0 0 0 2) (metaRaw 1 0 0 2) = true := by simp [mcB, e0, e1, t0, t1]
  exact ⟨by rw [mcV, hb, if_pos rfl]; exact mAgg_raw o1, by simp [mcErr, mcIs, hb]⟩

/-- Of a meta's page's bytes: what Parse answers at its number and at the other one. -/
theorem mParse_raw (W : World) (base b o c : Nat) (n t r f h : Int) (hok : metaOk t r f h = true) (hn : n = whereOf t) (hF : Full W base b o c (metaRaw t r f h)) :
    Calls Try.prog 27 #[.int .i64 n, .slice (some ⟨b, o, none⟩) 256 c] W fun e w' => e = .returned (.tuple #[.agg #[.int .i64 t, .int .i64 r, .int .i64 f, .int .i64 h], .int .i64 0]) ∧ Keeps W w' [] := by
  have hp := mParse_any W n (some ⟨b, o, none⟩) c _ hF.bytes
  rw [hF.len] at hp
  refine hp.mono ?_
  have hw : withinB n 0 1 = true := by subst hn; unfold whereOf withinB; split <;> simp <;> omega
  have he : mpErr n (metaRaw t r f h) = 0 := by rw [mpErr_raw hok n hw, if_pos hn.symm]
  rintro e w' ⟨hk, ⟨_, rfl⟩ | ⟨h0, _⟩⟩
  · have := mAgg_raw hok
    unfold mAgg at this
    exact ⟨by rw [metaV, this], hk⟩
  · exact absurd he h0
theorem mParse_rawNo (W : World) (base b o c : Nat) (n t r f h : Int) (hok : metaOk t r f h = true) (hn : withinB n 0 1 = true) (hne : whereOf t ≠ n) (hF : Full W base b o c (metaRaw t r f h)) :
    Calls Try.prog 27 #[.int .i64 n, .slice (some ⟨b, o, none⟩) 256 c] W fun e w' => e = .returned (.tuple #[.agg #[.int .i64 0, .int .i64 0, .int .i64 0, .int .i64 0], .int .i64 160]) ∧ Keeps W w' [] := by
  have hp := mParse_any W n (some ⟨b, o, none⟩) c _ hF.bytes
  rw [hF.len] at hp
  refine hp.mono ?_
  have he : mpErr n (metaRaw t r f h) = 160 := by rw [mpErr_raw hok n hn, if_neg hne]
  rintro e w' ⟨hk, ⟨h0, _⟩ | ⟨_, rfl⟩⟩
  · omega
  · exact ⟨by rw [metaV, he]; rfl, hk⟩
theorem mCounts_full (W : World) (base b o c base' b' o' c' : Nat) (l l' : List UInt8) (hF : Full W base b o c l) (hF' : Full W base' b' o' c' l') :
    Calls Try.prog 25 #[.slice (some ⟨b, o, none⟩) 256 c, .slice (some ⟨b', o', none⟩) 256 c'] W fun e w' => e = .returned (.tuple #[mcV l l', .int .i64 (mcErr l l')]) ∧ Keeps W w' [] := by
  have hp := mCounts_any W (some ⟨b, o, none⟩) (some ⟨b', o', none⟩) c c' l l' hF.bytes hF'.bytes
  rwa [hF.len, hF'.len] at hp

set_option maxRecDepth 100000 in
set_option maxHeartbeats 4000000 in
theorem known6_any (w : World) : Calls Try.prog 24 #[] w fun e w' => e = .returned (.bool true) ∧ Keeps w w' [] := by
  have HO := Lib.hid (show metaOk 3 5 0 9 = true by decide)
  go_enter Try.func24, Try.ntmps24
  go_wp2_with fail
  refine (mFirst_any w).mono ?_
  rintro e w1 ⟨b, o, c, b', o', c', rfl, hT, hk1⟩
  have H1 := Lib.hid (And.intro hT hk1)
  clear hT hk1
  go_wp2_with fail
  have k2 := Keeps.alloc w1 (.cells #[.slice (some ⟨b, o, none⟩) 256 c, .slice (some ⟨b', o', none⟩) 256 c'] 65)
  refine (mCounts_full _ _ _ _ _ _ _ _ _ _ _ (H1.out.1.one.keeps k2) (H1.out.1.two.keeps k2)).mono ?_
  rintro e w2 ⟨rfl, hk2⟩
  have H2 := Lib.hid ((H1.out.2.then_ k2).then_ hk2)
  clear hk2 k2
  rw [mcV_first.1, mcV_first.2]
  go_wp2_with fail
  have k3 := Keeps.alloc w2 (.cells #[.int .i64 1, .int .i64 0, .int .i64 0, .int .i64 2] 49)
  have r3 := Row.new w2 49 #[.int .i64 1, .int .i64 0, .int .i64 0, .int .i64 2]
  refine (mRaw_yes 3 5 0 9 _ HO.out).mono ?_
  rintro e w3 ⟨b3, o3, c3, rfl, hF, hk3⟩
  have H3 := Lib.hid (And.intro ((H2.out.then_ k3).then_ hk3) (And.intro (r3.keeps hk3) hF))
  clear k3 hk3 r3 hF
  go_wp2_with fail
  refine (mParse_rawNo w3 _ b3 o3 c3 0 3 5 0 9 HO.out (by decide) (by decide) H3.out.2.2).mono ?_
  rintro e w4 ⟨rfl, hk4⟩
  have H4 := Lib.hid (And.intro (H3.out.1.then_ hk4) (And.intro (H3.out.2.1.keeps hk4) (H3.out.2.2.keeps hk4)))
  clear hk4
  go_wp2_with fail
  have k5 := Keeps.alloc w4 (.cells #[.int .i64 0, .int .i64 0, .int .i64 0, .int .i64 0] 49)
  refine (mParse_raw _ _ b3 o3 c3 1 3 5 0 9 HO.out (by decide) (H4.out.2.2.keeps k5)).mono ?_
  rintro e w5 ⟨rfl, hk5⟩
  have r5 := H4.out.2.1.keeps (k5.then_ hk5)
  have H5 := Lib.hid ((H4.out.1.then_ k5).then_ hk5)
  have c0 := r5.cell 0
  have c1 := r5.cell 1
  have c2 := r5.cell 2
  have c3 := r5.cell 3
  simp only [List.getElem?_toArray, List.getElem?_cons_zero, List.getElem?_cons_succ] at c0 c1 c2 c3
  have hlt := r5.lt
  clear k5 hk5 r5
  go_wp2_with (go_at_call 32; refine (where_any _ _).mono ?_; rintro e w3 ⟨rfl, rfl⟩)
  go_ret
  exact ⟨rfl, H5.out.then_alloc _⟩
end Go.Proofs.Ythepcoifcoinoaa

namespace Go.Proofs.Ythepcoifcoinoaa
open Go.RowKit

theorem whereOf_max (t : Int) : whereOf t = (max t 0) % 2 := by
  unfold whereOf
  split
  · rw [Int.max_eq_right (by omega)]; rfl
  · rw [Int.max_eq_left (by omega)]

set_option maxRecDepth 100000 in
set_option maxHeartbeats 4000000 in
theorem metaRaws_no (w : World) (t r f h : Int) (hok : metaOk t r f h = false) :
    Calls Try.prog 9 #[.agg #[.int .i64 t, .int .i64 r, .int .i64 f, .int .i64 h]] w fun e w' => e = .returned (.bool true) ∧ Keeps w w' [] := by
  have HO := Lib.hid (And.intro hok (show metaErr t r f h = 2 by simp [metaErr, hok]))
  clear hok
  go_enter Try.func9, Try.ntmps9
  go_wp2_with fail
  refine (mRaw_no t r f h _ HO.out.1).mono ?_
  rintro e w1 ⟨rfl, hk1⟩
  have r1 := (Row.new w 49 #[.int .i64 t, .int .i64 r, .int .i64 f, .int .i64 h]).keeps hk1
  have H1 := Lib.hid ((Keeps.alloc _ _).then_ hk1)
  have M1 := fun (W : World) (hW : Keeps w1 W []) => (r1.keep hW (by simp)).cell 0
  have M2 := fun (W : World) (hW : Keeps w1 W []) => (r1.keep hW (by simp)).cell 1
  have M3 := fun (W : World) (hW : Keeps w1 W []) => (r1.keep hW (by simp)).cell 2
  have M4 := fun (W : World) (hW : Keeps w1 W []) => (r1.keep hW (by simp)).cell 3
  have HR := Lib.hid r1
  clear hk1 r1
  go_wp2_with fail
  refine wp_region_keeps _ (by kernel_rfl) rfl (by kernel_rfl) ?_
  apply loose_is
  · intro W vals hW hkn
    clear hkn
    refine ⟨?_⟩
    simp only [fill]
    go_simp
    first | exact ⟨Keeps.refl _ _, rfl⟩ | exact ⟨Keeps.alloc _ _, rfl⟩
  simp only [addEnt]
  apply loose_is
  · intro W vals hW hkn
    clear hkn
    refine ⟨?_⟩
    simp only [fill]
    go_simp
    refine looseUpon_calls ?_
    refine (mCheck_any _ _ _ _ _).mono ?_; rintro e w2 ⟨rfl, hk⟩; rw [HO.out.2]; exact ⟨_, rfl, hk, rfl⟩
  simp only [addEnt]
  apply loose_is
  · intro W vals hW hkn
    clear hkn
    refine ⟨?_⟩
    simp only [fill]
    go_simp
    first | exact ⟨Keeps.refl _ _, rfl⟩ | exact ⟨Keeps.alloc _ _, rfl⟩
  simp only [addEnt]
  apply loose_is
  · intro W vals hW hkn
    clear hkn
    refine ⟨?_⟩
    simp only [fill]
    go_simp
    first | exact ⟨Keeps.refl _ _, rfl⟩ | exact ⟨Keeps.alloc _ _, rfl⟩
  simp only [addEnt]
  apply loose_is
  · intro W vals hW hkn
    clear hkn
    refine ⟨?_⟩
    simp only [fill]
    go_simp
    refine looseUpon_calls ?_
    refine (mRight_any _ _ _ _ _).mono ?_; rintro e w2 ⟨rfl, hk⟩; rw [HO.out.1]; exact ⟨_, rfl, hk, rfl⟩
  simp only [addEnt]
  apply loose_is
  · intro W vals hW hkn
    clear hkn
    refine ⟨?_⟩
    simp only [fill]
    go_simp
    first | exact ⟨Keeps.refl _ _, rfl⟩ | exact ⟨Keeps.alloc _ _, rfl⟩
  simp only [addEnt]
  refine loose_nil (fun W vals hW hkn => ?_)
  simp only [knowsAll] at hkn
  try simp only [and_true] at hkn
  simp only [fill, Act.put, List.setIfInBounds_toArray, List.set_cons_succ, List.set_cons_zero]
  have r2 := HR.out.keeps hW
  have H2 := Lib.hid (And.intro (H1.out.then_ hW) r2)
  have c0 := r2.cell 0
  have c1 := r2.cell 1
  have c2 := r2.cell 2
  have c3 := r2.cell 3
  simp only [List.getElem?_toArray, List.getElem?_cons_zero, List.getElem?_cons_succ] at c0 c1 c2 c3
  clear hW r2 M1 M2 M3 M4
  go_wp2_with fail
  refine (mRight_any _ _ _ _ _).mono ?_
  rintro e w2 ⟨rfl, hk2⟩
  rw [HO.out.1]
  have r3 := H2.out.2.keeps hk2
  have H3 := Lib.hid (H2.out.1.then_ hk2)
  have M1 := fun (W : World) (hW : Keeps w2 W []) => (r3.keep hW (by simp)).cell 0
  have M2 := fun (W : World) (hW : Keeps w2 W []) => (r3.keep hW (by simp)).cell 1
  have M3 := fun (W : World) (hW : Keeps w2 W []) => (r3.keep hW (by simp)).cell 2
  have M4 := fun (W : World) (hW : Keeps w2 W []) => (r3.keep hW (by simp)).cell 3
  clear c0 c1 c2 c3 hk2 r3 hkn
  go_wp2_with fail
  by_cases ht : t < 0
  · have HT := Lib.hid (show whereOf t = 0 by simp [whereOf, ht])
    have hm : max t 0 = 0 := by omega
    refine wp_region_keeps _ (by kernel_rfl) rfl (by kernel_rfl) ?_
    apply loose_is
    · intro W vals hW hkn
      clear hkn
      refine ⟨?_⟩
      simp only [fill]
      go_simp
      first | exact ⟨Keeps.refl _ _, rfl⟩ | exact ⟨Keeps.alloc _ _, rfl⟩
    simp only [addEnt]
    apply loose_is
    · intro W vals hW hkn
      clear hkn
      refine ⟨?_⟩
      simp only [fill]
      go_simp
      first | exact ⟨Keeps.refl _ _, rfl⟩ | exact ⟨Keeps.alloc _ _, rfl⟩
    simp only [addEnt]
    apply loose_is
    · intro W vals hW hkn
      clear hkn
      refine ⟨?_⟩
      simp only [fill]
      go_simp
      first | exact ⟨Keeps.refl _ _, rfl⟩ | exact ⟨Keeps.alloc _ _, rfl⟩
    simp only [addEnt]
    apply loose_is
    · intro W vals hW hkn
      clear hkn
      refine ⟨?_⟩
      simp only [fill]
      go_simp
      first | exact ⟨Keeps.refl _ _, rfl⟩ | exact ⟨Keeps.alloc _ _, rfl⟩
    simp only [addEnt]
    apply loose_is
    · intro W vals hW hkn
      clear hkn
      refine ⟨?_⟩
      simp only [fill]
      go_simp
      first | exact ⟨Keeps.refl _ _, rfl⟩ | exact ⟨Keeps.alloc _ _, rfl⟩
    simp only [addEnt]
    apply loose_is
    · intro W vals hW hkn
      clear hkn
      refine ⟨?_⟩
      simp only [fill]
      go_simp
      first | exact ⟨Keeps.refl _ _, rfl⟩ | exact ⟨Keeps.alloc _ _, rfl⟩
    simp only [addEnt]
    apply loose_is
    · intro W vals hW hkn
      clear hkn
      refine ⟨?_⟩
      simp only [fill]
      go_simp
      first | exact ⟨Keeps.refl _ _, rfl⟩ | exact ⟨Keeps.alloc _ _, rfl⟩
    simp only [addEnt]
    apply loose_is
    · intro W vals hW hkn
      clear hkn
      refine ⟨?_⟩
      simp only [fill]
      go_simp
      first | exact ⟨Keeps.refl _ _, rfl⟩ | exact ⟨Keeps.alloc _ _, rfl⟩
    simp only [addEnt]
    apply loose_is
    · intro W vals hW hkn
      clear hkn
      refine ⟨?_⟩
      simp only [fill]
      go_simp
      first | exact ⟨Keeps.refl _ _, rfl⟩ | exact ⟨Keeps.alloc _ _, rfl⟩
    simp only [addEnt]
    apply loose_is
    · intro W vals hW hkn
      clear hkn
      refine ⟨?_⟩
      simp only [fill]
      go_simp
      first | exact ⟨Keeps.refl _ _, rfl⟩ | exact ⟨Keeps.alloc _ _, rfl⟩
    simp only [addEnt]
    apply loose_is
    · intro W vals hW hkn
      clear hkn
      refine ⟨?_⟩
      simp only [fill]
      go_simp
      refine looseUpon_calls ?_
      refine (where_any _ _).mono ?_; rintro e w3 ⟨rfl, rfl⟩; rw [HT.out]; exact ⟨_, rfl, Keeps.refl _ _, rfl⟩
    simp only [addEnt]
    apply loose_is
    · intro W vals hW hkn
      clear hkn
      refine ⟨?_⟩
      simp only [fill]
      go_simp
      first | exact ⟨Keeps.refl _ _, rfl⟩ | exact ⟨Keeps.alloc _ _, rfl⟩
    simp only [addEnt]
    apply loose_is
    · intro W vals hW hkn
      clear hkn
      refine ⟨?_⟩
      simp only [fill]
      go_simp
      first | exact ⟨Keeps.refl _ _, rfl⟩ | exact ⟨Keeps.alloc _ _, rfl⟩
    simp only [addEnt]
    apply loose_is
    · intro W vals hW hkn
      clear hkn
      refine ⟨?_⟩
      simp only [fill]
      go_simp
      first | exact ⟨Keeps.refl _ _, rfl⟩ | exact ⟨Keeps.alloc _ _, rfl⟩
    simp only [addEnt]
    apply loose_is
    · intro W vals hW hkn
      clear hkn
      refine ⟨?_⟩
      simp only [fill]
      go_simp
      first | exact ⟨Keeps.refl _ _, rfl⟩ | exact ⟨Keeps.alloc _ _, rfl⟩
    simp only [addEnt]
    apply loose_is
    · intro W vals hW hkn
      clear hkn
      refine ⟨?_⟩
      simp only [fill]
      go_simp
      exact ⟨Keeps.refl _ _, rfl⟩
    simp only [addEnt]
    apply loose_is
    · intro W vals hW hkn
      clear hkn
      refine ⟨?_⟩
      simp only [fill]
      go_simp
      first | exact ⟨Keeps.refl _ _, rfl⟩ | exact ⟨Keeps.alloc _ _, rfl⟩
    simp only [addEnt]
    apply loose_is
    · intro W vals hW hkn
      clear hkn
      refine ⟨?_⟩
      simp only [fill]
      go_simp
      first | exact ⟨Keeps.refl _ _, rfl⟩ | exact ⟨Keeps.alloc _ _, rfl⟩
    simp only [addEnt]
    apply loose_is
    · intro W vals hW hkn
      clear hkn
      refine ⟨?_⟩
      simp only [fill]
      go_simp
      refine looseUpon_calls ?_
      refine (known6_any _).mono ?_; rintro e w3 ⟨rfl, hk⟩; exact ⟨_, rfl, hk, rfl⟩
    simp only [addEnt]
    apply loose_is
    · intro W vals hW hkn
      clear hkn
      refine ⟨?_⟩
      simp only [fill]
      go_simp
      first | exact ⟨Keeps.refl _ _, rfl⟩ | exact ⟨Keeps.alloc _ _, rfl⟩
    simp only [addEnt]
    apply loose_is
    · intro W vals hW hkn
      clear hkn
      refine ⟨?_⟩
      simp only [fill]
      go_simp
      first | exact ⟨Keeps.refl _ _, rfl⟩ | exact ⟨Keeps.alloc _ _, rfl⟩
    simp only [addEnt]
    refine loose_nil (fun W vals hW hkn => ?_)
    simp only [knowsAll] at hkn
    try simp only [and_true] at hkn
    simp only [fill, Act.put, List.setIfInBounds_toArray, List.set_cons_succ, List.set_cons_zero]
    have H4 := Lib.hid (H3.out.then_ hW)
    clear hW hkn M1 M2 M3 M4
    go_wp2_with fail
    go_ret
    exact ⟨rfl, H4.out⟩
  · have HT := Lib.hid (show whereOf t = t.tmod 2 by rw [Int.tmod_eq_emod_of_nonneg (by omega)]; simp [whereOf, ht])
    have hm : max t 0 = t := by omega
    have ht' : 0 ≤ t := by omega
    refine wp_region_keeps _ (by kernel_rfl) rfl (by kernel_rfl) ?_
    apply loose_is
    · intro W vals hW hkn
      clear hkn
      refine ⟨?_⟩
      simp only [fill]
      go_simp
      first | exact ⟨Keeps.refl _ _, rfl⟩ | exact ⟨Keeps.alloc _ _, rfl⟩
    simp only [addEnt]
    apply loose_is
    · intro W vals hW hkn
      clear hkn
      refine ⟨?_⟩
      simp only [fill]
      go_simp
      first | exact ⟨Keeps.refl _ _, rfl⟩ | exact ⟨Keeps.alloc _ _, rfl⟩
    simp only [addEnt]
    apply loose_is
    · intro W vals hW hkn
      clear hkn
      refine ⟨?_⟩
      simp only [fill]
      go_simp
      first | exact ⟨Keeps.refl _ _, rfl⟩ | exact ⟨Keeps.alloc _ _, rfl⟩
    simp only [addEnt]
    apply loose_is
    · intro W vals hW hkn
      clear hkn
      refine ⟨?_⟩
      simp only [fill]
      go_simp
      first | exact ⟨Keeps.refl _ _, rfl⟩ | exact ⟨Keeps.alloc _ _, rfl⟩
    simp only [addEnt]
    apply loose_is
    · intro W vals hW hkn
      clear hkn
      refine ⟨?_⟩
      simp only [fill]
      go_simp
      first | exact ⟨Keeps.refl _ _, rfl⟩ | exact ⟨Keeps.alloc _ _, rfl⟩
    simp only [addEnt]
    apply loose_is
    · intro W vals hW hkn
      clear hkn
      refine ⟨?_⟩
      simp only [fill]
      go_simp
      first | exact ⟨Keeps.refl _ _, rfl⟩ | exact ⟨Keeps.alloc _ _, rfl⟩
    simp only [addEnt]
    apply loose_is
    · intro W vals hW hkn
      clear hkn
      refine ⟨?_⟩
      simp only [fill]
      go_simp
      first | exact ⟨Keeps.refl _ _, rfl⟩ | exact ⟨Keeps.alloc _ _, rfl⟩
    simp only [addEnt]
    apply loose_is
    · intro W vals hW hkn
      clear hkn
      refine ⟨?_⟩
      simp only [fill]
      go_simp
      first | exact ⟨Keeps.refl _ _, rfl⟩ | exact ⟨Keeps.alloc _ _, rfl⟩
    simp only [addEnt]
    apply loose_is
    · intro W vals hW hkn
      clear hkn
      refine ⟨?_⟩
      simp only [fill]
      go_simp
      first | exact ⟨Keeps.refl _ _, rfl⟩ | exact ⟨Keeps.alloc _ _, rfl⟩
    simp only [addEnt]
    apply loose_is
    · intro W vals hW hkn
      clear hkn
      refine ⟨?_⟩
      simp only [fill]
      go_simp
      first | exact ⟨Keeps.refl _ _, rfl⟩ | exact ⟨Keeps.alloc _ _, rfl⟩
    simp only [addEnt]
    apply loose_is
    · intro W vals hW hkn
      clear hkn
      refine ⟨?_⟩
      simp only [fill]
      go_simp
      refine looseUpon_calls ?_
      refine (where_any _ _).mono ?_; rintro e w3 ⟨rfl, rfl⟩; rw [HT.out]; exact ⟨_, rfl, Keeps.refl _ _, rfl⟩
    simp only [addEnt]
    apply loose_is
    · intro W vals hW hkn
      clear hkn
      refine ⟨?_⟩
      simp only [fill]
      go_simp
      first | exact ⟨Keeps.refl _ _, rfl⟩ | exact ⟨Keeps.alloc _ _, rfl⟩
    simp only [addEnt]
    apply loose_is
    · intro W vals hW hkn
      clear hkn
      refine ⟨?_⟩
      simp only [fill]
      go_simp
      first | exact ⟨Keeps.refl _ _, rfl⟩ | exact ⟨Keeps.alloc _ _, rfl⟩
    simp only [addEnt]
    apply loose_is
    · intro W vals hW hkn
      clear hkn
      refine ⟨?_⟩
      simp only [fill]
      go_simp
      first | exact ⟨Keeps.refl _ _, rfl⟩ | exact ⟨Keeps.alloc _ _, rfl⟩
    simp only [addEnt]
    apply loose_is
    · intro W vals hW hkn
      clear hkn
      refine ⟨?_⟩
      simp only [fill]
      go_simp
      first | exact ⟨Keeps.refl _ _, rfl⟩ | exact ⟨Keeps.alloc _ _, rfl⟩
    simp only [addEnt]
    apply loose_is
    · intro W vals hW hkn
      clear hkn
      refine ⟨?_⟩
      simp only [fill]
      go_simp
      exact ⟨Keeps.refl _ _, rfl⟩
    simp only [addEnt]
    apply loose_is
    · intro W vals hW hkn
      clear hkn
      refine ⟨?_⟩
      simp only [fill]
      go_simp
      first | exact ⟨Keeps.refl _ _, rfl⟩ | exact ⟨Keeps.alloc _ _, rfl⟩
    simp only [addEnt]
    apply loose_is
    · intro W vals hW hkn
      clear hkn
      refine ⟨?_⟩
      simp only [fill]
      go_simp
      first | exact ⟨Keeps.refl _ _, rfl⟩ | exact ⟨Keeps.alloc _ _, rfl⟩
    simp only [addEnt]
    apply loose_is
    · intro W vals hW hkn
      clear hkn
      refine ⟨?_⟩
      simp only [fill]
      go_simp
      refine looseUpon_calls ?_
      refine (known6_any _).mono ?_; rintro e w3 ⟨rfl, hk⟩; exact ⟨_, rfl, hk, rfl⟩
    simp only [addEnt]
    apply loose_is
    · intro W vals hW hkn
      clear hkn
      refine ⟨?_⟩
      simp only [fill]
      go_simp
      first | exact ⟨Keeps.refl _ _, rfl⟩ | exact ⟨Keeps.alloc _ _, rfl⟩
    simp only [addEnt]
    apply loose_is
    · intro W vals hW hkn
      clear hkn
      refine ⟨?_⟩
      simp only [fill]
      go_simp
      first | exact ⟨Keeps.refl _ _, rfl⟩ | exact ⟨Keeps.alloc _ _, rfl⟩
    simp only [addEnt]
    refine loose_nil (fun W vals hW hkn => ?_)
    simp only [knowsAll] at hkn
    try simp only [and_true] at hkn
    simp only [fill, Act.put, List.setIfInBounds_toArray, List.set_cons_succ, List.set_cons_zero]
    have H4 := Lib.hid (H3.out.then_ hW)
    clear hW hkn M1 M2 M3 M4
    go_wp2_with fail
    go_ret
    exact ⟨rfl, H4.out⟩
end Go.Proofs.Ythepcoifcoinoaa

namespace Go.Proofs.Ythepcoifcoinoaa
open Go.RowKit

set_option maxRecDepth 100000 in
set_option maxHeartbeats 8000000 in
theorem metaRaws_yes (w : World) (t r f h : Int) (hok : metaOk t r f h = true) :
    Calls Try.prog 9 #[.agg #[.int .i64 t, .int .i64 r, .int .i64 f, .int .i64 h]] w fun e w' => e = .returned (.bool true) ∧ Keeps w w' [] := by
  have HO := Lib.hid (And.intro hok (show metaErr t r f h = 0 by simp [metaErr, hok]))
  obtain ⟨ht, _⟩ := metaOk_true hok
  obtain ⟨ht0, ht1⟩ := ht
  clear hok
  have HT := Lib.hid (mMod t ht0)
  go_enter Try.func9, Try.ntmps9
  go_wp2_with fail
  refine (mRaw_yes t r f h _ HO.out.1).mono ?_
  rintro e w1 ⟨b, o, c, rfl, hF, hk1⟩
  have r1 := (Row.new w 49 #[.int .i64 t, .int .i64 r, .int .i64 f, .int .i64 h]).keeps hk1
  have H1 := Lib.hid (And.intro ((Keeps.alloc _ _).then_ hk1) (And.intro r1 hF))
  have M1 := fun (W : World) (hW : Keeps w1 W []) => (r1.keep hW (by simp)).cell 0
  have M2 := fun (W : World) (hW : Keeps w1 W []) => (r1.keep hW (by simp)).cell 1
  have M3 := fun (W : World) (hW : Keeps w1 W []) => (r1.keep hW (by simp)).cell 2
  have M4 := fun (W : World) (hW : Keeps w1 W []) => (r1.keep hW (by simp)).cell 3
  clear hk1 r1 hF
  go_wp2_with fail
  refine wp_region_keeps _ (by kernel_rfl) rfl (by kernel_rfl) ?_
  apply loose_is
  · intro W vals hW hkn
    clear hkn
    refine ⟨?_⟩
    simp only [fill]
    go_simp
    first | exact ⟨Keeps.refl _ _, rfl⟩ | exact ⟨Keeps.alloc _ _, rfl⟩
  simp only [addEnt]
  apply loose_is
  · intro W vals hW hkn
    clear hkn
    refine ⟨?_⟩
    simp only [fill]
    go_simp
    refine looseUpon_calls ?_
    refine (mCheck_any _ _ _ _ _).mono ?_; rintro e w2 ⟨rfl, hk⟩; rw [HO.out.2]; exact ⟨_, rfl, hk, rfl⟩
  simp only [addEnt]
  apply loose_is
  · intro W vals hW hkn
    clear hkn
    refine ⟨?_⟩
    simp only [fill]
    go_simp
    first | exact ⟨Keeps.refl _ _, rfl⟩ | exact ⟨Keeps.alloc _ _, rfl⟩
  simp only [addEnt]
  apply loose_is
  · intro W vals hW hkn
    clear hkn
    refine ⟨?_⟩
    simp only [fill]
    go_simp
    first | exact ⟨Keeps.refl _ _, rfl⟩ | exact ⟨Keeps.alloc _ _, rfl⟩
  simp only [addEnt]
  apply loose_is
  · intro W vals hW hkn
    clear hkn
    refine ⟨?_⟩
    simp only [fill]
    go_simp
    refine looseUpon_calls ?_
    refine (mRight_any _ _ _ _ _).mono ?_; rintro e w2 ⟨rfl, hk⟩; rw [HO.out.1]; exact ⟨_, rfl, hk, rfl⟩
  simp only [addEnt]
  apply loose_is
  · intro W vals hW hkn
    clear hkn
    refine ⟨?_⟩
    simp only [fill]
    go_simp
    first | exact ⟨Keeps.refl _ _, rfl⟩ | exact ⟨Keeps.alloc _ _, rfl⟩
  simp only [addEnt]
  refine loose_nil (fun W vals hW hkn => ?_)
  simp only [knowsAll] at hkn
  try simp only [and_true] at hkn
  simp only [fill, Act.put, List.setIfInBounds_toArray, List.set_cons_succ, List.set_cons_zero]
  have r2 := H1.out.2.1.keeps hW
  have H2 := Lib.hid (And.intro (H1.out.1.then_ hW) (And.intro r2 (H1.out.2.2.keeps hW)))
  have c0 := r2.cell 0
  have c1 := r2.cell 1
  have c2 := r2.cell 2
  have c3 := r2.cell 3
  simp only [List.getElem?_toArray, List.getElem?_cons_zero, List.getElem?_cons_succ] at c0 c1 c2 c3
  clear hW r2 M1 M2 M3 M4
  go_wp2_with fail
  refine (mRight_any _ _ _ _ _).mono ?_
  rintro e w2 ⟨rfl, hk2⟩
  rw [HO.out.1]
  have r3 := H2.out.2.1.keeps hk2
  have H3 := Lib.hid (And.intro (H2.out.1.then_ hk2) (And.intro r3 (H2.out.2.2.keeps hk2)))
  clear c0 c1 c2 c3 hk2 hkn
  have c0 := r3.cell 0
  have c1 := r3.cell 1
  have c2 := r3.cell 2
  have c3 := r3.cell 3
  simp only [List.getElem?_toArray, List.getElem?_cons_zero, List.getElem?_cons_succ] at c0 c1 c2 c3
  clear r3
  go_wp2_with fail
  refine (mParse_raw w2 _ b o c (t % 2) t r f h HO.out.1 HT.out H3.out.2.2).mono ?_
  rintro e w3 ⟨rfl, hk3⟩
  have r4 := H3.out.2.1.keeps hk3
  have H4 := Lib.hid (And.intro (H3.out.1.then_ hk3) (And.intro r4 (H3.out.2.2.keeps hk3)))
  clear c0 c1 c2 c3 hk3
  have c0 := r4.cell 0
  have c1 := r4.cell 1
  have c2 := r4.cell 2
  have c3 := r4.cell 3
  simp only [List.getElem?_toArray, List.getElem?_cons_zero, List.getElem?_cons_succ] at c0 c1 c2 c3
  have hlt4 := r4.lt
  clear r4
  have hm0 : 0 ≤ t % 2 := by omega
  have hm1 : t % 2 ≤ 1 := by omega
  go_wp2_with fail
  obtain ⟨W5, hW5⟩ : ∃ W5, w3.alloc (.cells #[.int .i64 t, .int .i64 r, .int .i64 f, .int .i64 h] 49) = W5 := ⟨_, rfl⟩
  have k5 : Keeps w3 W5 [] := by rw [← hW5]; exact Keeps.alloc _ _
  have r5 : Row W5 w3.heap.size 49 #[.int .i64 t, .int .i64 r, .int .i64 f, .int .i64 h] := by rw [← hW5]; exact Row.new _ _ _
  rw [hW5]
  clear hW5
  refine (mParse_rawNo W5 _ b o c (1 - t % 2) t r f h HO.out.1 (by simp [withinB]; omega) (by rw [← HT.out]; omega) (H4.out.2.2.keeps k5)).mono ?_
  rintro e w6 ⟨rfl, hk6⟩
  have H6 := Lib.hid (And.intro ((H4.out.1.then_ k5).then_ hk6) (And.intro (H4.out.2.1.keeps (k5.then_ hk6)) (And.intro (H4.out.2.2.keeps (k5.then_ hk6)) (r5.keeps hk6))))
  clear c0 c1 c2 c3 hk6 k5 r5
  go_wp2_with fail
  obtain ⟨W7, hW7⟩ : ∃ W7, w6.alloc (.cells #[.int .i64 0, .int .i64 0, .int .i64 0, .int .i64 0] 49) = W7 := ⟨_, rfl⟩
  have k7 : Keeps w6 W7 [] := by rw [← hW7]; exact Keeps.alloc _ _
  rw [hW7]
  clear hW7
  have H7 := Lib.hid (And.intro (H6.out.1.then_ k7) (And.intro (H6.out.2.1.keeps k7) (And.intro (H6.out.2.2.1.keeps k7) (H6.out.2.2.2.keeps k7))))
  clear k7
  have M1 := fun (W : World) (hW : Keeps W7 W []) => (H7.out.2.1.keep hW (by simp)).cell 0
  have M2 := fun (W : World) (hW : Keeps W7 W []) => (H7.out.2.1.keep hW (by simp)).cell 1
  have M3 := fun (W : World) (hW : Keeps W7 W []) => (H7.out.2.1.keep hW (by simp)).cell 2
  have M4 := fun (W : World) (hW : Keeps W7 W []) => (H7.out.2.1.keep hW (by simp)).cell 3
  have N1 := fun (W : World) (hW : Keeps W7 W []) => (H7.out.2.2.2.keep hW (by simp)).cell 0
  have N2 := fun (W : World) (hW : Keeps W7 W []) => (H7.out.2.2.2.keep hW (by simp)).cell 1
  have N3 := fun (W : World) (hW : Keeps W7 W []) => (H7.out.2.2.2.keep hW (by simp)).cell 2
  have N4 := fun (W : World) (hW : Keeps W7 W []) => (H7.out.2.2.2.keep hW (by simp)).cell 3
  obtain ⟨RL, hRL⟩ : ∃ RL, metaRaw t r f h = RL := ⟨_, rfl⟩
  have CB := Lib.hid (show ∀ W, Keeps W7 W [] → (convert 22 9 (.slice (some ⟨b, o, none⟩) 256 c)).run Try.prog W = .ok (.string ⟨RL.toArray⟩) W from fun W hW => by
    have := (H7.out.2.2.1.keeps hW).str
    rwa [hRL] at this)
  have RR := Lib.hid (show ∀ W, Keeps W7 W [] → Calls Try.prog 33 #[.agg #[.int .i64 t, .int .i64 r, .int .i64 f, .int .i64 h]] W fun e w' => ∃ v, e = .returned v ∧ Keeps W w' [] ∧ ∃ b o c', v = .slice (some ⟨b, o, none⟩) 256 c' ∧ Full w' W7.heap.size b o c' RL from fun W hW => (mRefRaw t r f h W HO.out.1).mono (by rintro e w2 ⟨b, o, c', rfl, hf, hk⟩; exact ⟨_, rfl, hk, b, o, c', rfl, Full.mono (hRL ▸ hf) hW.size⟩))
  clear hRL
  have rr : (RL == RL) = true := by simp
  refine wp_region_keeps _ (by kernel_rfl) rfl (by kernel_rfl) ?_
  apply loose_is
  · intro W vals hW hkn
    clear hkn
    refine ⟨?_⟩
    simp only [fill]
    go_simp
    first | exact ⟨Keeps.refl _ _, rfl⟩ | exact ⟨Keeps.alloc _ _, rfl⟩
  simp only [addEnt]
  apply loose_is
  · intro W vals hW hkn
    clear hkn
    refine ⟨?_⟩
    simp only [fill]
    go_simp
    first | exact ⟨Keeps.refl _ _, rfl⟩ | exact ⟨Keeps.alloc _ _, rfl⟩
  simp only [addEnt]
  apply loose_is
  · intro W vals hW hkn
    clear hkn
    refine ⟨?_⟩
    simp only [fill]
    go_simp
    first | exact ⟨Keeps.refl _ _, rfl⟩ | exact ⟨Keeps.alloc _ _, rfl⟩
  simp only [addEnt]
  apply loose_is
  · intro W vals hW hkn
    clear hkn
    refine ⟨?_⟩
    simp only [fill]
    go_simp
    first | exact ⟨Keeps.refl _ _, rfl⟩ | exact ⟨Keeps.alloc _ _, rfl⟩
  simp only [addEnt]
  apply loose_is
  · intro W vals hW hkn
    simp only [knows] at hkn
    try simp only [and_true] at hkn
    have hcs := CB.out W hW
    refine ⟨?_⟩
    simp only [fill]
    go_simp
    first | exact ⟨Keeps.refl _ _, rfl⟩ | exact ⟨Keeps.alloc _ _, rfl⟩
  simp only [addEnt]
  apply loose_is
  · intro W vals hW hkn
    clear hkn
    refine ⟨?_⟩
    simp only [fill]
    go_simp
    first | exact ⟨Keeps.refl _ _, rfl⟩ | exact ⟨Keeps.alloc _ _, rfl⟩
  simp only [addEnt]
  refine loose_has (fun v W => ∃ b o c', v = .slice (some ⟨b, o, none⟩) 256 c' ∧ Full W W7.heap.size b o c' RL) (fun W vals hW hkn φ' hφ => ?_) ?_
  · simp only [knows] at hkn
    try simp only [and_true] at hkn
    skip
    refine ⟨?_⟩
    simp only [fill]
    go_simp
    exact looseUpon_has hφ (RR.out W hW)
  simp only [addEnt]
  apply loose_is
  · intro W vals hW hkn
    simp only [knows] at hkn
    try simp only [and_true] at hkn
    obtain ⟨W0, h0, h1, b, o, c', hv, hb⟩ := hkn (by decide); have hcs := (hb.keeps h1).str; clear hb
    refine ⟨?_⟩
    simp only [fill]
    go_simp
    first | exact ⟨Keeps.refl _ _, rfl⟩ | exact ⟨Keeps.alloc _ _, rfl⟩
  simp only [addEnt]
  apply loose_is
  · intro W vals hW hkn
    clear hkn
    refine ⟨?_⟩
    simp only [fill]
    go_simp
    first | exact ⟨Keeps.refl _ _, rfl⟩ | exact ⟨Keeps.alloc _ _, rfl⟩
  simp only [addEnt]
  apply loose_is
  · intro W vals hW hkn
    clear hkn
    refine ⟨?_⟩
    simp only [fill]
    go_simp
    first | exact ⟨Keeps.refl _ _, rfl⟩ | exact ⟨Keeps.alloc _ _, rfl⟩
  simp only [addEnt]
  apply loose_is
  · intro W vals hW hkn
    clear hkn
    refine ⟨?_⟩
    simp only [fill]
    go_simp
    first | exact ⟨Keeps.refl _ _, rfl⟩ | exact ⟨Keeps.alloc _ _, rfl⟩
  simp only [addEnt]
  apply loose_is
  · intro W vals hW hkn
    clear hkn
    refine ⟨?_⟩
    simp only [fill]
    go_simp
    first | exact ⟨Keeps.refl _ _, rfl⟩ | exact ⟨Keeps.alloc _ _, rfl⟩
  simp only [addEnt]
  apply loose_is
  · intro W vals hW hkn
    clear hkn
    refine ⟨?_⟩
    simp only [fill]
    go_simp
    first | exact ⟨Keeps.refl _ _, rfl⟩ | exact ⟨Keeps.alloc _ _, rfl⟩
  simp only [addEnt]
  apply loose_is
  · intro W vals hW hkn
    clear hkn
    refine ⟨?_⟩
    simp only [fill]
    go_simp
    first | exact ⟨Keeps.refl _ _, rfl⟩ | exact ⟨Keeps.alloc _ _, rfl⟩
  simp only [addEnt]
  apply loose_is
  · intro W vals hW hkn
    clear hkn
    refine ⟨?_⟩
    simp only [fill]
    go_simp
    first | exact ⟨Keeps.refl _ _, rfl⟩ | exact ⟨Keeps.alloc _ _, rfl⟩
  simp only [addEnt]
  apply loose_is
  · intro W vals hW hkn
    clear hkn
    refine ⟨?_⟩
    simp only [fill]
    go_simp
    first | exact ⟨Keeps.refl _ _, rfl⟩ | exact ⟨Keeps.alloc _ _, rfl⟩
  simp only [addEnt]
  apply loose_is
  · intro W vals hW hkn
    clear hkn
    refine ⟨?_⟩
    simp only [fill]
    go_simp
    first | exact ⟨Keeps.refl _ _, rfl⟩ | exact ⟨Keeps.alloc _ _, rfl⟩
  simp only [addEnt]
  apply loose_is
  · intro W vals hW hkn
    clear hkn
    refine ⟨?_⟩
    simp only [fill]
    go_simp
    first | exact ⟨Keeps.refl _ _, rfl⟩ | exact ⟨Keeps.alloc _ _, rfl⟩
  simp only [addEnt]
  apply loose_is
  · intro W vals hW hkn
    clear hkn
    refine ⟨?_⟩
    simp only [fill]
    go_simp
    first | exact ⟨Keeps.refl _ _, rfl⟩ | exact ⟨Keeps.alloc _ _, rfl⟩
  simp only [addEnt]
  apply loose_is
  · intro W vals hW hkn
    clear hkn
    refine ⟨?_⟩
    simp only [fill]
    go_simp
    first | exact ⟨Keeps.refl _ _, rfl⟩ | exact ⟨Keeps.alloc _ _, rfl⟩
  simp only [addEnt]
  apply loose_is
  · intro W vals hW hkn
    clear hkn
    refine ⟨?_⟩
    simp only [fill]
    go_simp
    first | exact ⟨Keeps.refl _ _, rfl⟩ | exact ⟨Keeps.alloc _ _, rfl⟩
  simp only [addEnt]
  apply loose_is
  · intro W vals hW hkn
    clear hkn
    refine ⟨?_⟩
    simp only [fill]
    go_simp
    first | exact ⟨Keeps.refl _ _, rfl⟩ | exact ⟨Keeps.alloc _ _, rfl⟩
  simp only [addEnt]
  apply loose_is
  · intro W vals hW hkn
    clear hkn
    refine ⟨?_⟩
    simp only [fill]
    go_simp
    first | exact ⟨Keeps.refl _ _, rfl⟩ | exact ⟨Keeps.alloc _ _, rfl⟩
  simp only [addEnt]
  apply loose_is
  · intro W vals hW hkn
    clear hkn
    refine ⟨?_⟩
    simp only [fill]
    go_simp
    first | exact ⟨Keeps.refl _ _, rfl⟩ | exact ⟨Keeps.alloc _ _, rfl⟩
  simp only [addEnt]
  apply loose_is
  · intro W vals hW hkn
    clear hkn
    refine ⟨?_⟩
    simp only [fill]
    go_simp
    first | exact ⟨Keeps.refl _ _, rfl⟩ | exact ⟨Keeps.alloc _ _, rfl⟩
  simp only [addEnt]
  apply loose_is
  · intro W vals hW hkn
    clear hkn
    refine ⟨?_⟩
    simp only [fill]
    go_simp
    first | exact ⟨Keeps.refl _ _, rfl⟩ | exact ⟨Keeps.alloc _ _, rfl⟩
  simp only [addEnt]
  apply loose_is
  · intro W vals hW hkn
    clear hkn
    refine ⟨?_⟩
    simp only [fill]
    go_simp
    refine looseUpon_calls ?_
    refine (where_any _ _).mono ?_; rintro e w3 ⟨rfl, rfl⟩; rw [← HT.out, ← Int.tmod_eq_emod_of_nonneg ht0]; exact ⟨_, rfl, Keeps.refl _ _, rfl⟩
  simp only [addEnt]
  apply loose_is
  · intro W vals hW hkn
    clear hkn
    refine ⟨?_⟩
    simp only [fill]
    go_simp
    first | exact ⟨Keeps.refl _ _, rfl⟩ | exact ⟨Keeps.alloc _ _, rfl⟩
  simp only [addEnt]
  apply loose_is
  · intro W vals hW hkn
    clear hkn
    refine ⟨?_⟩
    simp only [fill]
    go_simp
    first | exact ⟨Keeps.refl _ _, rfl⟩ | exact ⟨Keeps.alloc _ _, rfl⟩
  simp only [addEnt]
  apply loose_is
  · intro W vals hW hkn
    clear hkn
    refine ⟨?_⟩
    simp only [fill]
    go_simp
    first | exact ⟨Keeps.refl _ _, rfl⟩ | exact ⟨Keeps.alloc _ _, rfl⟩
  simp only [addEnt]
  apply loose_is
  · intro W vals hW hkn
    clear hkn
    refine ⟨?_⟩
    simp only [fill]
    go_simp
    first | exact ⟨Keeps.refl _ _, rfl⟩ | exact ⟨Keeps.alloc _ _, rfl⟩
  simp only [addEnt]
  apply loose_is
  · intro W vals hW hkn
    clear hkn
    refine ⟨?_⟩
    simp only [fill]
    go_simp
    first | exact ⟨Keeps.refl _ _, rfl⟩ | exact ⟨Keeps.alloc _ _, rfl⟩
  simp only [addEnt]
  apply loose_is
  · intro W vals hW hkn
    clear hkn
    refine ⟨?_⟩
    simp only [fill]
    go_simp
    first | exact ⟨Keeps.refl _ _, rfl⟩ | exact ⟨Keeps.alloc _ _, rfl⟩
  simp only [addEnt]
  apply loose_is
  · intro W vals hW hkn
    clear hkn
    refine ⟨?_⟩
    simp only [fill]
    go_simp
    refine looseUpon_calls ?_
    refine (known6_any _).mono ?_; rintro e w3 ⟨rfl, hk⟩; exact ⟨_, rfl, hk, rfl⟩
  simp only [addEnt]
  apply loose_is
  · intro W vals hW hkn
    clear hkn
    refine ⟨?_⟩
    simp only [fill]
    go_simp
    first | exact ⟨Keeps.refl _ _, rfl⟩ | exact ⟨Keeps.alloc _ _, rfl⟩
  simp only [addEnt]
  apply loose_is
  · intro W vals hW hkn
    clear hkn
    refine ⟨?_⟩
    simp only [fill]
    go_simp
    first | exact ⟨Keeps.refl _ _, rfl⟩ | exact ⟨Keeps.alloc _ _, rfl⟩
  simp only [addEnt]
  refine loose_nil (fun W vals hW hkn => ?_)
  simp only [knowsAll] at hkn
  try simp only [and_true] at hkn
  simp only [fill, Act.put, List.setIfInBounds_toArray, List.set_cons_succ, List.set_cons_zero]
  have H8 := Lib.hid (H7.out.1.then_ hW)
  clear hW hkn
  go_wp2_with fail
  go_ret
  exact ⟨rfl, H8.out⟩
theorem metaRaws_came (w : World) (t r f h : Int) :
    Calls Try.prog 9 #[.agg #[.int .i64 t, .int .i64 r, .int .i64 f, .int .i64 h]] w fun e w' => e = .returned (.bool true) ∧ Keeps w w' [] := by
  cases hok : metaOk t r f h
  · exact metaRaws_no w t r f h hok
  · exact metaRaws_yes w t r f h hok
end Go.Proofs.Ythepcoifcoinoaa
