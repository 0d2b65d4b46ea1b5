/- The statement MetaTorn (layer 6): plain part. The statement MetaTorn (layer 6): its walk. -/
import Derived.Test.YthepcoifcoinoaaPa35
import Derived.Test.YthepcoifcoinoaaPa40

namespace Go.Proofs.Ythepcoifcoinoaa
open Go.RowKit

/-- A meta's page's bytes of which one to three bits are turned are none's. -/
theorem mpErr_turned {t r f h : Int} (hok : metaOk t r f h = true) (n : Int) (hn : withinB n 0 1 = true) (x y z : Int) (hne : turnBit (turnBit (turnBit (metaRaw t r f h) x) y) z ≠ metaRaw t r f h) :
    mpErr n (turnBit (turnBit (turnBit (metaRaw t r f h) x) y) z) = 160 := by
  have hl : (turnBit (turnBit (turnBit (metaRaw t r f h) x) y) z).length = 256 := by
    rw [turnBit_length, turnBit_length, turnBit_length]; exact (metaRaw_parts hok).1
  have hle : lookErr (turnBit (turnBit (turnBit (metaRaw t r f h) x) y) z) = 140 := (lookErr_turned (whereOf t) 1 t 0 (metaBody r f h) (metaPage_ok hok) (whereOf_ok t) x y z).2 hne
  have hpe : parseErr n (turnBit (turnBit (turnBit (metaRaw t r f h) x) y) z) = 140 := by
    unfold parseErr
    rw [if_neg (by simp [withinB] at hn ⊢; omega), if_pos (by omega), hle]
  have hpp : mpPage n (turnBit (turnBit (turnBit (metaRaw t r f h) x) y) z) = false := by simp [mpPage, hpe]
  rw [mpErr_in hn hl, hpp]; rfl
/-- Boxes of two metas, of three bits, of a third meta, laid. -/
theorem torn_boxes (w : World) (c1 c2 c3 c4 : Array Value) :
    ∃ W, W = (((w.alloc (.cells c1 49)).alloc (.cells c2 49)).alloc (.cells c3 38)).alloc (.cells c4 49) ∧
      Row W (w.heap.size + 1) 49 c2 ∧ Row W (w.heap.size + 1 + 1) 38 c3 ∧ Row W (w.heap.size + 1 + 1 + 1) 49 c4 ∧ Keeps w W [] ∧ w.heap.size + 4 ≤ W.heap.size := by
  refine ⟨_, rfl, ?_, ?_, ?_, (((Keeps.alloc _ _).then_alloc _).then_alloc _).then_alloc _, by simp⟩
  · have := ((Row.new (w.alloc (.cells c1 49)) 49 c2).alloc (.cells c3 38)).alloc (.cells c4 49)
    rwa [World.size_alloc] at this
  · have := (Row.new ((w.alloc (.cells c1 49)).alloc (.cells c2 49)) 38 c3).alloc (.cells c4 49)
    rwa [World.size_alloc, World.size_alloc] at this
  · have := Row.new (((w.alloc (.cells c1 49)).alloc (.cells c2 49)).alloc (.cells c3 38)) 49 c4
    rwa [World.size_alloc, World.size_alloc, World.size_alloc] at this

set_option maxRecDepth 100000 in
set_option maxHeartbeats 2000000 in
theorem metaTorn_far (w : World) (t r f h t' r' f' h' x0 x1 x2 : Int) (hf : t < 0 ∨ 2305843009213693952 < t) :
    Calls Try.prog 10 #[.agg #[.int .i64 t, .int .i64 r, .int .i64 f, .int .i64 h], .agg #[.int .i64 t', .int .i64 r', .int .i64 f', .int .i64 h'], .agg #[.int .i64 x0, .int .i64 x1, .int .i64 x2]] w fun e w' => e = .returned (.bool true) ∧ Keeps w w' [] := by
  by_cases h0 : t < 0
  · have d1 : decide (t < 0) = true := by simpa using h0
    clear h0 hf
    go_enter Try.func10, Try.ntmps10
    go_wp2_with fail
    refine (known6_any _).mono ?_
    rintro e w5 ⟨rfl, hk5⟩
    have H5 := Lib.hid ((((Keeps.alloc w _).then_alloc _).then_alloc _).then_ hk5)
    clear hk5
    go_wp2
    go_ret
    exact ⟨rfl, H5.out⟩
  · have d1 : decide (t < 0) = false := by simpa using h0
    have d2 : decide (2305843009213693952 < t) = true := by simp; omega
    clear h0 hf
    go_enter Try.func10, Try.ntmps10
    go_wp2_with fail
    refine (known6_any _).mono ?_
    rintro e w5 ⟨rfl, hk5⟩
    have H5 := Lib.hid ((((Keeps.alloc w _).then_alloc _).then_alloc _).then_ hk5)
    clear hk5
    go_wp2
    go_ret
    exact ⟨rfl, H5.out⟩
end Go.Proofs.Ythepcoifcoinoaa

namespace Go.Proofs.Ythepcoifcoinoaa
open Go.RowKit

theorem whereOf_next (t : Int) (h : 0 ≤ t) : (whereOf (t + 2) = 0 ∧ whereOf (t + 1) = 1) ∨ (whereOf (t + 2) = 1 ∧ whereOf (t + 1) = 0) := by
  unfold whereOf
  rw [if_neg (by omega), if_neg (by omega)]
  omega
/-- Which counts, where the one's bytes are as they were, or turned. -/
theorem torn_same {t r f h r' f' h' : Int} (hb : metaOk (t + 1) r' f' h' = true) (hc : metaOk (t + 2) r f h = true) :
    (whereOf (t + 2) = 0 → whereOf (t + 1) = 1 → mcV (metaRaw (t + 2) r f h) (metaRaw (t + 1) r' f' h') = .agg #[.int .i64 (t + 2), .int .i64 r, .int .i64 f, .int .i64 h] ∧ mcErr (metaRaw (t + 2) r f h) (metaRaw (t + 1) r' f' h') = 0) ∧
    (whereOf (t + 2) = 1 → whereOf (t + 1) = 0 → mcV (metaRaw (t + 1) r' f' h') (metaRaw (t + 2) r f h) = .agg #[.int .i64 (t + 2), .int .i64 r, .int .i64 f, .int .i64 h] ∧ mcErr (metaRaw (t + 1) r' f' h') (metaRaw (t + 2) r f h) = 0) := by
  have t0 := (metaRaw_parts hb).2.2.2.2.1
  have t1 := (metaRaw_parts hc).2.2.2.2.1
  constructor
  · intro h0 h1
    have e0 : mpErr 0 (metaRaw (t + 2) r f h) = 0 := by rw [mpErr_raw hc 0 (by decide), if_pos h0]
    have e1 : mpErr 1 (metaRaw (t + 1) r' f' h') = 0 := by rw [mpErr_raw hb 1 (by decide), if_pos h1]
    have := mc_both e0 e1
    rw [t0, t1, if_neg (by omega), mAgg_raw hc] at this
    exact this
  · intro h0 h1
    have e0 : mpErr 0 (metaRaw (t + 1) r' f' h') = 0 := by rw [mpErr_raw hb 0 (by decide), if_pos h1]
    have e1 : mpErr 1 (metaRaw (t + 2) r f h) = 0 := by rw [mpErr_raw hc 1 (by decide), if_pos h0]
    have := mc_both e0 e1
    rw [t0, t1, if_pos (by omega), mAgg_raw hc] at this
    exact this
theorem torn_other {t r' f' h' : Int} (hb : metaOk (t + 1) r' f' h' = true) (L : List UInt8) (hL : ∀ n, withinB n 0 1 = true → mpErr n L = 160) :
    (whereOf (t + 1) = 1 → mcV L (metaRaw (t + 1) r' f' h') = .agg #[.int .i64 (t + 1), .int .i64 r', .int .i64 f', .int .i64 h'] ∧ mcErr L (metaRaw (t + 1) r' f' h') = 0) ∧
    (whereOf (t + 1) = 0 → mcV (metaRaw (t + 1) r' f' h') L = .agg #[.int .i64 (t + 1), .int .i64 r', .int .i64 f', .int .i64 h'] ∧ mcErr (metaRaw (t + 1) r' f' h') L = 0) := by
  constructor
  · intro h1
    have e1 : mpErr 1 (metaRaw (t + 1) r' f' h') = 0 := by rw [mpErr_raw hb 1 (by decide), if_pos h1]
    have := mc_right (a := L) (by rw [hL 0 (by decide)]; decide) e1
    rwa [mAgg_raw hb] at this
  · intro h1
    have e1 : mpErr 0 (metaRaw (t + 1) r' f' h') = 0 := by rw [mpErr_raw hb 0 (by decide), if_pos h1]
    have := mc_left (b := L) e1 (by rw [hL 1 (by decide)]; decide)
    rwa [mAgg_raw hb] at this

set_option maxRecDepth 100000 in
set_option maxHeartbeats 4000000 in
theorem metaTorn_no (w : World) (t r f h t' r' f' h' x0 x1 x2 : Int) (h0 : 0 ≤ t) (h1 : t ≤ 2305843009213693952) (hno : (metaOk (t + 1) r' f' h' && metaOk (t + 2) r f h) = false) :
    Calls Try.prog 10 #[.agg #[.int .i64 t, .int .i64 r, .int .i64 f, .int .i64 h], .agg #[.int .i64 t', .int .i64 r', .int .i64 f', .int .i64 h'], .agg #[.int .i64 x0, .int .i64 x1, .int .i64 x2]] w fun e w' => e = .returned (.bool true) ∧ Keeps w w' [] := by
  have hs1 : t + 1 ≤ 2305843009213693953 := by omega
  have hs2 : t + 2 ≤ 2305843009213693954 := by omega
  have d1 : decide (t < 0) = false := by simp; omega
  have d2 : decide (2305843009213693952 < t) = false := by simp; omega
  go_enter Try.func10, Try.ntmps10
  go_wp2_with fail
  obtain ⟨W, hW, q4, q5, q7, k0, hs0⟩ := torn_boxes w #[.int .i64 t, .int .i64 r, .int .i64 f, .int .i64 h] #[.int .i64 (t + 1), .int .i64 r', .int .i64 f', .int .i64 h'] #[.int .i64 x0, .int .i64 x1, .int .i64 x2] #[.int .i64 (t + 2), .int .i64 r, .int .i64 f, .int .i64 h]
  rw [← hW]
  clear hW
  have H0 := Lib.hid (And.intro q4 (And.intro q5 (And.intro q7 k0)))
  clear q4 q5 q7 k0
  cases hb : metaOk (t + 1) r' f' h'
  · refine (mRaw_no (t + 1) r' f' h' W hb).mono ?_
    rintro e w1 ⟨rfl, hk1⟩
    have r7 := H0.out.2.2.1.keeps hk1
    have H1 := Lib.hid (H0.out.2.2.2.then_ hk1)
    have c0 := r7.cell 0
    have c1 := r7.cell 1
    have c2 := r7.cell 2
    have c3 := r7.cell 3
    simp only [List.getElem?_toArray, List.getElem?_cons_zero, List.getElem?_cons_succ] at c0 c1 c2 c3
    clear hk1 r7 hno hb
    go_wp2_with fail
    cases hc : metaOk (t + 2) r f h
    · refine (mRaw_no (t + 2) r f h w1 hc).mono ?_
      rintro e w2 ⟨rfl, hk2⟩
      have H2 := Lib.hid (H1.out.then_ hk2)
      clear hk2 hc c0 c1 c2 c3
      go_wp2_with fail
      refine (known6_any _).mono ?_
      rintro e w5 ⟨rfl, hk5⟩
      have H5 := Lib.hid (H2.out.then_ hk5)
      clear hk5
      go_wp2
      go_ret
      exact ⟨rfl, H5.out⟩
    · refine (mRaw_yes (t + 2) r f h w1 hc).mono ?_
      rintro e w2 ⟨b, o, c, rfl, _, hk2⟩
      have H2 := Lib.hid (H1.out.then_ hk2)
      clear hk2 hc c0 c1 c2 c3
      go_wp2_with fail
      refine (known6_any _).mono ?_
      rintro e w5 ⟨rfl, hk5⟩
      have H5 := Lib.hid (H2.out.then_ hk5)
      clear hk5
      go_wp2
      go_ret
      exact ⟨rfl, H5.out⟩
  · rw [hb, Bool.true_and] at hno
    refine (mRaw_yes (t + 1) r' f' h' W hb).mono ?_
    rintro e w1 ⟨b, o, c, rfl, _, hk1⟩
    have r7 := H0.out.2.2.1.keeps hk1
    have H1 := Lib.hid (H0.out.2.2.2.then_ hk1)
    have c0 := r7.cell 0
    have c1 := r7.cell 1
    have c2 := r7.cell 2
    have c3 := r7.cell 3
    simp only [List.getElem?_toArray, List.getElem?_cons_zero, List.getElem?_cons_succ] at c0 c1 c2 c3
    have HN := Lib.hid hno
    clear hk1 r7 hno hb
    go_wp2_with fail
    refine (mRaw_no (t + 2) r f h w1 HN.out).mono ?_
    rintro e w2 ⟨rfl, hk2⟩
    have H2 := Lib.hid (H1.out.then_ hk2)
    clear hk2 c0 c1 c2 c3
    go_wp2_with fail
    refine (known6_any _).mono ?_
    rintro e w5 ⟨rfl, hk5⟩
    have H5 := Lib.hid (H2.out.then_ hk5)
    clear hk5
    go_wp2
    go_ret
    exact ⟨rfl, H5.out⟩

set_option maxRecDepth 100000 in
set_option maxHeartbeats 8000000 in
theorem metaTorn_yes (w : World) (t r f h t' r' f' h' x0 x1 x2 : Int) (h0 : 0 ≤ t) (h1 : t ≤ 2305843009213693952) (hb : metaOk (t + 1) r' f' h' = true) (hc : metaOk (t + 2) r f h = true) :
    Calls Try.prog 10 #[.agg #[.int .i64 t, .int .i64 r, .int .i64 f, .int .i64 h], .agg #[.int .i64 t', .int .i64 r', .int .i64 f', .int .i64 h'], .agg #[.int .i64 x0, .int .i64 x1, .int .i64 x2]] w fun e w' => e = .returned (.bool true) ∧ Keeps w w' [] := by
  have HO := Lib.hid (And.intro hb hc)
  clear hb hc
  have hs1 : t + 1 ≤ 2305843009213693953 := by omega
  have hs2 : t + 2 ≤ 2305843009213693954 := by omega
  have d1 : decide (t < 0) = false := by simp; omega
  have d2 : decide (2305843009213693952 < t) = false := by simp; omega
  go_enter Try.func10, Try.ntmps10
  go_wp2_with fail
  obtain ⟨W, hW, q4, q5, q7, k0, hs0⟩ := torn_boxes w #[.int .i64 t, .int .i64 r, .int .i64 f, .int .i64 h] #[.int .i64 (t + 1), .int .i64 r', .int .i64 f', .int .i64 h'] #[.int .i64 x0, .int .i64 x1, .int .i64 x2] #[.int .i64 (t + 2), .int .i64 r, .int .i64 f, .int .i64 h]
  rw [← hW]
  clear hW
  have H0 := Lib.hid (And.intro q4 (And.intro q5 (And.intro q7 k0)))
  clear q4 q5 q7 k0
  refine (mRaw_yes (t + 1) r' f' h' W HO.out.1).mono ?_
  rintro e w1 ⟨b1, o1, c1, rfl, hF1, hk1⟩
  have r7 := H0.out.2.2.1.keeps hk1
  have H1 := Lib.hid (And.intro (H0.out.2.2.2.then_ hk1) (And.intro hF1 (And.intro (H0.out.1.keeps hk1) (And.intro (H0.out.2.1.keeps hk1) r7))))
  have c0 := r7.cell 0
  have c1 := r7.cell 1
  have c2 := r7.cell 2
  have c3 := r7.cell 3
  simp only [List.getElem?_toArray, List.getElem?_cons_zero, List.getElem?_cons_succ] at c0 c1 c2 c3
  have hz1 := hk1.size
  clear hk1 r7 hF1
  go_wp2_with fail
  refine (mRaw_yes (t + 2) r f h w1 HO.out.2).mono ?_
  rintro e w2 ⟨b, o, cc, rfl, hF, hk2⟩
  have hz2 := hk2.size
  have hlow := hF.low
  have hlt1 := H1.out.2.1.lt
  have hcm := hF.max
  have hcc := hF.cap
  obtain ⟨RL, hRL⟩ : ∃ RL, metaRaw (t + 2) r f h = RL := ⟨_, rfl⟩
  rw [hRL] at hF
  have HR := Lib.hid hRL
  have CV := hF.str
  have H2 := Lib.hid (And.intro (H1.out.1.then_ hk2) (And.intro (H1.out.2.1.keeps hk2) (And.intro (H1.out.2.2.1.keeps hk2) (And.intro (H1.out.2.2.2.1.keeps hk2) (And.intro (H1.out.2.2.2.2.keeps hk2) hF)))))
  clear hk2 hF hRL c0 c1 c2 c3
  go_wp2_with fail
  clear CV
  go_loopw [13] (fun i wr => ∃ j : Nat, j ≤ 3 ∧ i = .int .i64 j ∧ Full wr w1.heap.size b o cc (turns RL (three x0 x1 x2) j) ∧ Keeps w2 wr [b]) (fun i _ => 3 - (intOf i).toNat)
  case atStart => exact ⟨0, by omega, rfl, H2.out.2.2.2.2.2, Keeps.refl _ _⟩
  case round =>
    obtain ⟨j, hj, rfl, hF, hk⟩ := hrel
    have hrb := H2.out.2.2.2.1.keep hk (by simp; omega)
    have HF := Lib.hid (And.intro hF (And.intro hk hrb))
    by_cases hlt : j < 3
    · have hcell := hrb.cell j
      rw [three_cell x0 x1 x2 j hlt] at hcell
      have HT := Lib.hid (show turns RL (three x0 x1 x2) (j + 1) = turnBit (turns RL (three x0 x1 x2) j) (three x0 x1 x2 j) from rfl)
      generalize three x0 x1 x2 j = x at *
      clear hF hk hrb
      by_cases h0 : 0 ≤ x
      · have e0 : decide (0 ≤ x) = true := by simp [h0]
        by_cases h1 : x < 2048
        · have e1 : decide (x < 2048) = true := by simp [h1]
          obtain ⟨q, hq⟩ : ∃ q : Nat, x.toNat / 8 = q := ⟨_, rfl⟩
          obtain ⟨r, hr⟩ : ∃ r : Nat, x.toNat % 8 = r := ⟨_, rfl⟩
          have hq8 : q < 256 := by omega
          have hr8 : r < 8 := by omega
          have g1 : x / 8 = (q : Int) := by omega
          have g2 : x % 8 = (r : Int) := by omega
          have hcx := HF.out.1.cell q hq8
          have HQ := Lib.hid (And.intro hq hr)
          clear hq hr
          have hfz := HF.out.1.frozen (o + q)
          have g3 : x.tdiv 8 = (q : Int) := by rw [Int.tdiv_eq_ediv_of_nonneg h0]; exact g1
          have g4 : x.tmod 8 = (r : Int) := by rw [Int.tmod_eq_emod_of_nonneg h0]; exact g2
          have g7 : (q : Int) < 256 := by omega
          have g8 : (r : Int) < 8 := by omega
          have g5 : IntKind.i64.wrap (q : Int) = (q : Int) := IntWalk.i64_in _ (by omega)
          have g6 : IntKind.i64.wrap (r : Int) = (r : Int) := IntWalk.i64_in _ (by omega)
          go_wp2_with fail
          go_still_tail 14, (by kernel_rfl)
          go_wp2_with fail
          obtain ⟨hq, hr⟩ := HQ.out
          refine ⟨⟨j + 1, by omega, by go_num, ?_, (HF.out.2.1.trans (Keeps.setCell _ _ _) (by simp)).then_drew⟩, by simp [intOf]; omega⟩
          rw [HT.out]
          unfold turnBit
          rw [if_pos ⟨h0, h1⟩, hq, hr, xor_turn _ r hr8]
          exact (HF.out.1.set hq8 _).keep (Keeps.drew _) (by simp)
        · have e1 : decide (x < 2048) = false := by simp; omega
          go_wp2
          refine ⟨⟨j + 1, by omega, by go_num, ?_, HF.out.2.1⟩, by simp [intOf]; omega⟩
          rw [HT.out, turnBit_out _ _ (by omega)]
          exact HF.out.1
      · have e0 : decide (0 ≤ x) = false := by simpa using h0
        go_wp2
        refine ⟨⟨j + 1, by omega, by go_num, ?_, HF.out.2.1⟩, by simp [intOf]; omega⟩
        rw [HT.out, turnBit_out _ _ (by omega)]
        exact HF.out.1
    · obtain rfl : j = 3 := by omega
      have r4 := H2.out.2.2.1.keep hk (by simp; omega)
      have r7 := H2.out.2.2.2.2.1.keep hk (by simp; omega)
      have K := H2.out.1.trans hk (fun x hx hl => by simp at hx; omega)
      have hx1 := H2.out.2.1.keep hk (by simp; omega)
      have hl4 := r4.lt
      have hl7 := r7.lt
      have H3 := Lib.hid (And.intro K (And.intro hF (And.intro hx1 (And.intro r4 r7))))
      have u0 := r4.cell 0
      have u1 := r4.cell 1
      have u2 := r4.cell 2
      have u3 := r4.cell 3
      simp only [List.getElem?_toArray, List.getElem?_cons_zero, List.getElem?_cons_succ] at u0 u1 u2 u3
      have y0 := r7.cell 0
      have y1 := r7.cell 1
      have y2 := r7.cell 2
      have y3 := r7.cell 3
      simp only [List.getElem?_toArray, List.getElem?_cons_zero, List.getElem?_cons_succ] at y0 y1 y2 y3
      clear hF hk hrb r4 r7 K hx1 HF
      have HT := Lib.hid (show turns RL (three x0 x1 x2) 3 = turnBit (turnBit (turnBit RL x0) x1) x2 from rfl)
      have HWN := Lib.hid (whereOf_next t h0)
      by_cases hE : turns RL (three x0 x1 x2) 3 = RL
      · rw [hE] at H3
        have rr : (RL == RL) = true := by simp
        have rn : (RL != RL) = false := by simp
        have CV := fun (ob : Obj) => (H3.out.2.1.keep (Keeps.alloc wr ob) (by simp)).str
        have HS := Lib.hid (torn_same HO.out.1 HO.out.2)
        rw [HR.out] at HS
        clear hE HT
        go_wp2_with fail
        refine (where_any _ _).mono ?_
        rintro e w3 ⟨rfl, rfl⟩
        rcases HWN.out with ⟨hw0, hw1⟩ | ⟨hw0, hw1⟩
        · have HV := Lib.hid (HS.out.1 hw0 hw1)
          rw [hw0]
          clear hw0 hw1 CV
          go_wp2_with fail
          obtain ⟨W5, hW5⟩ : ∃ W', wr.alloc (.cells #[.int .i64 (t + 2), .int .i64 r, .int .i64 f, .int .i64 h] 49) = W' := ⟨_, rfl⟩
          have k5 : Keeps wr W5 [] := by rw [← hW5]; exact Keeps.alloc _ _
          have r5 : Row W5 wr.heap.size 49 #[.int .i64 (t + 2), .int .i64 r, .int .i64 f, .int .i64 h] := by rw [← hW5]; exact Row.new _ _ _
          rw [hW5]
          clear hW5
          refine (mCounts_full W5 _ b o cc _ b1 o1 c1 _ _ ((H3.out.2.1).keeps k5) ((H3.out.2.2.1).keeps k5)).mono ?_
          rintro e w6 ⟨rfl, hk6⟩
          rw [HV.out.1, HV.out.2]
          have q5 := r5.keeps hk6
          have H6 := Lib.hid (H3.out.1.then_ (k5.then_ hk6))
          have xa0 := q5.cell 0
          have xa1 := q5.cell 1
          have xa2 := q5.cell 2
          have xa3 := q5.cell 3
          simp only [List.getElem?_toArray, List.getElem?_cons_zero, List.getElem?_cons_succ] at xa0 xa1 xa2 xa3
          have l5 := q5.lt
          clear k5 r5 hk6 q5
          go_wp2_with fail
          refine (known6_any _).mono ?_
          rintro e w7 ⟨rfl, hk7⟩
          have H7 := Lib.hid ((H6.out.then_alloc _).then_ hk7)
          clear hk7
          go_wp2
          go_ret
          exact ⟨rfl, H7.out⟩
        · have HV := Lib.hid (HS.out.2 hw0 hw1)
          rw [hw0]
          clear hw0 hw1 CV
          go_wp2_with fail
          obtain ⟨W5, hW5⟩ : ∃ W', wr.alloc (.cells #[.int .i64 (t + 2), .int .i64 r, .int .i64 f, .int .i64 h] 49) = W' := ⟨_, rfl⟩
          have k5 : Keeps wr W5 [] := by rw [← hW5]; exact Keeps.alloc _ _
          have r5 : Row W5 wr.heap.size 49 #[.int .i64 (t + 2), .int .i64 r, .int .i64 f, .int .i64 h] := by rw [← hW5]; exact Row.new _ _ _
          rw [hW5]
          clear hW5
          refine (mCounts_full W5 _ b1 o1 c1 _ b o cc _ _ ((H3.out.2.2.1).keeps k5) ((H3.out.2.1).keeps k5)).mono ?_
          rintro e w6 ⟨rfl, hk6⟩
          rw [HV.out.1, HV.out.2]
          have q5 := r5.keeps hk6
          have H6 := Lib.hid (H3.out.1.then_ (k5.then_ hk6))
          have xa0 := q5.cell 0
          have xa1 := q5.cell 1
          have xa2 := q5.cell 2
          have xa3 := q5.cell 3
          simp only [List.getElem?_toArray, List.getElem?_cons_zero, List.getElem?_cons_succ] at xa0 xa1 xa2 xa3
          have l5 := q5.lt
          clear k5 r5 hk6 q5
          go_wp2_with fail
          refine (known6_any _).mono ?_
          rintro e w7 ⟨rfl, hk7⟩
          have H7 := Lib.hid ((H6.out.then_alloc _).then_ hk7)
          clear hk7
          go_wp2
          go_ret
          exact ⟨rfl, H7.out⟩
      · have hM := fun n hn => mpErr_turned HO.out.2 n hn x0 x1 x2 (by rw [HR.out]; exact hE)
        rw [HR.out, ← HT.out] at hM
        have HM := Lib.hid hM
        have HNE := Lib.hid hE
        clear hM hE HT
        generalize turns RL (three x0 x1 x2) 3 = L at *
        have n1 : (L == RL) = false := by simpa using HNE.out
        have n2 : (L != RL) = true := by simpa using HNE.out
        have CV := fun (ob : Obj) => (H3.out.2.1.keep (Keeps.alloc wr ob) (by simp)).str
        have HS := Lib.hid (torn_other HO.out.1 L HM.out)
        go_wp2_with fail
        refine (where_any _ _).mono ?_
        rintro e w3 ⟨rfl, rfl⟩
        rcases HWN.out with ⟨hw0, hw1⟩ | ⟨hw0, hw1⟩
        · have HV := Lib.hid (HS.out.1 hw1)
          rw [hw0]
          clear hw0 hw1 CV
          go_wp2_with fail
          obtain ⟨W5, hW5⟩ : ∃ W', wr.alloc (.cells #[.int .i64 (t + 1), .int .i64 r', .int .i64 f', .int .i64 h'] 49) = W' := ⟨_, rfl⟩
          have k5 : Keeps wr W5 [] := by rw [← hW5]; exact Keeps.alloc _ _
          have r5 : Row W5 wr.heap.size 49 #[.int .i64 (t + 1), .int .i64 r', .int .i64 f', .int .i64 h'] := by rw [← hW5]; exact Row.new _ _ _
          rw [hW5]
          clear hW5
          refine (mCounts_full W5 _ b o cc _ b1 o1 c1 _ _ ((H3.out.2.1).keeps k5) ((H3.out.2.2.1).keeps k5)).mono ?_
          rintro e w6 ⟨rfl, hk6⟩
          rw [HV.out.1, HV.out.2]
          have q5 := r5.keeps hk6
          have H6 := Lib.hid (H3.out.1.then_ (k5.then_ hk6))
          have xa0 := q5.cell 0
          have xa1 := q5.cell 1
          have xa2 := q5.cell 2
          have xa3 := q5.cell 3
          simp only [List.getElem?_toArray, List.getElem?_cons_zero, List.getElem?_cons_succ] at xa0 xa1 xa2 xa3
          have l5 := q5.lt
          clear k5 r5 hk6 q5
          go_wp2_with fail
          refine (known6_any _).mono ?_
          rintro e w7 ⟨rfl, hk7⟩
          have H7 := Lib.hid ((H6.out.then_alloc _).then_ hk7)
          clear hk7
          go_wp2
          go_ret
          exact ⟨rfl, H7.out⟩
        · have HV := Lib.hid (HS.out.2 hw1)
          rw [hw0]
          clear hw0 hw1 CV
          go_wp2_with fail
          obtain ⟨W5, hW5⟩ : ∃ W', wr.alloc (.cells #[.int .i64 (t + 1), .int .i64 r', .int .i64 f', .int .i64 h'] 49) = W' := ⟨_, rfl⟩
          have k5 : Keeps wr W5 [] := by rw [← hW5]; exact Keeps.alloc _ _
          have r5 : Row W5 wr.heap.size 49 #[.int .i64 (t + 1), .int .i64 r', .int .i64 f', .int .i64 h'] := by rw [← hW5]; exact Row.new _ _ _
          rw [hW5]
          clear hW5
          refine (mCounts_full W5 _ b1 o1 c1 _ b o cc _ _ ((H3.out.2.2.1).keeps k5) ((H3.out.2.1).keeps k5)).mono ?_
          rintro e w6 ⟨rfl, hk6⟩
          rw [HV.out.1, HV.out.2]
          have q5 := r5.keeps hk6
          have H6 := Lib.hid (H3.out.1.then_ (k5.then_ hk6))
          have xa0 := q5.cell 0
          have xa1 := q5.cell 1
          have xa2 := q5.cell 2
          have xa3 := q5.cell 3
          simp only [List.getElem?_toArray, List.getElem?_cons_zero, List.getElem?_cons_succ] at xa0 xa1 xa2 xa3
          have l5 := q5.lt
          clear k5 r5 hk6 q5
          go_wp2_with fail
          refine (known6_any _).mono ?_
          rintro e w7 ⟨rfl, hk7⟩
          have H7 := Lib.hid ((H6.out.then_alloc _).then_ hk7)
          clear hk7
          go_wp2
          go_ret
          exact ⟨rfl, H7.out⟩
theorem metaTorn_came (w : World) (t r f h t' r' f' h' x0 x1 x2 : Int) :
    Calls Try.prog 10 #[.agg #[.int .i64 t, .int .i64 r, .int .i64 f, .int .i64 h], .agg #[.int .i64 t', .int .i64 r', .int .i64 f', .int .i64 h'], .agg #[.int .i64 x0, .int .i64 x1, .int .i64 x2]] w fun e w' => e = .returned (.bool true) ∧ Keeps w w' [] := by
  by_cases ht : t < 0 ∨ 2305843009213693952 < t
  · exact metaTorn_far w t r f h t' r' f' h' x0 x1 x2 ht
  · cases hno : (metaOk (t + 1) r' f' h' && metaOk (t + 2) r f h)
    · exact metaTorn_no w t r f h t' r' f' h' x0 x1 x2 (by omega) (by omega) hno
    · obtain ⟨h1, h2⟩ := Bool.and_eq_true_iff.1 hno
      exact metaTorn_yes w t r f h t' r' f' h' x0 x1 x2 (by omega) (by omega) h1 h2
end Go.Proofs.Ythepcoifcoinoaa
