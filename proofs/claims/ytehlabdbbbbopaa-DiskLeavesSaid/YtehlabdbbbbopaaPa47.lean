/- The statement DiskLeaves (layer 2): its walk. -/
import Derived.Deep.DeepCutAuto
import Derived.Test.YtehlabdbbbbopaaPa46
import Derived.Test.YtehlabdbbbbopaaPa41

namespace Go.Proofs.Ytehlabdbbbbopaa
open Go.RowKit Go.Maps Go.Shelf

set_option maxRecDepth 100000 in
set_option maxHeartbeats 4000000 in
theorem diskLeaves_far (w : World) (x : Int) (A B : Option Addr) (c d n m : Nat) (h : (40 : Int) < n ∨ (60 : Int) < m ∨ 20 < x) :
    Calls Try.prog 6 #[.int .i64 x, .slice A n c, .slice B m d] w fun e w' => e = .returned (.bool true) ∧ Keeps w w' [] := by
  by_cases h1 : (40 : Int) < n
  · clear h
    go_enter Try.func6, Try.ntmps6
    go_wp2_with fail
    refine (known2_go (Keeps.refl w [])).mono ?_
    rintro e w' ⟨rfl, hk⟩
    have HK := Lib.hid hk
    clear hk
    go_wp2_with fail
    go_ret
    exact ⟨rfl, HK.out⟩
  · by_cases h2 : (60 : Int) < m
    · clear h
      go_enter Try.func6, Try.ntmps6
      go_wp2_with fail
      refine (known2_go (Keeps.refl w [])).mono ?_
      rintro e w' ⟨rfl, hk⟩
      have HK := Lib.hid hk
      clear hk
      go_wp2_with fail
      go_ret
      exact ⟨rfl, HK.out⟩
    · have h3 : 20 < x := by omega
      clear h
      go_enter Try.func6, Try.ntmps6
      go_wp2_with fail
      refine (known2_go (Keeps.refl w [])).mono ?_
      rintro e w' ⟨rfl, hk⟩
      have HK := Lib.hid hk
      clear hk
      go_wp2_with fail
      go_ret
      exact ⟨rfl, HK.out⟩
set_option maxRecDepth 100000 in
set_option maxHeartbeats 4000000 in
theorem diskLeaves_none (w : World) (x : Int) (A B : Option Addr) (c d n m : Nat) (h1 : ¬ (40 : Int) < n) (h2 : ¬ (60 : Int) < m) (h3 : x < 2) :
    Calls Try.prog 6 #[.int .i64 x, .slice A n c, .slice B m d] w fun e w' => e = .returned (.bool true) ∧ Keeps w w' [] := by
  have HX := Lib.hid (show ¬ (2 ≤ x ∧ x ≤ 4096) by omega)
  have h4 : ¬ 20 < x := by omega
  clear h3
  go_enter Try.func6, Try.ntmps6
  go_wp2_with fail
  refine (dkNew_bad w x HX.out).mono ?_
  rintro e w1 ⟨rfl, hk⟩
  have H1 := Lib.hid hk
  clear hk
  go_wp2_with fail
  refine (known2_go H1.out).mono ?_
  rintro e w' ⟨rfl, hk⟩
  have HK := Lib.hid hk
  clear hk
  go_wp2_with fail
  go_ret
  exact ⟨rfl, HK.out⟩
/-- What stands while calls are made. -/
structure LvSt (w w1 wr : World) (d n m bl bw : Nat) (D : Dk) (VL VW : Nat → Value) (Ls Ws : Nat → List (List UInt8)) : Prop where
  dk : DkIn w wr d D
  rel : ∃ R, DkRk D R
  pg : D.pages = n
  wl : D.waits.length ≤ m
  ar : LvAt w1.heap.size wr bl bw VL VW Ls Ws
  inv : LvInv D m Ls Ws
  sz : w1.heap.size ≤ wr.heap.size
/-- .. behind a call, what was written noted, what lasts not yet. -/
structure LvMid (w w1 wr : World) (d n m bl bw : Nat) (D : Dk) (VL VW : Nat → Value) (Ls Ws : Nat → List (List UInt8)) : Prop where
  dk : DkIn w wr d D
  ar : LvAt w1.heap.size wr bl bw VL VW Ls Ws
  sz : w1.heap.size ≤ wr.heap.size
theorem LvMid.keeps {w w1 wr wr' : World} {d n m bl bw : Nat} {D : Dk} {VL VW : Nat → Value} {Ls Ws : Nat → List (List UInt8)} (h : LvMid w w1 wr d n m bl bw D VL VW Ls Ws) (hk : Keeps wr wr' []) : LvMid w w1 wr' d n m bl bw D VL VW Ls Ws :=
  ⟨h.dk.keeps hk, h.ar.keeps hk, Nat.le_trans h.sz hk.size⟩
set_option maxRecDepth 100000 in
set_option maxHeartbeats 16000000 in
theorem diskLeaves_some (w : World) (n : Nat) (A B : Option Addr) (c d : Nat) (acts : List ActV) (picks : List Int) (ha : CameD w A c acts) (hp : CameI w B d picks) (h1 : ¬ (40 : Int) < acts.length) (h2 : ¬ (60 : Int) < picks.length) (h3 : 2 ≤ n) (h4 : n ≤ 20) :
    Calls Try.prog 6 #[.int .i64 (n : Int), .slice A acts.length c, .slice B picks.length d] w fun e w' => e = .returned (.bool true) ∧ Keeps w w' [] := by
  have HA := Lib.hid (And.intro ha hp)
  have HN := Lib.hid (And.intro h3 h4)
  have h5 : ¬ (20 : Int) < n := by omega
  clear ha hp h3 h4
  go_enter Try.func6, Try.ntmps6
  go_wp2_with fail
  refine (dkNew_good w n (by have := HN.out; omega)).mono ?_
  rintro e w1 ⟨d0, rfl, hN⟩
  rw [Int.toNat_natCast] at hN
  obtain ⟨W0, hW0⟩ : ∃ x, (w1.alloc (.cells #[nilV, nilV, nilV, nilV, nilV, nilV, nilV, nilV, nilV, nilV, nilV, nilV, nilV, nilV, nilV, nilV, nilV, nilV, nilV, nilV] 56)).alloc (.cells #[nilV, nilV, nilV, nilV, nilV, nilV, nilV, nilV, nilV, nilV, nilV, nilV, nilV, nilV, nilV, nilV, nilV, nilV, nilV, nilV] 56) = x := ⟨_, rfl⟩
  have hl0 : Row W0 w1.heap.size 56 (cells20 fun _ => nilV) := by
    rw [← hW0, cells20_nil]
    exact (Row.new _ _ _).alloc _
  have hw0 : Row W0 (w1.heap.size + 1) 56 (cells20 fun _ => nilV) := by
    rw [← hW0, cells20_nil]
    have := Row.new (w1.alloc (.cells (cells20 fun _ => nilV) 56)) 56 (cells20 fun _ => nilV)
    rwa [World.size_alloc] at this
  have hk0 : Keeps w1 W0 [] := by rw [← hW0]; exact (Keeps.alloc _ _).then_alloc _
  have HP := Lib.hid (show LvMid w w1 W0 d0 n 0 w1.heap.size (w1.heap.size + 1) (Dk.fresh n) (fun _ => nilV) (fun _ => nilV) (fun _ => []) (fun _ => []) from
    ⟨hN.keeps hk0, ⟨hl0, hw0, by omega, fun _ => OwnN.nil _ _ _ _ _, fun _ => OwnN.nil _ _ _ _ _, fun j k g hg => by simp [Value.ownBlock] at hg⟩, hk0.size⟩)
  have hbw1 := hN.h.size
  obtain ⟨bl, hbl⟩ : ∃ bl, w1.heap.size = bl := ⟨_, rfl⟩
  have HBL := Lib.hid (show w.heap.size ≤ bl ∧ w1.heap.size = bl by rw [← hbl]; exact ⟨hbw1, rfl⟩)
  obtain ⟨bw, hbw⟩ : ∃ bw, bl + 1 = bw := ⟨_, rfl⟩
  have HBW := Lib.hid (show w.heap.size ≤ bw ∧ bl ≠ bw by omega)
  rw [hbl, hbw] at HP
  obtain ⟨Z, hZ⟩ : ∃ Z, noTxts n = Z := ⟨_, rfl⟩
  have hmk := mk_txts (n := n)
  rw [hZ] at hmk
  have HMK := Lib.hid (show ∀ w : World, (Instr.makeSlice 40 (.int .i64 (n : Int)) (.int .i64 (n : Int))).run Try.prog w = .ok (.slice (some ⟨w.heap.size, 0, none⟩) n n) (w.alloc (.cells Z 9)) from fun w => hmk w (by have := HN.out; omega))
  have HZ := Lib.hid hZ
  clear hmk hZ hl0 hw0 hk0 hN hbw1
  go_wp2_with fail
  clear hW0 hbl hbw
  go_loopw [11] (fun i wr => ∃ k : Nat, k ≤ n ∧ i = .int .i64 k ∧ Hid (∃ VL, LvMid w w1 wr d0 n 0 bl bw (Dk.fresh n) VL (fun _ => nilV) (fun j => if j < k then [nought] else []) (fun _ => []))) (fun i _ => n - (intOf i).toNat)
  case atStart => exact ⟨0, by omega, rfl, Lib.hid ⟨_, HP.out.dk, HP.out.ar.congr (by funext j; simp) rfl, HP.out.sz⟩⟩
  case round =>
    clear HP
    obtain ⟨k, hk, rfl, HR⟩ := hrel
    have hn20 := HN.out.2
    by_cases hkn : k < n
    · obtain ⟨VL, HR⟩ := HR.out
      have HR := Lib.hid HR
      have hk20 : (k : Int) < 20 := by omega
      have hmk : ∀ w : World, (Instr.makeSlice 32 (.int .i64 256) (.int .i64 256)).run Try.prog w = .ok (.slice (some ⟨w.heap.size, 0, none⟩) 256 256) (w.alloc (.cells (leafC (List.replicate 256 0)) 5)) := fun w => mk_bytes w 256 (by omega)
      obtain ⟨Z2, hZ2⟩ : ∃ Z, leafC (List.replicate 256 0) = Z := ⟨_, rfl⟩
      rw [hZ2] at hmk
      obtain ⟨Wa, hWa⟩ : ∃ Wa, wr.alloc (.cells Z2 5) = Wa := ⟨_, rfl⟩
      have hka : Keeps wr Wa [] := by rw [← hWa]; exact Keeps.alloc _ _
      have hcv : (convert 32 9 (.slice (some ⟨wr.heap.size, 0, none⟩) 256 256)).run Try.prog Wa = .ok (.string ⟨nought.toArray⟩) Wa := by
        have hl : Lies Wa Wa.heap.size (some ⟨wr.heap.size, 0, none⟩) (nought.map byteV) := by
          rw [← hWa, ← hZ2]
          exact lies_of_row (Row.new _ _ _) (by simp [leafC, nought])
        have := conv_str Wa _ _ 256 nought hl
        rwa [nought_length] at this
      have HM := Lib.hid (HR.out.keeps hka)
      obtain ⟨VL', g1, g2, g3⟩ := lv_new HM.out.ar HM.out.dk HM.out.sz HBL.out.1 k nought
      obtain ⟨S, hS⟩ : ∃ S : ByteArray, (⟨nought.toArray⟩ : ByteArray) = S := ⟨_, rfl⟩
      rw [hS] at hcv g1 g2 g3
      obtain ⟨Wb, hWb⟩ : ∃ Wb, Wa.alloc (.cells #[.string S] 9) = Wb := ⟨_, rfl⟩
      have hkb : Keeps Wa Wb [] := by rw [← hWb]; exact Keeps.alloc _ _
      obtain ⟨⟨c1, z1⟩, -⟩ := (HM.out.ar.keeps hkb).cells (i := k) (by omega)
      rw [hWb] at g1 g2 g3
      obtain ⟨We, hWe⟩ : ∃ We, Wb.setCell ⟨bl, k, none⟩ (.slice (some ⟨Wa.heap.size, 0, none⟩) 1 1) = We := ⟨_, rfl⟩
      rw [hWe] at g1 g2 g3
      have HE := Lib.hid (show LvMid w w1 We d0 n 0 bl bw (Dk.fresh n) VL' (fun _ => nilV) (fun j => if j < k + 1 then [nought] else []) (fun _ => []) from
        ⟨g2, g1.congr (lv_upto k (fun _ => [nought]) (fun _ => [])) rfl, g3⟩)
      clear g1 g2 g3 hka hkb hZ2 hS
      go_wp2_with fail
      exact ⟨⟨k + 1, by omega, by go_num, Lib.hid ⟨_, HE.out⟩⟩, by simp [intOf]; omega⟩
    · obtain rfl : k = n := by omega
      obtain ⟨VL0, HR0⟩ := HR.out
      have HP := Lib.hid (show ∃ D VL VW Ls Ws, LvSt w w1 wr d0 k 0 bl bw D VL VW Ls Ws from ⟨_, _, _, _, _, HR0.dk, ⟨_, DkRk.fresh k⟩, rfl, Nat.le_refl _, HR0.ar, ⟨fun j hj => by simp only [if_pos (show j < k from hj)]; rfl, fun j _ b hb => (by cases hb), fun j => ⟨fun b hb => (by cases hb), Nat.le_refl _⟩⟩, HR0.sz⟩)
      clear HR HR0
      go_wp2_with fail
      go_loopw [12] (fun i wr => ∃ m : Nat, m ≤ acts.length ∧ i = .int .i64 m ∧ Hid (∃ D VL VW Ls Ws, LvSt w w1 wr d0 k m bl bw D VL VW Ls Ws)) (fun i _ => acts.length - (intOf i).toNat)
      case atStart => exact ⟨0, by omega, rfl, HP⟩
      case round =>
        clear HP
        obtain ⟨m, hm, rfl, HR⟩ := hrel
        have hal := h1
        obtain ⟨D, VL, VW, Ls, Ws, HR⟩ := HR.out
        have HR := Lib.hid HR
        by_cases hml : m < acts.length
        ·
          obtain ⟨ba, oa, rfl, hba, hcl⟩ := HA.out.1.lies (by omega)
          have hc := hcl m hml
          obtain ⟨x, hx⟩ : ∃ x, acts[m] = x := ⟨_, rfl⟩
          rw [hx] at hc
          have hxo : x.ok := by rw [← hx]; exact HA.out.1.r _ (List.getElem_mem hml)
          have HX := Lib.hid hxo
          have hkw := HR.out.dk.h
          have MC0 := fun (W' : World) (hW : Keeps wr W' []) => ((hkw.then_ hW).cell (p := ⟨ba, oa + m * 4, none⟩) hba (by simp)).trans hc.1
          have MC1 := fun (W' : World) (hW : Keeps wr W' []) => ((hkw.then_ hW).cell (p := ⟨ba, oa + m * 4 + 1, none⟩) hba (by simp)).trans hc.2.1
          have MC2 := fun (W' : World) (hW : Keeps wr W' []) => ((hkw.then_ hW).cell (p := ⟨ba, oa + m * 4 + 2, none⟩) hba (by simp)).trans hc.2.2.1
          have MC3 := fun (W' : World) (hW : Keeps wr W' []) => ((hkw.then_ hW).cell (p := ⟨ba, oa + m * 4 + 3, none⟩) hba (by simp)).trans hc.2.2.2
          have HMC := Lib.hid (show ∀ W' : World, Keeps w W' [] → W'.cell? ⟨ba, oa + m * 4, none⟩ = some (.int .i64 x.k) ∧ W'.cell? ⟨ba, oa + m * 4 + 1, none⟩ = some (.int .i64 x.page) from fun W' hW =>
            ⟨(hW.cell (p := ⟨ba, oa + m * 4, none⟩) hba (by simp)).trans hc.1, (hW.cell (p := ⟨ba, oa + m * 4 + 1, none⟩) hba (by simp)).trans hc.2.1⟩)
          clear hx hxo hc hcl hkw
          obtain ⟨D', hD'⟩ : ∃ y, (D.act x).2 = y := ⟨_, rfl⟩
          have HD0 := Lib.hid hD'
          have HLK := Lib.hid (show LightK [⟨8, [0, 1, 2, 3, 4, 5, 6, 7], [9, 10, 11]⟩] (KeepsOld w) (oneA 8 KeepsAll) from .one (KeepsOld.ok w) keepsAll_ok)
          clear hD'
          go_wp2_with fail
          refine wp_region_writersL [⟨8, [0, 1, 2, 3, 4, 5, 6, 7], [9, 10, 11]⟩] (KeepsOld w) (oneA 8 KeepsAll) _ 12 HLK.out (by kernel_rfl) rfl (by kernel_rfl) ?_
          simp only [List.take_succ_cons, List.take_zero, List.drop_succ_cons, List.drop_zero]
          apply loosek_is 0 _ rfl
          · intro W vals hW hkn
            clear hkn
            have hC := hW.c
            refine ⟨?_⟩
            simp only [fill]
            go_simp
            first | exact ⟨HLK.out.stp (Keeps.refl _ _), rfl⟩ | exact ⟨HLK.out.stp (Keeps.alloc _ _), rfl⟩
          simp only [addEnt]
          apply loosek_is 1 _ rfl
          · intro W vals hW hkn
            clear hkn
            have hC := hW.c
            refine ⟨?_⟩
            simp only [fill]
            go_simp
            first | exact ⟨HLK.out.stp (Keeps.refl _ _), rfl⟩ | exact ⟨HLK.out.stp (Keeps.alloc _ _), rfl⟩
          simp only [addEnt]
          refine loosek_has 2 (fun v W' => ∃ b, v = .slice (some ⟨b, 0, none⟩) k k ∧ Row W' b 9 Z) rfl (fun W vals hW hkn φ' hφ => ?_) ?_
          · have hC := hW.c
            simp only [knowsK] at hkn
            try simp only [and_true] at hkn
            clear hkn hC hW; have hmk := HMK.out W
            refine ⟨?_⟩
            simp only [fill]
            go_simp
            exact ⟨HLK.out.stp (Keeps.alloc _ _), hφ.out _ _ ⟨_, rfl, Row.new _ _ _⟩⟩
          simp only [addEnt]
          refine loosek_has 3 (fun v W' => ∃ b, v = .agg #[.slice (some ⟨b, 0, none⟩) k k, .slice none 0 0, .int .i64 0, .int .i64 0, .bool false, .int .i64 0] ∧ Row W' b 9 Z) rfl (fun W vals hW hkn φ' hφ => ?_) ?_
          · have hC := hW.c
            simp only [knowsK] at hkn
            try simp only [and_true] at hkn
            obtain ⟨W0, h0, h1, b, hv, hr⟩ := hkn (by decide); have HRW := Lib.hid (hr.keeps (BtwK.one h1 (.inr (.inr (.inr (show (3 : Nat) ∈ [0, 1, 2, 3, 4, 5, 6, 7] by decide)))))); clear hkn h0 h1 hr hC hW
            refine ⟨?_⟩
            simp only [fill]
            go_simp
            exact ⟨HLK.out.stp (Keeps.refl _ _), hφ.out _ _ ⟨b, rfl, HRW.out⟩⟩
          simp only [addEnt]
          apply loosek_is 4 _ rfl
          · intro W vals hW hkn
            clear hkn
            have hC := hW.c
            refine ⟨?_⟩
            simp only [fill]
            go_simp
            first | exact ⟨HLK.out.stp (Keeps.refl _ _), rfl⟩ | exact ⟨HLK.out.stp (Keeps.alloc _ _), rfl⟩
          simp only [addEnt]
          apply loosek_is 5 _ rfl
          · intro W vals hW hkn
            clear hkn
            have hC := hW.c
            refine ⟨?_⟩
            simp only [fill]
            go_simp
            first | exact ⟨HLK.out.stp (Keeps.refl _ _), rfl⟩ | exact ⟨HLK.out.stp (Keeps.alloc _ _), rfl⟩
          simp only [addEnt]
          apply loosek_is 6 _ rfl
          · intro W vals hW hkn
            clear hkn
            have hC := hW.c
            refine ⟨?_⟩
            simp only [fill]
            go_simp
            first | exact ⟨HLK.out.stp (Keeps.refl _ _), rfl⟩ | exact ⟨HLK.out.stp (Keeps.alloc _ _), rfl⟩
          simp only [addEnt]
          apply loosek_is 7 _ rfl
          · intro W vals hW hkn
            have hC := hW.c
            simp only [knowsK] at hkn
            try simp only [and_true] at hkn
            have hk7 := PreK.one hW (.inr (show (7 : Nat) ∈ [0, 1, 2, 3, 4, 5, 6, 7] by decide)); have e0 := MC0 W hk7; have e1 := MC1 W hk7; have e2 := MC2 W hk7; have e3 := MC3 W hk7; clear hkn hk7 hC hW
            refine ⟨?_⟩
            simp only [fill]
            go_simp
            first | exact ⟨HLK.out.stp (Keeps.refl _ _), rfl⟩ | exact ⟨HLK.out.stp (Keeps.alloc _ _), rfl⟩
          simp only [addEnt]
          refine loosek_has 8 (fun v W' => ∃ g' bb, v = .tuple #[g', .bool bb] ∧ LvMid w w1 W' d0 k m bl bw D' VL VW Ls Ws) rfl (fun W vals hW hkn φ' hφ => ?_) ?_
          · have hC := hW.c
            simp only [knowsK] at hkn
            try simp only [and_true] at hkn
            obtain ⟨W3, g1, g2, b3, hv3, hr3⟩ := hkn.1 (by decide); have hk8 := PreK.one hW (.inl rfl); have hr3' := hr3.keeps (BtwK.one g2 (.inr (.inr (.inl rfl)))); rw [← HZ.out] at hr3'; have HB := Lib.hid (And.intro (HR.out.dk.keeps hk8) (And.intro (show RkAt W _ (Rk.bare k) from rkAt_bare hr3') (And.intro (HR.out.ar.keeps hk8) (Nat.le_trans HR.out.sz hk8.size)))); have hs0 := HB.out.1.row; clear g1 g2 hr3 hr3' hk8 hkn hC hW
            refine ⟨?_⟩
            simp only [fill]
            go_simp
            ((with_reducible refine loosek_writes HLK.out hφ ?_); refine (does2_any (DkSense.one w d0) W _ HB.out.1 _ (Rk.bare k) HB.out.2.1 x HX.out (by have := HR.out.wl; omega) (RkFit.bare (by have := HN.out; omega))).mono ?_; intro e w5 hpo; unfold DoesPost at hpo; obtain ⟨g', rfl, -, hp', hro⟩ := hpo; rw [HD0.out] at hp'; exact ⟨_, rfl, .one (fun _ => hp'.h) (fun h => absurd rfl h), _, _, rfl, hp', (by obtain ⟨cs, hcs⟩ := hs0; exact HB.out.2.2.1.rows hro hcs), Nat.le_trans HB.out.2.2.2 hro.size⟩)
          simp only [addEnt]
          refine loosek_has 9 (fun v W' => ∃ g' bb, v = .tuple #[g', .bool bb]) rfl (fun W vals hW hkn φ' hφ => ?_) ?_
          · have hC := hW.c
            simp only [knowsK] at hkn
            try simp only [and_true] at hkn
            obtain ⟨W1, h0, h1, g', bb, hv, -⟩ := hkn.1 (by decide); clear hkn h0 h1 hC hW
            refine ⟨?_⟩
            simp only [fill]
            go_simp
            exact ⟨HLK.out.stp (Keeps.refl _ _), hφ.out _ _ ⟨_, _, rfl⟩⟩
          simp only [addEnt]
          refine loosek_has 10 (fun _ _ => True) rfl (fun W vals hW hkn φ' hφ => ?_) ?_
          · have hC := hW.c
            simp only [knowsK] at hkn
            try simp only [and_true] at hkn
            obtain ⟨W1, h0, h1, g', bb, hv⟩ := hkn.1 (by decide); clear hkn h0 h1 hC hW
            refine ⟨?_⟩
            simp only [fill]
            go_simp
            exact ⟨HLK.out.stp (Keeps.refl _ _), hφ.out _ _ trivial⟩
          simp only [addEnt]
          refine loosek_has 11 (fun _ _ => True) rfl (fun W vals hW hkn φ' hφ => ?_) ?_
          · have hC := hW.c
            simp only [knowsK] at hkn
            try simp only [and_true] at hkn
            obtain ⟨W1, h0, h1, g', bb, hv⟩ := hkn.2.1 (by decide); clear hkn h0 h1 hC hW
            refine ⟨?_⟩
            simp only [fill]
            go_simp
            exact ⟨HLK.out.stp (Keeps.refl _ _), hφ.out _ _ trivial⟩
          simp only [addEnt]
          refine loosek_nil (fun W9 vals hW hkn => ?_)
          simp only [knowsAllK] at hkn
          try simp only [and_true] at hkn
          simp only [fill, Act.put, List.setIfInBounds_toArray, List.set_cons_succ, List.set_cons_zero]
          have H5 := Lib.hid (show LvMid w w1 W9 d0 k m bl bw D' VL VW Ls Ws from by
            obtain ⟨W1, a0, a1, g', bb, hv, hmid⟩ := hkn.2.2.2.1
            exact hmid.keeps (PostK.one a1 (.inl rfl)))
          have HD := Lib.hid (show (∃ R, DkRk D' R) ∧ D'.pages = k ∧ D'.waits.length ≤ m + 1 ∧ (∀ j, (∀ b ∈ wrNote D' x Ws j, b.length = 256) ∧ (wrNote D' x Ws j).length ≤ m + 1) ∧ (D'.waits ≠ [] → LvInv D' (m + 1) Ls (wrNote D' x Ws)) from by
            obtain ⟨R, hR⟩ := HR.out.rel
            have hok := H5.out.dk.ok
            rw [← HD0.out] at hok
            have hi := HR.out.inv.act x hok
            have ha := act_leaf D x
            rw [← HD0.out]
            refine ⟨⟨(R.act x).2, (hR.act HR.out.dk.ok x).2⟩, ha.2.1.trans HR.out.pg, ?_, hi.1, hi.2⟩
            have := (D.act_size x).1
            have := HR.out.wl
            omega)
          have HR1 := Lib.hid (show ∀ j, (Ws j).length ≤ 40 from fun j => by have := (HR.out.inv.n j).2; omega)
          obtain ⟨w5, hw5⟩ : ∃ w5, w5 = W9 := ⟨_, rfl⟩
          subst hw5
          clear hkn hW HR MC0 MC1 MC2 MC3
          go_upto_region 15 with fail
          go_cut [100] (fun v wx => wx = w5 ∧ ∃ bb : Bool, v = .bool bb ∧ Hid (bb = true ↔ x.k = 1 ∧ 0 ≤ x.page ∧ x.page < k))
          case first =>
            obtain ⟨c0, c1⟩ := HMC.out w5 H5.out.dk.h
            by_cases q1 : x.k = 1
            · have n1 : (x.k == 1) = true := by simpa using q1
              by_cases q2 : 0 ≤ x.page
              · by_cases q3 : x.page < k
                · have HBB := Lib.hid (show true = true ↔ x.k = 1 ∧ 0 ≤ x.page ∧ x.page < k from ⟨fun _ => ⟨q1, q2, q3⟩, fun _ => rfl⟩)
                  clear q1
                  go_wp2_with fail
                  go_meet
                  case rel => exact ⟨rfl, _, rfl, Lib.hid (by simpa using HBB.out)⟩
                · have HBB := Lib.hid (show false = true ↔ x.k = 1 ∧ 0 ≤ x.page ∧ x.page < k from ⟨fun h => absurd h Bool.false_ne_true, fun h => absurd h.2.2 q3⟩)
                  clear q1
                  go_wp2_with fail
                  go_meet
                  case rel => exact ⟨rfl, _, rfl, Lib.hid (by simpa using HBB.out)⟩
              · have HBB := Lib.hid (show false = true ↔ x.k = 1 ∧ 0 ≤ x.page ∧ x.page < k from ⟨fun h => absurd h Bool.false_ne_true, fun h => absurd h.2.1 q2⟩)
                clear q1
                go_wp2_with fail
                go_meet
                case rel => exact ⟨rfl, _, rfl, Lib.hid (by simpa using HBB.out)⟩
            · have n1 : (x.k == 1) = false := by simpa using q1
              have HBB := Lib.hid (show false = true ↔ x.k = 1 ∧ 0 ≤ x.page ∧ x.page < k from ⟨fun h => absurd h Bool.false_ne_true, fun h => absurd h.1 q1⟩)
              clear q1
              go_wp2_with fail
              go_meet
              case rel => exact ⟨rfl, _, rfl, Lib.hid (by simpa using HBB.out)⟩
          case rest =>
            obtain ⟨rfl, bb, rfl, HBB⟩ := hcut
            go_upto_if 100 with fail
            go_cut [] (fun wx => ∃ VW', Hid (LvMid w w1 wx d0 k m bl bw D' VL VW' Ls (wrNote D' x Ws)))
            case first =>
              cases bb with
              | false =>
                have HWN := Lib.hid (show wrNote D' x Ws = Ws by
                  unfold wrNote
                  rw [HD.out.2.1, if_neg (fun h => absurd (HBB.out.2 h) Bool.false_ne_true)])
                go_wp2_with fail
                go_meet
                case rel => exact ⟨VW, Lib.hid ⟨H5.out.dk, H5.out.ar.congr rfl HWN.out.symm, H5.out.sz⟩⟩
              | true =>
                obtain ⟨-, hq0, hqk⟩ := HBB.out.1 rfl
                obtain ⟨q, hq⟩ : ∃ q : Nat, x.page = q := ⟨x.page.toNat, by omega⟩
                have HWN := Lib.hid (show wrNote D' x Ws = fun j => if j = q then Ws q ++ [D'.page q] else Ws j by
                  unfold wrNote
                  rw [HD.out.2.1, if_pos (HBB.out.1 rfl), hq, Int.toNat_natCast]
                  funext j
                  by_cases hj : j = q
                  · rw [if_pos hj, if_pos hj, hj]
                  · rw [if_neg hj, if_neg hj])
                have hqk' : q < k := by omega
                have hq20 : (q : Int) < 20 := by have := HN.out.2; omega
                have HQ := Lib.hid (And.intro hqk' (show q < 20 by have := HN.out.2; omega))
                obtain ⟨c0, c1⟩ := HMC.out wc H5.out.dk.h
                rw [hq] at c1
                have HMQ := Lib.hid (show ∀ W' : World, Keeps w W' [] → W'.cell? ⟨ba, oa + m * 4 + 1, none⟩ = some (.int .i64 (q : Int)) from fun W' hW => by rw [← hq]; exact (HMC.out W' hW).2)
                clear hq hq0 hqk hqk'
                go_wp2_with fail
                refine (dkRead_dk H5.out.dk (q : Int)).mono ?_
                rintro e v1 ⟨hk1, hv⟩
                rw [if_pos (by rw [HD.out.2.1]; have := HQ.out; omega)] at hv
                obtain ⟨va, rfl, hOa⟩ := hv
                obtain ⟨Aa, ca, rfl, -, -, -, hLa⟩ := hOa.parts
                have hla := Dk.page_length H5.out.dk.ok (q : Int)
                rw [hla]
                obtain ⟨pg, hpg⟩ : ∃ pg, D'.page (q : Int) = pg := ⟨_, rfl⟩
                rw [hpg] at hLa hla HWN
                have HL := Lib.hid (And.intro hLa hla)
                have H6 := Lib.hid (H5.out.keeps hk1)
                obtain ⟨AW, cW, eW⟩ := (H5.out.ar.slices q).2
                have HEW := Lib.hid eW
                have MW := fun (W' : World) (hW : Keeps v1 W' []) => by
                  have := ((H6.out.ar.keeps hW).cells (i := q) HQ.out.2).2
                  rw [eW] at this
                  exact this.1
                have HCV := Lib.hid (show ∀ W : World, Keeps v1 W [] → (convert 32 9 (.slice Aa 256 ca)).run Try.prog W = .ok (.string ⟨pg.toArray⟩) W from fun W hk => by
                  have := conv_str W _ Aa ca pg (HL.out.1.keep hk (Nat.le_refl _) (by simp))
                  rwa [HL.out.2] at this)
                have HLK := Lib.hid (show LightK [⟨15, [5, 6, 7, 8, 9, 10, 11, 12, 13, 14], []⟩] (KeepsOld w) (oneA 15 KeepsAll) from .one (KeepsOld.ok w) keepsAll_ok)
                have HSZ := Lib.hid (show (Ws q).length ≤ 100000 by have := (HR1.out q); omega)
                clear hLa hla hk1 eW hpg c0 c1
                go_wp2_with fail
                refine wp_region_writersL [⟨15, [5, 6, 7, 8, 9, 10, 11, 12, 13, 14], []⟩] (KeepsOld w) (oneA 15 KeepsAll) _ 16 HLK.out (by kernel_rfl) rfl (by kernel_rfl) ?_
                simp only [List.take_succ_cons, List.take_zero, List.drop_succ_cons, List.drop_zero]
                apply loosek_is 0 _ rfl
                · intro W vals hW hkn
                  clear hkn
                  have hC := hW.c
                  refine ⟨?_⟩
                  simp only [fill]
                  go_simp
                  first | exact ⟨HLK.out.stp (Keeps.refl _ _), rfl⟩ | exact ⟨HLK.out.stp (Keeps.alloc _ _), rfl⟩
                simp only [addEnt]
                apply loosek_is 1 _ rfl
                · intro W vals hW hkn
                  clear hkn
                  have hC := hW.c
                  refine ⟨?_⟩
                  simp only [fill]
                  go_simp
                  first | exact ⟨HLK.out.stp (Keeps.refl _ _), rfl⟩ | exact ⟨HLK.out.stp (Keeps.alloc _ _), rfl⟩
                simp only [addEnt]
                apply loosek_is 2 _ rfl
                · intro W vals hW hkn
                  clear hkn
                  have hC := hW.c
                  refine ⟨?_⟩
                  simp only [fill]
                  go_simp
                  first | exact ⟨HLK.out.stp (Keeps.refl _ _), rfl⟩ | exact ⟨HLK.out.stp (Keeps.alloc _ _), rfl⟩
                simp only [addEnt]
                apply loosek_is 3 _ rfl
                · intro W vals hW hkn
                  clear hkn
                  have hC := hW.c
                  refine ⟨?_⟩
                  simp only [fill]
                  go_simp
                  first | exact ⟨HLK.out.stp (Keeps.refl _ _), rfl⟩ | exact ⟨HLK.out.stp (Keeps.alloc _ _), rfl⟩
                simp only [addEnt]
                apply loosek_is 4 _ rfl
                · intro W vals hW hkn
                  have hC := hW.c
                  simp only [knowsK] at hkn
                  try simp only [and_true] at hkn
                  have mc := HMQ.out W (hC H6.out.dk.h); clear hkn hC hW
                  refine ⟨?_⟩
                  simp only [fill]
                  go_simp
                  first | exact ⟨HLK.out.stp (Keeps.refl _ _), rfl⟩ | exact ⟨HLK.out.stp (Keeps.alloc _ _), rfl⟩
                simp only [addEnt]
                apply loosek_is 5 _ rfl
                · intro W vals hW hkn
                  clear hkn
                  have hC := hW.c
                  refine ⟨?_⟩
                  simp only [fill]
                  go_simp
                  first | exact ⟨HLK.out.stp (Keeps.refl _ _), rfl⟩ | exact ⟨HLK.out.stp (Keeps.alloc _ _), rfl⟩
                simp only [addEnt]
                apply loosek_is 6 _ rfl
                · intro W vals hW hkn
                  clear hkn
                  have hC := hW.c
                  refine ⟨?_⟩
                  simp only [fill]
                  go_simp
                  first | exact ⟨HLK.out.stp (Keeps.refl _ _), rfl⟩ | exact ⟨HLK.out.stp (Keeps.alloc _ _), rfl⟩
                simp only [addEnt]
                apply loosek_is 7 _ rfl
                · intro W vals hW hkn
                  clear hkn
                  have hC := hW.c
                  refine ⟨?_⟩
                  simp only [fill]
                  go_simp
                  first | exact ⟨HLK.out.stp (Keeps.refl _ _), rfl⟩ | exact ⟨HLK.out.stp (Keeps.alloc _ _), rfl⟩
                simp only [addEnt]
                apply loosek_is 8 _ rfl
                · intro W vals hW hkn
                  clear hkn
                  have hC := hW.c
                  refine ⟨?_⟩
                  simp only [fill]
                  go_simp
                  first | exact ⟨HLK.out.stp (Keeps.refl _ _), rfl⟩ | exact ⟨HLK.out.stp (Keeps.alloc _ _), rfl⟩
                simp only [addEnt]
                apply loosek_is 9 _ rfl
                · intro W vals hW hkn
                  have hC := hW.c
                  simp only [knowsK] at hkn
                  try simp only [and_true] at hkn
                  have mc := HMQ.out W (hC H6.out.dk.h); clear hkn hC hW
                  refine ⟨?_⟩
                  simp only [fill]
                  go_simp
                  first | exact ⟨HLK.out.stp (Keeps.refl _ _), rfl⟩ | exact ⟨HLK.out.stp (Keeps.alloc _ _), rfl⟩
                simp only [addEnt]
                apply loosek_is 10 _ rfl
                · intro W vals hW hkn
                  clear hkn
                  have hC := hW.c
                  refine ⟨?_⟩
                  simp only [fill]
                  go_simp
                  first | exact ⟨HLK.out.stp (Keeps.refl _ _), rfl⟩ | exact ⟨HLK.out.stp (Keeps.alloc _ _), rfl⟩
                simp only [addEnt]
                apply loosek_is 11 _ rfl
                · intro W vals hW hkn
                  have hC := hW.c
                  simp only [knowsK] at hkn
                  try simp only [and_true] at hkn
                  have mw := MW W (PreK.one hW (.inr (show (11 : Nat) ∈ [5, 6, 7, 8, 9, 10, 11, 12, 13, 14] by decide))); clear hkn hC hW
                  refine ⟨?_⟩
                  simp only [fill]
                  go_simp
                  first | exact ⟨HLK.out.stp (Keeps.refl _ _), rfl⟩ | exact ⟨HLK.out.stp (Keeps.alloc _ _), rfl⟩
                simp only [addEnt]
                apply loosek_is 12 _ rfl
                · intro W vals hW hkn
                  clear hkn
                  have hC := hW.c
                  refine ⟨?_⟩
                  simp only [fill]
                  go_simp
                  first | exact ⟨HLK.out.stp (Keeps.refl _ _), rfl⟩ | exact ⟨HLK.out.stp (Keeps.alloc _ _), rfl⟩
                simp only [addEnt]
                apply loosek_is 13 _ rfl
                · intro W vals hW hkn
                  have hC := hW.c
                  simp only [knowsK] at hkn
                  try simp only [and_true] at hkn
                  have hcv := HCV.out W (PreK.one hW (.inr (show (13 : Nat) ∈ [5, 6, 7, 8, 9, 10, 11, 12, 13, 14] by decide))); clear hkn hC hW
                  refine ⟨?_⟩
                  simp only [fill]
                  go_simp
                  first | exact ⟨HLK.out.stp (Keeps.refl _ _), rfl⟩ | exact ⟨HLK.out.stp (Keeps.alloc _ _), rfl⟩
                simp only [addEnt]
                refine loosek_has 14 (fun v W' => ∃ g, v = .slice (some ⟨g, 0, none⟩) 1 1 ∧ Row W' g 9 #[.string ⟨pg.toArray⟩]) rfl (fun W vals hW hkn φ' hφ => ?_) ?_
                · have hC := hW.c
                  simp only [knowsK] at hkn
                  try simp only [and_true] at hkn
                  clear hkn hC hW
                  refine ⟨?_⟩
                  simp only [fill]
                  go_simp
                  exact ⟨HLK.out.stp (Keeps.alloc _ _), hφ.out _ _ ⟨_, rfl, Row.new _ _ _⟩⟩
                simp only [addEnt]
                refine loosek_has 15 (fun v W' => ∃ A' c' Wp, v = .slice A' (Ws q ++ [pg]).length c' ∧ LvMid w w1 Wp d0 k m bl bw D' VL VW Ls Ws ∧ OwnN W' w1.heap.size 9 1 txtV v (Ws q ++ [pg]) ∧ Keeps Wp W' (VW q).ownBlock.toList ∧ (v.ownBlock = (VW q).ownBlock ∨ v.ownBlock = some Wp.heap.size)) rfl (fun W vals hW hkn φ' hφ => ?_) ?_
                · simp only [knowsK] at hkn
                  try simp only [and_true] at hkn
                  obtain ⟨W4, a0, a1, g9, hv, hr9⟩ := hkn (by decide)
                  have hr9 := hr9.keeps (BtwK.one a1 (.inr (.inr (.inl rfl))))
                  have hmid := H6.out.keeps (PreK.one hW (.inl rfl))
                  have how := hmid.ar.ow q
                  rw [HEW.out] at how
                  clear hkn a0 a1
                  refine opOk_append_N elemTxt encTxt rfl (.tmp 124) (.tmp 127) rfl w1.heap.size (.slice AW (Ws q).length cW) (some ⟨g9, 0, none⟩) 1 1 (Ws q) [pg] rfl (by simp only [fill]; go_simp) (by simp only [fill]; go_simp) how (lies_of_row hr9 rfl) (by have := HSZ.out; simp; omega) hmid.sz (fun A' c' w' ho hk hb => ⟨?_, hφ.out _ _ ⟨A', c', W, rfl, hmid, ho, by rw [HEW.out]; exact hk, by rw [HEW.out]; exact hb⟩⟩)
                  have hwp : w.heap.size ≤ w1.heap.size := by rw [HBL.out.2]; exact HBL.out.1
                  exact .one (fun hh => hh.trans hk (fun y hy hlt => by have := (ownN_row how y (by simpa using hy)).1; omega)) (fun h => absurd rfl h)
                simp only [addEnt]
                refine loosek_nil (fun W9 vals hW hkn => ?_)
                simp only [knowsAllK] at hkn
                try simp only [and_true] at hkn
                simp only [fill, Act.put, List.setIfInBounds_toArray, List.set_cons_succ, List.set_cons_zero]
                obtain ⟨⟨W8, a0, a1, A9, c9, Wp, hv9, hm9, ho9, hk9, hb9⟩, -⟩ := hkn
                have hka := PostK.one a1 (.inl rfl)
                have ho9 := ho9.keeps hka
                have hk9 := hk9.trans hka (by simp)
                obtain ⟨z1, z2⟩ := hm9.ar.grown_cells hk9 HQ.out.2
                obtain ⟨VW', g1, g2, g3⟩ := lv_grown hm9.ar hm9.dk hm9.sz (by rw [HBL.out.2]; exact HBL.out.1) HBW.out.1 ho9 hk9 hb9
                rw [HEW.out] at z1
                rw [hv9] at g1 g2 g3 ⊢
                have HG := Lib.hid (show LvMid w w1 (W9.setCell ⟨bw, q, none⟩ (.slice A9 (Ws q ++ [pg]).length c9)) d0 k m bl bw D' VL VW' Ls (wrNote D' x Ws) from ⟨g2, g1.congr rfl HWN.out.symm, g3⟩)
                obtain ⟨N9, hN9⟩ : ∃ N9, (Ws q ++ [pg]).length = N9 := ⟨_, rfl⟩
                rw [hN9] at HG ⊢
                have mcq := HMQ.out W9 (hm9.dk.own (hm9.ar.ow q) (by rw [HBL.out.2]; exact HBL.out.1) hk9).h
                clear a0 a1 hka ho9 hk9 hm9 hb9 g1 g2 g3 hv9 hN9 hW MW
                go_wp2_with fail
                go_meet
                case rel => exact ⟨VW', HG⟩
            case rest =>
              obtain ⟨VW1, HM⟩ := hcut
              go_wp2_with fail
              refine (dkWaits_dk HM.out.dk).mono ?_
              rintro e w6 ⟨rfl, rfl⟩
              by_cases hw0 : D'.waits = []
              · have n0 : ((D'.waits.length : Int) == 0) = true := by rw [hw0]; rfl
                have HP := Lib.hid (show ∃ VL VW, LvMid w w1 wc d0 k m bl bw D' VL VW (fun t => if t < 0 then [D'.page t] else Ls t) (fun t => if t < 0 then [] else wrNote D' x Ws t) from ⟨_, _, HM.out.dk, HM.out.ar.congr (by funext t; simp) (by funext t; simp), HM.out.sz⟩)
                have HW0 := Lib.hid hw0
                clear hw0 HM
                go_wp2_with fail
                go_loopw [15] (fun i wr => ∃ j : Nat, j ≤ k ∧ i = .int .i64 j ∧ Hid (∃ VL VW, LvMid w w1 wr d0 k m bl bw D' VL VW (fun t => if t < j then [D'.page t] else Ls t) (fun t => if t < j then [] else wrNote D' x Ws t))) (fun i _ => k - (intOf i).toNat)
                case atStart => exact ⟨0, by omega, rfl, HP⟩
                case round =>
                  clear HP
                  obtain ⟨j, hj, rfl, HR⟩ := hrel
                  have hn20 := HN.out.2
                  by_cases hjk : j < k
                  · obtain ⟨VL2, VW2, HR⟩ := HR.out
                    have HR := Lib.hid HR
                    have hj20 : (j : Int) < 20 := by omega
                    go_wp2_with fail
                    refine (dkRead_dk HR.out.dk (j : Int)).mono ?_
                    rintro e v1 ⟨hk1, hv⟩
                    rw [if_pos (by rw [HD.out.2.1]; omega)] at hv
                    obtain ⟨va, rfl, hOa⟩ := hv
                    obtain ⟨Aa, ca, rfl, -, -, -, hLa⟩ := hOa.parts
                    have hla := Dk.page_length HR.out.dk.ok (j : Int)
                    rw [hla]
                    have cv1 := conv_str v1 _ Aa ca _ hLa
                    rw [hla] at cv1
                    have H6 := Lib.hid (HR.out.keeps hk1)
                    obtain ⟨VL3, g1, g2, g3⟩ := lv_new H6.out.ar H6.out.dk H6.out.sz HBL.out.1 j (D'.page j)
                    obtain ⟨S, hS⟩ : ∃ S : ByteArray, (⟨(D'.page (j : Int)).toArray⟩ : ByteArray) = S := ⟨_, rfl⟩
                    rw [hS] at cv1 g1 g2 g3
                    obtain ⟨Wb, hWb⟩ : ∃ Wb, v1.alloc (.cells #[.string S] 9) = Wb := ⟨_, rfl⟩
                    have hkb : Keeps v1 Wb [] := by rw [← hWb]; exact Keeps.alloc _ _
                    obtain ⟨⟨c1, z1⟩, -⟩ := (H6.out.ar.keeps hkb).cells (i := j) (by omega)
                    rw [hWb] at g1 g2 g3
                    obtain ⟨Wc, hWc⟩ : ∃ Wc, Wb.setCell ⟨bl, j, none⟩ (.slice (some ⟨v1.heap.size, 0, none⟩) 1 1) = Wc := ⟨_, rfl⟩
                    rw [hWc] at g1 g2 g3
                    obtain ⟨-, c2, z2⟩ := g1.cells (i := j) (by omega)
                    obtain ⟨VW3, f1, f2, f3⟩ := lv_clr g1 g2 g3 HBW.out.1 j
                    obtain ⟨Wd, hWd⟩ : ∃ Wd, Wc.setCell ⟨bw, j, none⟩ nilV = Wd := ⟨_, rfl⟩
                    rw [hWd] at f1 f2 f3
                    have HG := Lib.hid (show LvMid w w1 Wd d0 k m bl bw D' VL3 VW3 (fun t => if t < j + 1 then [D'.page t] else Ls t) (fun t => if t < j + 1 then [] else wrNote D' x Ws t) from
                      ⟨f2, f1.congr (lv_upto j (fun t : Nat => [D'.page t]) Ls) (lv_upto j (fun _ => []) (wrNote D' x Ws)), f3⟩)
                    clear g1 g2 g3 f1 f2 f3 hkb hLa hk1 hla hS HR
                    go_wp2_with fail
                    exact ⟨⟨j + 1, by omega, by go_num, Lib.hid ⟨_, _, HG.out⟩⟩, by simp [intOf]; omega⟩
                  · obtain rfl : j = k := by omega
                    obtain ⟨VL2, VW2, HR⟩ := HR.out
                    have HF := Lib.hid (show LvSt w w1 wr d0 j (m + 1) bl bw D' VL2 VW2 (fun t => if t < j then [D'.page t] else Ls t) (fun t => if t < j then [] else wrNote D' x Ws t) from by
                      obtain ⟨R, hR⟩ := HD.out.1
                      have hi := LvInv.still (Ls := Ls) hR HW0.out HD.out.2.2.2.1
                      rw [HD.out.2.1] at hi
                      exact ⟨HR.dk, HD.out.1, HD.out.2.1, HD.out.2.2.1, HR.ar, hi, HR.sz⟩)
                    clear HR
                    go_wp2_with fail
                    exact ⟨⟨m + 1, by omega, by go_num, Lib.hid ⟨_, _, _, _, _, HF.out⟩⟩, by simp [intOf]; omega⟩
              · have n0 : ((D'.waits.length : Int) == 0) = false := by
                  have := mt List.length_eq_zero_iff.1 hw0
                  simp; exact hw0
                have HF := Lib.hid (show LvSt w w1 wc d0 k (m + 1) bl bw D' VL VW1 Ls (wrNote D' x Ws) from ⟨HM.out.dk, HD.out.1, HD.out.2.1, HD.out.2.2.1, HM.out.ar, HD.out.2.2.2.2 hw0, HM.out.sz⟩)
                clear hw0 HM
                go_wp2_with fail
                exact ⟨⟨m + 1, by omega, by go_num, Lib.hid ⟨_, _, _, _, _, HF.out⟩⟩, by simp [intOf]; omega⟩
        · obtain rfl : m = acts.length := by omega
          have HE := HR
          clear HR
          go_wp2_with fail
          refine (dkCrash_dk HE.out.dk (by have := HE.out.wl; omega) B d picks (HA.out.2.lies.keep HE.out.dk.h (Nat.le_refl _) (by simp) |>.mono HE.out.dk.h.size) HA.out.2.le).mono ?_
          rintro e w4 ⟨c0, rfl, hc0⟩
          have HV := Lib.hid (HE.out.ar.keeps hc0.h)
          have HK4 := Lib.hid (HE.out.dk.h.then_ hc0.h)
          obtain ⟨C, hC⟩ : ∃ C, D.crash picks = C := ⟨_, rfl⟩
          have HCF := Lib.hid (show C.waits = [] ∧ C.pages = k ∧ C.crash picks = C ∧ (∀ j : Nat, j < k → ∀ s, s < 4 → ∃ b, b ∈ Ls j ++ Ws j ∧ sect b s = sect (C.page j) s) ∧ (∀ j : Nat, j < k → (∀ b ∈ Ls j ++ Ws j, b.length = 256) ∧ (Ls j).length ≤ 1 ∧ (Ws j).length ≤ 40) from by
            rw [← hC]
            refine ⟨rfl, HE.out.pg, crash_crash _ _ _, fun j hj s hs => HE.out.inv.found HE.out.dk.ok picks (by rw [HE.out.pg]; exact hj) hs, fun j hj => ?_⟩
            have := HE.out.inv.len HE.out.dk.ok (show j < D.pages by rw [HE.out.pg]; exact hj)
            exact ⟨this.1, by omega, by omega⟩)
          have nd : C.dead = false := by rw [← hC]; rfl
          have nw : C.waits = [] := HCF.out.1
          rw [hC] at hc0
          have HC := Lib.hid hc0
          clear hc0 hC HE
          go_wp2_with fail
          refine (dkWaits_dk HC.out).mono ?_
          rintro e w5 ⟨rfl, rfl⟩
          go_wp2_with fail
          refine (dkDead_dk HC.out).mono ?_
          rintro e w5 ⟨rfl, rfl⟩
          go_wp2_with fail
          clear nd nw
          go_loopw [20] (fun i wr => ∃ j : Nat, j ≤ k ∧ i = .int .i64 j ∧ Hid (Keeps w4 wr [])) (fun i _ => k - (intOf i).toNat)
          case atStart => exact ⟨0, by omega, rfl, Lib.hid (Keeps.refl _ _)⟩
          case round =>
            obtain ⟨j, hj, rfl, HK⟩ := hrel
            have hn20 := HN.out.2
            by_cases hjk : j < k
            · have hj20 : (j : Int) < 20 := by omega
              have HJ := Lib.hid hjk
              go_wp2_with fail
              refine (dkRead_dk (HC.out.keeps HK.out) (j : Int)).mono ?_
              rintro e v1 ⟨hk1, hv⟩
              rw [if_pos (by rw [HCF.out.2.1]; omega)] at hv
              obtain ⟨va, rfl, hOa⟩ := hv
              obtain ⟨Aa, ca, rfl, hca, -, -, hLa⟩ := hOa.parts
              have hla := Dk.page_length HC.out.ok (j : Int)
              rw [hla]
              have HFD := Lib.hid (show ∀ s, s < 4 → ∃ b, b ∈ Ls j ++ Ws j ∧ sect b s = sect (C.page j) s from HCF.out.2.2.2.1 j hjk)
              have HLE := Lib.hid (show (∀ b ∈ Ls j ++ Ws j, b.length = 256) ∧ (Ls j).length ≤ 1 ∧ (Ws j).length ≤ 40 from HCF.out.2.2.2.2 j hjk)
              obtain ⟨pg, hpg⟩ : ∃ pg, C.page (j : Int) = pg := ⟨_, rfl⟩
              rw [hpg] at hLa hla hca HFD
              rw [hla] at hca
              have HCA := Lib.hid hca
              clear hca
              have HK1 := Lib.hid (HK.out.then_ hk1)
              have HV1 := Lib.hid (HV.out.keeps HK1.out)
              obtain ⟨⟨AL, cL, eL⟩, ⟨AW, cW, eW⟩⟩ := HV.out.slices j
              obtain ⟨lj, hlj⟩ : ∃ l, Ls j = l := ⟨_, rfl⟩
              obtain ⟨wj, hwj⟩ : ∃ l, Ws j = l := ⟨_, rfl⟩
              rw [hlj] at eL HFD HLE
              rw [hwj] at eW HFD HLE
              have HOL := Lib.hid (show ∀ W, Keeps v1 W [] → OwnN W w1.heap.size 9 1 txtV (.slice AL lj.length cL) lj from fun W hW => by
                have := (HV1.out.keeps hW).ol j
                rwa [eL, hlj] at this)
              have HOW := Lib.hid (show ∀ W, Keeps v1 W [] → OwnN W w1.heap.size 9 1 txtV (.slice AW wj.length cW) wj from fun W hW => by
                have := (HV1.out.keeps hW).ow j
                rwa [eW, hwj] at this)
              have ML := fun (W' : World) (hW : Keeps v1 W' []) => (((HV1.out.keeps hW).cells (i := j) (by omega)).1.1).trans (congrArg some eL)
              have MW := fun (W' : World) (hW : Keeps v1 W' []) => (((HV1.out.keeps hW).cells (i := j) (by omega)).2.1).trans (congrArg some eW)
              have HL := Lib.hid (And.intro hLa hla)
              clear hLa hla hk1 eL eW hlj hwj hpg hjk HK
              go_wp2_with fail
              refine wp_region_tail KeepsAll _ 7 (by kernel_rfl) rfl (by kernel_rfl) (fun _ => Keeps.refl _ _) (fun _ _ _ h k => h.trans k (by simp)) (Keeps.drew _) ?_
              simp only [List.take_succ_cons, List.take_zero, List.drop_succ_cons, List.drop_zero]
              apply loose_is
              · intro W vals hW hkn
                clear hkn
                refine ⟨?_⟩
                simp only [fill]
                go_simp
                first | exact ⟨Keeps.refl _ _, rfl⟩ | exact ⟨Keeps.alloc _ _, rfl⟩
              simp only [addEnt]
              apply loose_is
              · intro W vals hW hkn
                clear hkn
                refine ⟨?_⟩
                simp only [fill]
                go_simp
                first | exact ⟨Keeps.refl _ _, rfl⟩ | exact ⟨Keeps.alloc _ _, rfl⟩
              simp only [addEnt]
              apply loose_is
              · intro W vals hW hkn
                clear hkn
                refine ⟨?_⟩
                simp only [fill]
                go_simp
                first | exact ⟨Keeps.refl _ _, rfl⟩ | exact ⟨Keeps.alloc _ _, rfl⟩
              simp only [addEnt]
              refine loose_has (fun v W' => ∃ A' c', v = .slice A' lj.length c' ∧ OwnN W' v1.heap.size 9 1 txtV v lj) (fun W vals hW hkn φ' hφ => ?_) ?_
              · clear hkn
                exact opOk_append_N elemTxt encTxt rfl (Operand.const (.slice none 0 0)) (.tmp 190) rfl v1.heap.size (.slice none 0 0) AL lj.length cL [] lj rfl rfl (by simp only [fill]; go_simp) (OwnN.nil _ _ _ _ _) ((OwnN.at_ (HOL.out W hW) encTxt).lies encTxt) (by have := HLE.out.2.1; simp; omega) hW.size (fun A' c' w' ho hk _ => ⟨hk, hφ.out _ _ ⟨A', c', rfl, ho⟩⟩)
              simp only [addEnt]
              apply loose_is
              · intro W vals hW hkn
                clear hkn
                refine ⟨?_⟩
                simp only [fill]
                go_simp
                first | exact ⟨Keeps.refl _ _, rfl⟩ | exact ⟨Keeps.alloc _ _, rfl⟩
              simp only [addEnt]
              apply loose_is
              · intro W vals hW hkn
                clear hkn
                refine ⟨?_⟩
                simp only [fill]
                go_simp
                first | exact ⟨Keeps.refl _ _, rfl⟩ | exact ⟨Keeps.alloc _ _, rfl⟩
              simp only [addEnt]
              apply loose_is
              · intro W vals hW hkn
                clear hkn
                refine ⟨?_⟩
                simp only [fill]
                go_simp
                first | exact ⟨Keeps.refl _ _, rfl⟩ | exact ⟨Keeps.alloc _ _, rfl⟩
              simp only [addEnt]
              refine loose_nil (fun W vals hW hkn => ?_)
              simp only [knowsAll] at hkn
              try simp only [and_true] at hkn
              simp only [fill, Act.put, List.setIfInBounds_toArray, List.set_cons_succ, List.set_cons_zero]
              obtain ⟨Wb, b1, b2, A8, c8, hv8, ho8⟩ := hkn
              rw [hv8]
              rw [hv8] at ho8
              have H8 := Lib.hid (And.intro (ho8.keeps b2) (show Keeps v1 W [] from hW))
              clear b1 b2 hv8 ho8 hW ML MW
              refine wpList_append_N elemTxt encTxt rfl (.tmp 191) (.tmp 194) rfl v1.heap.size (.slice A8 lj.length c8) AW wj.length cW lj wj rfl (by go_simp) (by go_simp) H8.out.1 ((OwnN.at_ (HOW.out _ H8.out.2) encTxt).lies encTxt) (by have := HLE.out; omega) H8.out.2.size ?_
              intro A9 c9 w9 l9 hl9 hlen9 ho9 hk9 _
              have hk9' : Keeps v1 w9 [] := H8.out.2.trans hk9 (fun y hy hlt => by have := (OwnN.rows H8.out.1 y hy).1; omega)
              have H9 := Lib.hid (show l9 = lj ++ wj ∧ OwnN w9 v1.heap.size 9 1 txtV (.slice A9 l9.length c9) l9 ∧ Keeps w4 w9 [] ∧ Lies w9 w9.heap.size Aa (pg.map byteV) ∧ pg.length = 256 from ⟨hl9.out, ho9, HK1.out.then_ hk9', (HL.out.1.keep hk9' (Nat.le_refl _) (by simp)).mono hk9'.size, HL.out.2⟩)
              have HLN := Lib.hid (show l9.length ≤ 41 by have := HLE.out; rw [hl9.out, List.length_append]; omega)
              clear hl9 hlen9 ho9 hk9 hk9' HL H8 HOL HOW HV1
              go_wp2_with fail
              go_loopw [24] (fun i wr => ∃ s : Nat, s ≤ 4 ∧ i = .int .i64 s ∧ Hid (Keeps w9 wr [])) (fun i _ => 4 - (intOf i).toNat)
              case atStart => exact ⟨0, by omega, rfl, Lib.hid (Keeps.refl _ _)⟩
              case round =>
                obtain ⟨s, hs, rfl, HK⟩ := hrel
                by_cases hs4 : s < 4
                · have HS4 := Lib.hid hs4
                  have hs4i : (s : Int) < 4 := by omega
                  clear hs4
                  go_wp2_with fail
                  go_loopw [25, 26] (fun f i wr => ∃ (q : Nat) (fb : Bool), q ≤ l9.length ∧ f = .bool fb ∧ i = .int .i64 q ∧ Hid ((fb = true ↔ ∃ y, y ∈ l9.take q ∧ sect y s = sect pg s) ∧ Keeps w9 wr [])) (fun _ i _ => l9.length - (intOf i).toNat)
                  case atStart => exact ⟨0, false, by omega, rfl, rfl, Lib.hid ⟨by simp, HK.out⟩⟩
                  case round =>
                    clear HK
                    obtain ⟨q, fb, hq, rfl, rfl, HK⟩ := hrel
                    have hl41 := HLN.out
                    by_cases hql : q < l9.length
                    · cases fb with
                      | true =>
                        have HF := Lib.hid (show true = true ↔ ∃ y, y ∈ l9.take (q + 1) ∧ sect y s = sect pg s from ⟨fun _ => by
                          obtain ⟨y, hy, e⟩ := HK.out.1.1 rfl
                          exact ⟨y, by rw [List.take_add_one]; exact List.mem_append_left _ hy, e⟩, fun _ => rfl⟩)
                        go_wp2_with fail
                        refine wp_region_keeps _ (by kernel_rfl) rfl (by kernel_rfl) ?_
                        apply loose_is
                        · intro W vals hW hkn
                          clear hkn
                          refine ⟨?_⟩
                          simp only [fill]
                          go_simp
                          first | exact ⟨Keeps.refl _ _, rfl⟩ | exact ⟨Keeps.alloc _ _, rfl⟩
                        simp only [addEnt]
                        apply loose_is
                        · intro W vals hW hkn
                          clear hkn
                          refine ⟨?_⟩
                          simp only [fill]
                          go_simp
                          first | exact ⟨Keeps.refl _ _, rfl⟩ | exact ⟨Keeps.alloc _ _, rfl⟩
                        simp only [addEnt]
                        refine loose_off (fun vals => by kernel_rfl) ?_
                        simp only [addEnt]
                        refine loose_off (fun vals => by kernel_rfl) ?_
                        simp only [addEnt]
                        refine loose_off (fun vals => by kernel_rfl) ?_
                        simp only [addEnt]
                        refine loose_off (fun vals => by kernel_rfl) ?_
                        simp only [addEnt]
                        refine loose_off (fun vals => by kernel_rfl) ?_
                        simp only [addEnt]
                        refine loose_off (fun vals => by kernel_rfl) ?_
                        simp only [addEnt]
                        refine loose_off (fun vals => by kernel_rfl) ?_
                        simp only [addEnt]
                        refine loose_off (fun vals => by kernel_rfl) ?_
                        simp only [addEnt]
                        refine loose_off (fun vals => by kernel_rfl) ?_
                        simp only [addEnt]
                        refine loose_off (fun vals => by kernel_rfl) ?_
                        simp only [addEnt]
                        refine loose_off (fun vals => by kernel_rfl) ?_
                        simp only [addEnt]
                        refine loose_off (fun vals => by kernel_rfl) ?_
                        simp only [addEnt]
                        refine loose_off (fun vals => by kernel_rfl) ?_
                        simp only [addEnt]
                        refine loose_off (fun vals => by kernel_rfl) ?_
                        simp only [addEnt]
                        refine loose_off (fun vals => by kernel_rfl) ?_
                        simp only [addEnt]
                        refine loose_off (fun vals => by kernel_rfl) ?_
                        simp only [addEnt]
                        refine loose_off (fun vals => by kernel_rfl) ?_
                        simp only [addEnt]
                        refine loose_off (fun vals => by kernel_rfl) ?_
                        simp only [addEnt]
                        refine loose_off (fun vals => by kernel_rfl) ?_
                        simp only [addEnt]
                        apply loose_is
                        · intro W vals hW hkn
                          clear hkn
                          refine ⟨?_⟩
                          simp only [fill]
                          go_simp
                          first | exact ⟨Keeps.refl _ _, rfl⟩ | exact ⟨Keeps.alloc _ _, rfl⟩
                        simp only [addEnt]
                        apply loose_is
                        · intro W vals hW hkn
                          clear hkn
                          refine ⟨?_⟩
                          simp only [fill]
                          go_simp
                          first | exact ⟨Keeps.refl _ _, rfl⟩ | exact ⟨Keeps.alloc _ _, rfl⟩
                        simp only [addEnt]
                        refine loose_nil (fun W vals hW hkn => ?_)
                        simp only [knowsAll] at hkn
                        try simp only [and_true] at hkn
                        simp only [fill, Act.put, List.setIfInBounds_toArray, List.set_cons_succ, List.set_cons_zero]
                        clear hkn
                        have HW := Lib.hid (HK.out.2.then_ hW)
                        clear hW
                        go_wp2_with fail
                        exact ⟨⟨q + 1, true, by omega, rfl, by go_num, Lib.hid ⟨by simpa using HF.out, HW.out⟩⟩, by simp [intOf]; omega⟩
                      | false =>
                        obtain ⟨g, cur, rfl, -, -, hr, hc, -⟩ := OwnN.one (q := fun l : List UInt8 => Value.string ⟨l.toArray⟩) (fun _ => rfl) (H9.out.2.1.keeps HK.out.2) hql
                        obtain ⟨y, hy⟩ : ∃ y, l9[q] = y := ⟨_, rfl⟩
                        rw [hy] at hc
                        have hyl : y.length = 256 := HLE.out.1 y (by rw [← H9.out.1, ← hy]; exact List.getElem_mem hql)
                        have M9 := fun (W' : World) (hW : Keeps wr W' []) => ((hr.keeps hW).cell q).trans hc
                        obtain ⟨gb, ob, rfl, hgb, hcb⟩ := H9.out.2.2.2.1 (by rw [List.length_map, H9.out.2.2.2.2]; omega)
                        have hs4 := HS4.out
                        obtain ⟨a, ha⟩ : ∃ a : Nat, 64 * s = a := ⟨_, rfl⟩
                        obtain ⟨e, he⟩ : ∃ e : Nat, a + 64 = e := ⟨_, rfl⟩
                        have hwa : IntKind.i64.wrap (64 * (s : Int)) = (a : Int) := by rw [IntWalk.i64_in _ (by omega)]; omega
                        have hwe : IntKind.i64.wrap ((a : Int) + 64) = (e : Int) := by rw [IntWalk.i64_in _ (by omega)]; omega
                        have ha1 : (a : Int) ≤ 256 := by omega
                        have he1 : (e : Int) ≤ 256 := by omega
                        have hae : (a : Int) ≤ (e : Int) := by omega
                        have hec : e ≤ ca := by have := HCA.out; omega
                        have hneN : ¬ ca = a := by have := HCA.out; omega
                        have haeN : a ≤ e := by omega
                        have hea : e - a = 64 := by omega
                        have HCV := Lib.hid (show ∀ W : World, Keeps wr W [] → (convert 32 9 (.slice (some ⟨gb, ob + a, none⟩) 64 (ca - a))).run Try.prog W = .ok (.string ⟨(sect pg s).toArray⟩) W from fun W hk => by
                          have hl : Lies w9 w9.heap.size (some ⟨gb, ob + a, none⟩) ((sect pg s).map byteV) := fun _ => ⟨gb, ob + a, rfl, hgb, fun i u hu => by
                            rw [Nat.add_assoc]
                            refine hcb (a + i) u ?_
                            rw [← hu, List.getElem?_map, List.getElem?_map]
                            unfold sect
                            have hi : i < 64 := by
                              have := (List.getElem?_eq_some_iff.1 hu).1
                              rw [List.length_map, sect_length H9.out.2.2.2.2 HS4.out] at this
                              exact this
                            rw [List.getElem?_take_of_lt hi, List.getElem?_drop, ha]⟩
                          have := conv_str W _ _ (ca - a) (sect pg s) ((hl.keeps HK.out.2).keeps hk)
                          rwa [sect_length H9.out.2.2.2.2 HS4.out] at this)
                        obtain ⟨S1, hS1⟩ : ∃ S : ByteArray, (⟨y.toArray⟩ : ByteArray).extract a e = S := ⟨_, rfl⟩
                        obtain ⟨S2, hS2⟩ : ∃ S : ByteArray, (⟨(sect pg s).toArray⟩ : ByteArray) = S := ⟨_, rfl⟩
                        have e1 : S1.toList = sect y s := by
                          rw [← hS1, str_cut, hea, ← ha, Lib.toList_data]
                          rfl
                        have e2 : S2.toList = sect pg s := by rw [← hS2, Lib.toList_data]
                        rw [hS2] at HCV
                        obtain ⟨fb, hfb⟩ := bool_of (sect y s = sect pg s)
                        have hcmp : (S1.toList == S2.toList) = fb := by
                          rw [e1, e2, Bool.eq_iff_iff, hfb]
                          exact beq_iff_eq
                        have HF := Lib.hid (show fb = true ↔ ∃ z, z ∈ l9.take (q + 1) ∧ sect z s = sect pg s by
                          rw [hfb]
                          constructor
                          · intro h
                            exact ⟨y, by rw [List.take_succ_eq_append_getElem hql, hy]; exact List.mem_append_right _ (List.mem_singleton.2 rfl), h⟩
                          · rintro ⟨z, hz, e⟩
                            rw [List.take_succ_eq_append_getElem hql, hy] at hz
                            rcases List.mem_append.1 hz with hz | hz
                            · exact absurd (HK.out.1.2 ⟨z, hz, e⟩) Bool.false_ne_true
                            · obtain rfl := List.mem_singleton.1 hz
                              exact e)
                        clear hr hc hy ha he hS2 e1 e2 hfb hgb hcb hs4
                        go_wp2_with fail
                        refine wp_region_keeps _ (by kernel_rfl) rfl (by kernel_rfl) ?_
                        apply loose_is
                        · intro W vals hW hkn
                          clear hkn
                          refine ⟨?_⟩
                          simp only [fill]
                          go_simp
                          first | exact ⟨Keeps.refl _ _, rfl⟩ | exact ⟨Keeps.alloc _ _, rfl⟩
                        simp only [addEnt]
                        apply loose_is
                        · intro W vals hW hkn
                          clear hkn
                          refine ⟨?_⟩
                          simp only [fill]
                          go_simp
                          first | exact ⟨Keeps.refl _ _, rfl⟩ | exact ⟨Keeps.alloc _ _, rfl⟩
                        simp only [addEnt]
                        apply loose_is
                        · intro W vals hW hkn
                          clear hkn
                          refine ⟨?_⟩
                          simp only [fill]
                          go_simp
                          first | exact ⟨Keeps.refl _ _, rfl⟩ | exact ⟨Keeps.alloc _ _, rfl⟩
                        simp only [addEnt]
                        apply loose_is
                        · intro W vals hW hkn
                          clear hkn
                          refine ⟨?_⟩
                          simp only [fill]
                          go_simp
                          first | exact ⟨Keeps.refl _ _, rfl⟩ | exact ⟨Keeps.alloc _ _, rfl⟩
                        simp only [addEnt]
                        apply loose_is
                        · intro W vals hW hkn
                          clear hkn
                          refine ⟨?_⟩
                          simp only [fill]
                          go_simp
                          first | exact ⟨Keeps.refl _ _, rfl⟩ | exact ⟨Keeps.alloc _ _, rfl⟩
                        simp only [addEnt]
                        apply loose_is
                        · intro W vals hW hkn
                          clear hkn
                          refine ⟨?_⟩
                          simp only [fill]
                          go_simp
                          first | exact ⟨Keeps.refl _ _, rfl⟩ | exact ⟨Keeps.alloc _ _, rfl⟩
                        simp only [addEnt]
                        apply loose_is
                        · intro W vals hW hkn
                          clear hkn
                          refine ⟨?_⟩
                          simp only [fill]
                          go_simp
                          first | exact ⟨Keeps.refl _ _, rfl⟩ | exact ⟨Keeps.alloc _ _, rfl⟩
                        simp only [addEnt]
                        apply loose_is
                        · intro W vals hW hkn
                          clear hkn
                          refine ⟨?_⟩
                          simp only [fill]
                          go_simp
                          first | exact ⟨Keeps.refl _ _, rfl⟩ | exact ⟨Keeps.alloc _ _, rfl⟩
                        simp only [addEnt]
                        apply loose_is
                        · intro W vals hW hkn
                          clear hkn
                          refine ⟨?_⟩
                          simp only [fill]
                          go_simp
                          first | exact ⟨Keeps.refl _ _, rfl⟩ | exact ⟨Keeps.alloc _ _, rfl⟩
                        simp only [addEnt]
                        apply loose_is
                        · intro W vals hW hkn
                          clear hkn
                          refine ⟨?_⟩
                          simp only [fill]
                          go_simp
                          first | exact ⟨Keeps.refl _ _, rfl⟩ | exact ⟨Keeps.alloc _ _, rfl⟩
                        simp only [addEnt]
                        apply loose_is
                        · intro W vals hW hkn
                          clear hkn
                          refine ⟨?_⟩
                          simp only [fill]
                          go_simp
                          first | exact ⟨Keeps.refl _ _, rfl⟩ | exact ⟨Keeps.alloc _ _, rfl⟩
                        simp only [addEnt]
                        apply loose_is
                        · intro W vals hW hkn
                          clear hkn
                          refine ⟨?_⟩
                          simp only [fill]
                          go_simp
                          first | exact ⟨Keeps.refl _ _, rfl⟩ | exact ⟨Keeps.alloc _ _, rfl⟩
                        simp only [addEnt]
                        apply loose_is
                        · intro W vals hW hkn
                          clear hkn
                          refine ⟨?_⟩
                          simp only [fill]
                          go_simp
                          first | exact ⟨Keeps.refl _ _, rfl⟩ | exact ⟨Keeps.alloc _ _, rfl⟩
                        simp only [addEnt]
                        apply loose_is
                        · intro W vals hW hkn
                          clear hkn
                          refine ⟨?_⟩
                          simp only [fill]
                          go_simp
                          first | exact ⟨Keeps.refl _ _, rfl⟩ | exact ⟨Keeps.alloc _ _, rfl⟩
                        simp only [addEnt]
                        apply loose_is
                        · intro W vals hW hkn
                          clear hkn
                          refine ⟨?_⟩
                          simp only [fill]
                          go_simp
                          first | exact ⟨Keeps.refl _ _, rfl⟩ | exact ⟨Keeps.alloc _ _, rfl⟩
                        simp only [addEnt]
                        apply loose_is
                        · intro W vals hW hkn
                          clear hkn
                          refine ⟨?_⟩
                          simp only [fill]
                          go_simp
                          first | exact ⟨Keeps.refl _ _, rfl⟩ | exact ⟨Keeps.alloc _ _, rfl⟩
                        simp only [addEnt]
                        apply loose_is
                        · intro W vals hW hkn
                          clear hkn
                          refine ⟨?_⟩
                          simp only [fill]
                          go_simp
                          first | exact ⟨Keeps.refl _ _, rfl⟩ | exact ⟨Keeps.alloc _ _, rfl⟩
                        simp only [addEnt]
                        apply loose_is
                        · intro W vals hW hkn
                          clear hkn
                          refine ⟨?_⟩
                          simp only [fill]
                          go_simp
                          first | exact ⟨Keeps.refl _ _, rfl⟩ | exact ⟨Keeps.alloc _ _, rfl⟩
                        simp only [addEnt]
                        apply loose_is
                        · intro W vals hW hkn
                          clear hkn
                          refine ⟨?_⟩
                          simp only [fill]
                          go_simp
                          first | exact ⟨Keeps.refl _ _, rfl⟩ | exact ⟨Keeps.alloc _ _, rfl⟩
                        simp only [addEnt]
                        apply loose_is
                        · intro W vals hW hkn
                          simp only [knows] at hkn
                          try simp only [and_true] at hkn
                          have hcv := HCV.out W hW; clear hkn
                          refine ⟨?_⟩
                          simp only [fill]
                          go_simp
                          first | exact ⟨Keeps.refl _ _, rfl⟩ | exact ⟨Keeps.alloc _ _, rfl⟩
                        simp only [addEnt]
                        apply loose_is
                        · intro W vals hW hkn
                          clear hkn
                          refine ⟨?_⟩
                          simp only [fill]
                          go_simp
                          first | exact ⟨Keeps.refl _ _, rfl⟩ | exact ⟨Keeps.alloc _ _, rfl⟩
                        simp only [addEnt]
                        apply loose_is
                        · intro W vals hW hkn
                          clear hkn
                          refine ⟨?_⟩
                          simp only [fill]
                          go_simp
                          first | exact ⟨Keeps.refl _ _, rfl⟩ | exact ⟨Keeps.alloc _ _, rfl⟩
                        simp only [addEnt]
                        apply loose_is
                        · intro W vals hW hkn
                          clear hkn
                          refine ⟨?_⟩
                          simp only [fill]
                          go_simp
                          first | exact ⟨Keeps.refl _ _, rfl⟩ | exact ⟨Keeps.alloc _ _, rfl⟩
                        simp only [addEnt]
                        refine loose_nil (fun W vals hW hkn => ?_)
                        simp only [knowsAll] at hkn
                        try simp only [and_true] at hkn
                        simp only [fill, Act.put, List.setIfInBounds_toArray, List.set_cons_succ, List.set_cons_zero]
                        clear hkn
                        have HW := Lib.hid (HK.out.2.then_ hW)
                        clear hW
                        go_wp2_with fail
                        exact ⟨⟨q + 1, fb, by omega, rfl, by go_num, Lib.hid ⟨HF.out, HW.out⟩⟩, by simp [intOf]; omega⟩
                    · obtain rfl : q = l9.length := by omega
                      have hft : fb = true := by
                        obtain ⟨y, hy, e⟩ := HFD.out s HS4.out
                        refine HK.out.1.2 ⟨y, ?_, e⟩
                        rw [List.take_length, H9.out.1]
                        exact hy
                      subst hft
                      go_wp2_with fail
                      exact ⟨⟨s + 1, by omega, by go_num, Lib.hid HK.out.2⟩, by simp [intOf]; omega⟩
                · obtain rfl : s = 4 := by omega
                  go_wp2_with fail
                  have hjk := HJ.out
                  exact ⟨⟨j + 1, by omega, by go_num, Lib.hid (H9.out.2.2.1.then_ HK.out)⟩, by simp [intOf]; omega⟩
            · obtain rfl : j = k := by omega
              go_wp2_with fail
              refine (dkCrash_dk (HC.out.keeps HK.out) (by rw [HCF.out.1]; simp) B d picks (HA.out.2.lies.keep (HK4.out.then_ HK.out) (Nat.le_refl _) (by simp) |>.mono (HK4.out.then_ HK.out).size) HA.out.2.le).mono ?_
              rintro e w8 ⟨o0, rfl, ho0⟩
              rw [HCF.out.2.2.1] at ho0
              have HO := Lib.hid (And.intro (HC.out.keeps (HK.out.then_ ho0.h)) (And.intro ho0 (HK4.out.then_ (HK.out.then_ ho0.h))))
              clear ho0
              go_wp2_with fail
              refine (truth_dec (B := true) ⟨fun _ => ⟨rfl, rfl, rfl, rfl, fun _ => rfl, fun _ => rfl, rfl⟩, fun _ => rfl⟩ (dkSame_in HO.out.2.1 HO.out.1 (by rw [HCF.out.1]; simp))).mono ?_
              rintro e w9 ⟨rfl, hk9⟩
              have H9 := Lib.hid (HO.out.2.2.then_ hk9)
              clear hk9
              go_wp2_with fail
              refine (known2_go H9.out).mono ?_
              rintro e w' ⟨rfl, hk⟩
              have HK := Lib.hid hk
              clear hk
              go_wp2_with fail
              go_ret
              exact ⟨rfl, HK.out⟩
end Go.Proofs.Ytehlabdbbbbopaa
