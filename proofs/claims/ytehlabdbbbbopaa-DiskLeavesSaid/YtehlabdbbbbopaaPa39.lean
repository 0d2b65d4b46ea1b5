/- The statement DiskPlay (layer 2): its walk. -/
import Derived.Test.YtehlabdbbbbopaaPa37
import Derived.Test.YtehlabdbbbbopaaPa38

namespace Go.Proofs.Ytehlabdbbbbopaa
open Go.RowKit Go.Maps Go.Shelf

/-- What stands while calls are played. -/
structure PlAt (Wd wr : World) (d b9 : Nat) (D : Dk) (R : Rk) (A : Option Addr) (c : Nat) (B : Option Addr) (e : Nat) : Prop where
  dk : DkIn Wd wr d D
  row : Row wr b9 43 (rkRow R A c B e)
  ref : RkAt wr (.agg (rkRow R A c B e)) R
  rel : DkRk D R
  f : Wd.heap.size ≤ b9 ∧ d < b9
set_option maxRecDepth 100000 in
set_option maxHeartbeats 4000000 in
theorem diskPlay_far (w : World) (x : Int) (A B : Option Addr) (c d n m : Nat) (h : (40 : Int) < n ∨ (60 : Int) < m ∨ (20 < x ∧ x ≤ 4096)) :
    Calls Try.prog 5 #[.int .i64 x, .slice A n c, .slice B m d] w fun e w' => e = .returned (.bool true) ∧ Keeps w w' [] := by
  by_cases h1 : (40 : Int) < n
  · clear h
    go_enter Try.func5, Try.ntmps5
    go_wp2_with fail
    refine (known2_go (Keeps.refl w [])).mono ?_
    rintro e w' ⟨rfl, hk⟩
    have HK := Lib.hid hk
    clear hk
    go_wp2_with fail
    go_ret
    exact ⟨rfl, HK.out⟩
  · by_cases h2 : (60 : Int) < m
    · clear h
      go_enter Try.func5, Try.ntmps5
      go_wp2_with fail
      refine (known2_go (Keeps.refl w [])).mono ?_
      rintro e w' ⟨rfl, hk⟩
      have HK := Lib.hid hk
      clear hk
      go_wp2_with fail
      go_ret
      exact ⟨rfl, HK.out⟩
    · obtain ⟨h3, h4⟩ : 20 < x ∧ x ≤ 4096 := by omega
      clear h
      go_enter Try.func5, Try.ntmps5
      go_wp2_with fail
      refine (known2_go (Keeps.refl w [])).mono ?_
      rintro e w' ⟨rfl, hk⟩
      have HK := Lib.hid hk
      clear hk
      go_wp2_with fail
      go_ret
      exact ⟨rfl, HK.out⟩
set_option maxRecDepth 100000 in
set_option maxHeartbeats 4000000 in
theorem diskPlay_none (w : World) (x : Int) (A B : Option Addr) (c d n m : Nat) (h1 : ¬ (40 : Int) < n) (h2 : ¬ (60 : Int) < m) (h3 : x < 2 ∨ 4096 < x) :
    Calls Try.prog 5 #[.int .i64 x, .slice A n c, .slice B m d] w fun e w' => e = .returned (.bool true) ∧ Keeps w w' [] := by
  have HX := Lib.hid (show ¬ (2 ≤ x ∧ x ≤ 4096) by omega)
  by_cases h4 : 20 < x
  · have h5 : ¬ x ≤ 4096 := by omega
    clear h3
    go_enter Try.func5, Try.ntmps5
    go_wp2_with fail
    refine (dkNew_bad w x HX.out).mono ?_
    rintro e w1 ⟨rfl, hk⟩
    have H1 := Lib.hid hk
    clear hk
    go_wp2_with fail
    refine (refNew2_any w1 x).mono ?_
    intro e w2 hm
    unfold RkMade at hm
    rw [if_neg HX.out] at hm
    obtain ⟨rfl, hk⟩ := hm
    have H2 := Lib.hid (H1.out.then_ hk)
    clear hk
    go_wp2_with fail
    refine (known2_go (H2.out.then_alloc _)).mono ?_
    rintro e w' ⟨rfl, hk⟩
    have HK := Lib.hid hk
    clear hk
    go_wp2_with fail
    go_ret
    exact ⟨rfl, HK.out⟩
  · clear h3
    go_enter Try.func5, Try.ntmps5
    go_wp2_with fail
    refine (dkNew_bad w x HX.out).mono ?_
    rintro e w1 ⟨rfl, hk⟩
    have H1 := Lib.hid hk
    clear hk
    go_wp2_with fail
    refine (refNew2_any w1 x).mono ?_
    intro e w2 hm
    unfold RkMade at hm
    rw [if_neg HX.out] at hm
    obtain ⟨rfl, hk⟩ := hm
    have H2 := Lib.hid (H1.out.then_ hk)
    clear hk
    go_wp2_with fail
    refine (known2_go (H2.out.then_alloc _)).mono ?_
    rintro e w' ⟨rfl, hk⟩
    have HK := Lib.hid hk
    clear hk
    go_wp2_with fail
    go_ret
    exact ⟨rfl, HK.out⟩
theorem pl_stored {Wd W : World} {b b9 d0 : Nat} {y0 y1 y2 y3 y4 y5 : Value} {R' : Rk} {A9 B9 : Option Addr} {c9 e9 : Nat} (hr : Row W b 43 #[y0, y1, y2, y3, y4, y5]) (hg : RkAt W (.agg #[.slice A9 R'.lasts.length c9, .slice B9 R'.waits.length e9, .int .i64 R'.kind, .int .i64 R'.left, .bool R'.dead, .int .i64 R'.steps]) R') (hb : Wd.heap.size ≤ b ∧ b ≠ d0 ∧ b ≠ b9)
    {rd : List Value} {φ' : Value → World → Prop} (hφ : Hid (∀ (u : Value) (w : World), (∃ b A9 c9 B9 e9, rd = [.pointer (some ⟨b, 0, none⟩)] ∧ Wd.heap.size ≤ b ∧ b ≠ d0 ∧ b ≠ b9 ∧ Row w b 43 #[.slice A9 R'.lasts.length c9, .slice B9 R'.waits.length e9, .int .i64 R'.kind, .int .i64 R'.left, .bool R'.dead, .int .i64 R'.steps] ∧ RkAt w (.agg #[.slice A9 R'.lasts.length c9, .slice B9 R'.waits.length e9, .int .i64 R'.kind, .int .i64 R'.left, .bool R'.dead, .int .i64 R'.steps]) R') → φ' u w)) (hrd : rd = [.pointer (some ⟨b, 0, none⟩)]) {p1 a1 p2 a2 : List Nat} :
    StpK [⟨6, p1, a1⟩, ⟨11, p2, a2⟩] (fun x y => KeepsOld Wd x y ∧ KeepRow b9 43 x y) (twoA 6 (fun x y => BoxOnly 43 x y ∧ KeepRow b9 43 x y) 11 (RowsBut d0)) 11 W ((((((W.setCell ⟨b, 0, none⟩ (.slice A9 R'.lasts.length c9)).setCell ⟨b, 1, none⟩ (.slice B9 R'.waits.length e9)).setCell ⟨b, 2, none⟩ (.int .i64 R'.kind)).setCell ⟨b, 3, none⟩ (.int .i64 R'.left)).setCell ⟨b, 4, none⟩ (.bool R'.dead)).setCell ⟨b, 5, none⟩ (.int .i64 R'.steps)) ∧
    φ' undef ((((((W.setCell ⟨b, 0, none⟩ (.slice A9 R'.lasts.length c9)).setCell ⟨b, 1, none⟩ (.slice B9 R'.waits.length e9)).setCell ⟨b, 2, none⟩ (.int .i64 R'.kind)).setCell ⟨b, 3, none⟩ (.int .i64 R'.left)).setCell ⟨b, 4, none⟩ (.bool R'.dead)).setCell ⟨b, 5, none⟩ (.int .i64 R'.steps)) := by
  obtain ⟨p1, p2⟩ := rk_put hr (.slice A9 R'.lasts.length c9) (.slice B9 R'.waits.length e9) (.int .i64 R'.kind) (.int .i64 R'.left) (.bool R'.dead) (.int .i64 R'.steps)
  have kr : KeepRow b9 43 W _ := fun cs h9 => h9.keep p2 (by simpa using hb.2.2.symm)
  exact ⟨.two ⟨fun h => h.trans p2 (fun y hy hlt => by simp at hy; omega), kr⟩ (fun _ => ⟨.put hr p2, kr⟩) (fun h => absurd rfl h), hφ.out _ _ ⟨b, A9, c9, B9, e9, hrd, hb.1, hb.2.1, hb.2.2, p1, hg.keep p2 (fun x hx => by obtain rfl := List.mem_singleton.1 hx; exact ⟨_, _, hr, by decide, by decide⟩)⟩⟩
set_option maxRecDepth 100000 in
set_option maxHeartbeats 4000000 in
theorem diskPlay_some (w : World) (n : Nat) (A B : Option Addr) (c d : Nat) (acts : List ActV) (picks : List Int) (ha : CameD w A c acts) (hp : CameI w B d picks) (h1 : ¬ (40 : Int) < acts.length) (h2 : ¬ (60 : Int) < picks.length) (h3 : 2 ≤ n) (h4 : n ≤ 20) :
    Calls Try.prog 5 #[.int .i64 (n : Int), .slice A acts.length c, .slice B picks.length d] w fun e w' => e = .returned (.bool true) ∧ Keeps w w' [] := by
  have HA := Lib.hid (And.intro ha hp)
  have HN := Lib.hid (And.intro h3 h4)
  have h5 : ¬ (20 : Int) < n := by omega
  clear ha hp h3 h4
  go_enter Try.func5, Try.ntmps5
  go_wp2_with fail
  refine (dkNew_good w n (by have := HN.out; omega)).mono ?_
  rintro e w1 ⟨d0, rfl, hN⟩
  rw [Int.toNat_natCast] at hN
  have H1 := Lib.hid (show DkIn w w1 d0 (Dk.fresh n) from hN)
  clear hN
  go_wp2_with fail
  refine (refNew2_any w1 n).mono ?_
  intro e w2 hm
  unfold RkMade at hm
  rw [if_pos (by have := HN.out; omega), Int.toNat_natCast] at hm
  obtain ⟨g, rfl, hg, hk⟩ := hm
  obtain ⟨A1, c1, B1, d1, rfl, hA1, hB1⟩ := hg.e
  have H2 := Lib.hid (And.intro (H1.out.keeps hk) hg)
  clear hg hk hA1 hB1
  go_wp2_with fail
  obtain ⟨W3, hW3⟩ : ∃ W3, w2.alloc (.cells #[.slice A1 (Rk.fresh n).lasts.length c1, .slice B1 (Rk.fresh n).waits.length d1, .int .i64 (Rk.fresh n).kind, .int .i64 (Rk.fresh n).left, .bool (Rk.fresh n).dead, .int .i64 (Rk.fresh n).steps] 43) = W3 := ⟨_, rfl⟩
  have k3 : Keeps w2 W3 [] := by rw [← hW3]; exact Keeps.alloc _ _
  have r3 : Row W3 w2.heap.size 43 (rkRow (Rk.fresh n) A1 c1 B1 d1) := by rw [← hW3]; exact Row.new _ _ _
  have s3 := H2.out.1.h.size
  have l3 := H2.out.1.lt
  have HP := Lib.hid (show PlAt w W3 d0 w2.heap.size (Dk.fresh n) (Rk.fresh n) A1 c1 B1 d1 ∧ (Dk.fresh n).waits.length ≤ 0 ∧ (Dk.fresh n).pages = n from ⟨⟨H2.out.1.keeps k3, r3, H2.out.2.keeps k3, DkRk.fresh n, s3, l3⟩, Nat.le_refl _, rfl⟩)
  obtain ⟨b9, hb9⟩ : ∃ b9, w2.heap.size = b9 := ⟨_, rfl⟩
  rw [hW3]
  rw [hb9] at HP ⊢
  clear k3 r3 hW3 s3 l3 hb9
  go_loopw [11] (fun i wr => ∃ (k : Nat) (D : Dk) (R : Rk) (A : Option Addr) (c : Nat) (B : Option Addr) (e : Nat), k ≤ acts.length ∧ i = .int .i64 k ∧ Hid (PlAt w wr d0 b9 D R A c B e ∧ D.waits.length ≤ k ∧ D.pages = n)) (fun i _ => acts.length - (intOf i).toNat)
  case atStart => exact ⟨0, _, _, _, _, _, _, by omega, rfl, HP⟩
  case round =>
    clear HP
    obtain ⟨k, D, R, A9, c9, B9, e9, hk, rfl, HRR⟩ := hrel
    have HR := Lib.hid HRR.out.1
    have hrow := HR.out.row
    have y0 := hrow.cell 0
    have y1 := hrow.cell 1
    have y2 := hrow.cell 2
    have y3 := hrow.cell 3
    have y4 := hrow.cell 4
    have y5 := hrow.cell 5
    simp only [List.getElem?_toArray, List.getElem?_cons_zero, List.getElem?_cons_succ] at y0 y1 y2 y3 y4 y5
    have hal := h1
    by_cases hkl : k < acts.length
    · obtain ⟨bl, ol, rfl, hbl, hcl⟩ := HA.out.1.lies (by omega)
      have hc := hcl k hkl
      obtain ⟨x, hx⟩ : ∃ x, acts[k] = x := ⟨_, rfl⟩
      rw [hx] at hc
      have hxo : x.ok := by rw [← hx]; exact HA.out.1.r _ (List.getElem_mem hkl)
      obtain ⟨D', hD'⟩ : ∃ D', (D.act x).2 = D' := ⟨_, rfl⟩
      obtain ⟨R', hR'⟩ : ∃ R', (R.act x).2 = R' := ⟨_, rfl⟩
      have hok := HR.out.dk.ok
      have hact := HR.out.rel.act hok x
      have hsz := D.act_size x
      have hwl : D.waits.length ≤ 100000 := by have := HRR.out.2.1; omega
      have HX := Lib.hid (show x.ok ∧ D.waits.length ≤ 100000 ∧ RkFit R ∧ (D.act x).2 = D' ∧ (R.act x).2 = R' from ⟨hxo, hwl, HR.out.rel.fit hok hwl, hD', hR'⟩)
      have HAC := Lib.hid (show (((D.act x).1 : Int) == ((R.act x).1 : Int)) = true by rw [hact.1]; simp)
      have HRL := Lib.hid (show DkRk D' R' ∧ D'.waits.length ≤ k + 1 ∧ D'.pages = n from by rw [hD', hR'] at hact; rw [hD'] at hsz; exact ⟨hact.2, by have := HRR.out.2.1; omega, by rw [hsz.2]; exact HRR.out.2.2⟩)
      have BPL := Lib.hid (show ∀ W, KeepsOld w wr W ∧ KeepRow b9 43 wr W → W.heap.size ≠ b9 from fun W hC e => by have := (hC.2 _ HR.out.row).lt; omega)
      have DPL := Lib.hid (show ∀ W, KeepsOld w wr W ∧ KeepRow b9 43 wr W → W.heap.size ≠ d0 from fun W hC e => by have := (hC.2 _ HR.out.row).lt; have := HR.out.f.2; omega)
      have MC0 := fun (W' : World) (hW : Keeps w W' []) => (hW.cell (p := ⟨bl, ol + k * 4, none⟩) hbl (by simp)).trans hc.1
      have MC1 := fun (W' : World) (hW : Keeps w W' []) => (hW.cell (p := ⟨bl, ol + k * 4 + 1, none⟩) hbl (by simp)).trans hc.2.1
      have MC2 := fun (W' : World) (hW : Keeps w W' []) => (hW.cell (p := ⟨bl, ol + k * 4 + 2, none⟩) hbl (by simp)).trans hc.2.2.1
      have MC3 := fun (W' : World) (hW : Keeps w W' []) => (hW.cell (p := ⟨bl, ol + k * 4 + 3, none⟩) hbl (by simp)).trans hc.2.2.2
      clear hD' hR' hok hact hsz hwl hx hxo hrow y0 y1 y2 y3 y4 y5 hc hcl
      have HLK := Lib.hid (show LightK [⟨6, [0, 1, 2, 3, 4, 5], [7, 8, 11]⟩, ⟨11, [0, 1, 2, 3, 4, 5, 6, 7, 8, 10], [12]⟩] (fun x y => KeepsOld w x y ∧ KeepRow b9 43 x y) (twoA 6 (fun x y => BoxOnly 43 x y ∧ KeepRow b9 43 x y) 11 (RowsBut d0)) from .two ((KeepsOld.ok w).and (KeepRow.ok b9 43)) ((BoxOnly.ok 43).and (KeepRow.ok b9 43)) (RowsBut.ok d0))
      have MB := fun (W' : World) (hW : KeepRow b9 43 wr W') => hW _ HR.out.row
      have MB0 := fun (W' : World) (hW : KeepRow b9 43 wr W') => (MB W' hW).cell 0
      have MB1 := fun (W' : World) (hW : KeepRow b9 43 wr W') => (MB W' hW).cell 1
      have MB2 := fun (W' : World) (hW : KeepRow b9 43 wr W') => (MB W' hW).cell 2
      have MB3 := fun (W' : World) (hW : KeepRow b9 43 wr W') => (MB W' hW).cell 3
      have MB4 := fun (W' : World) (hW : KeepRow b9 43 wr W') => (MB W' hW).cell 4
      have MB5 := fun (W' : World) (hW : KeepRow b9 43 wr W') => (MB W' hW).cell 5
      simp only [List.getElem?_toArray, List.getElem?_cons_zero, List.getElem?_cons_succ] at MB0 MB1 MB2 MB3 MB4 MB5
      go_wp2_with fail
      refine wp_region_writersL [⟨6, [0, 1, 2, 3, 4, 5], [7, 8, 11]⟩, ⟨11, [0, 1, 2, 3, 4, 5, 6, 7, 8, 10], [12]⟩] ((fun x y => KeepsOld w x y ∧ KeepRow b9 43 x y)) ((twoA 6 (fun x y => BoxOnly 43 x y ∧ KeepRow b9 43 x y) 11 (RowsBut d0))) _ 13 HLK.out (by kernel_rfl) rfl (by kernel_rfl) ?_
      simp only [List.take_succ_cons, List.take_zero, List.drop_succ_cons, List.drop_zero]
      apply loosek_is 0 _ rfl
      · intro W vals hW hkn
        clear hkn
        have hC := hW.c
        refine ⟨?_⟩
        simp only [fill]
        go_simp
        first | exact ⟨HLK.out.stp (Keeps.refl _ _), rfl⟩ | exact ⟨HLK.out.stp (Keeps.alloc _ _), rfl⟩
      simp only [addEnt]
      apply loosek_is 1 _ rfl
      · intro W vals hW hkn
        have hC := hW.c
        simp only [knowsK] at hkn
        try simp only [and_true] at hkn
        have hk := (PreK.two1 hW (.inr (by decide))).2; clear hC hW
        refine ⟨?_⟩
        simp only [fill]
        go_simp
        first | exact ⟨HLK.out.stp (Keeps.refl _ _), rfl⟩ | exact ⟨HLK.out.stp (Keeps.alloc _ _), rfl⟩
      simp only [addEnt]
      apply loosek_is 2 _ rfl
      · intro W vals hW hkn
        clear hkn
        have hC := hW.c
        refine ⟨?_⟩
        simp only [fill]
        go_simp
        first | exact ⟨HLK.out.stp (Keeps.refl _ _), rfl⟩ | exact ⟨HLK.out.stp (Keeps.alloc _ _), rfl⟩
      simp only [addEnt]
      apply loosek_is 3 _ rfl
      · intro W vals hW hkn
        clear hkn
        have hC := hW.c
        refine ⟨?_⟩
        simp only [fill]
        go_simp
        first | exact ⟨HLK.out.stp (Keeps.refl _ _), rfl⟩ | exact ⟨HLK.out.stp (Keeps.alloc _ _), rfl⟩
      simp only [addEnt]
      apply loosek_is 4 _ rfl
      · intro W vals hW hkn
        clear hkn
        have hC := hW.c
        refine ⟨?_⟩
        simp only [fill]
        go_simp
        first | exact ⟨HLK.out.stp (Keeps.refl _ _), rfl⟩ | exact ⟨HLK.out.stp (Keeps.alloc _ _), rfl⟩
      simp only [addEnt]
      apply loosek_is 5 _ rfl
      · intro W vals hW hkn
        have hC := hW.c
        simp only [knowsK] at hkn
        try simp only [and_true] at hkn
        have hk := hC.1 HR.out.dk.h; clear hC hW
        refine ⟨?_⟩
        simp only [fill]
        go_simp
        first | exact ⟨HLK.out.stp (Keeps.refl _ _), rfl⟩ | exact ⟨HLK.out.stp (Keeps.alloc _ _), rfl⟩
      simp only [addEnt]
      refine loosek_has 6 (fun v W' => ∃ A9 c9 B9 e9, v = .tuple #[.agg #[.slice A9 R'.lasts.length c9, .slice B9 R'.waits.length e9, .int .i64 R'.kind, .int .i64 R'.left, .bool R'.dead, .int .i64 R'.steps], .bool true] ∧ RkAt W' (.agg #[.slice A9 R'.lasts.length c9, .slice B9 R'.waits.length e9, .int .i64 R'.kind, .int .i64 R'.left, .bool R'.dead, .int .i64 R'.steps]) R' ∧ DkIn w W' d0 D') rfl (fun W vals hW hkn φ' hφ => ?_) ?_
      · have hC := hW.c
        simp only [knowsK] at hkn
        try simp only [and_true] at hkn
        clear hkn; have hb6 := PreK.two1 hW (.inl rfl); have HB6 := Lib.hid (And.intro hb6 (And.intro hC (And.intro (HR.out.dk.boxOnly hb6.1 (hC.1 HR.out.dk.h)) (HR.out.ref.boxOnly hb6.1)))); clear hb6 hC hW
        refine ⟨?_⟩
        simp only [fill]
        go_simp
        ((with_reducible refine loosek_writes HLK.out hφ ?_); refine (does2_any (DkSense.one w d0) W D HB6.out.2.2.1 _ R HB6.out.2.2.2 x HX.out.1 HX.out.2.1 HX.out.2.2.1).mono ?_; intro e w5 hpo; unfold DoesPost at hpo; rw [HX.out.2.2.2.1, HX.out.2.2.2.2] at hpo; obtain ⟨g', rfl, hg', hp', hrb⟩ := hpo; obtain ⟨A9, c9, B9, e9, rfl, _, _⟩ := hg'.e; exact ⟨_, rfl, .two ⟨fun _ => hp'.h, fun cs hr => hrb.row (by have := HR.out.f.2; omega) hr⟩ (fun h => absurd rfl h) (fun _ => hrb), A9, c9, B9, e9, by rw [HAC.out], hg', hp'⟩)
      simp only [addEnt]
      refine loosek_has 7 (fun v W' => ∃ A9 c9 B9 e9, v = .tuple #[.agg #[.slice A9 R'.lasts.length c9, .slice B9 R'.waits.length e9, .int .i64 R'.kind, .int .i64 R'.left, .bool R'.dead, .int .i64 R'.steps], .bool true] ∧ RkAt W' (.agg #[.slice A9 R'.lasts.length c9, .slice B9 R'.waits.length e9, .int .i64 R'.kind, .int .i64 R'.left, .bool R'.dead, .int .i64 R'.steps]) R') rfl (fun W vals hW hkn φ' hφ => ?_) ?_
      · have hC := hW.c
        simp only [knowsK] at hkn
        try simp only [and_true] at hkn
        obtain ⟨W1, h0, h1, A9, c9, B9, e9, hv, hr, -⟩ := hkn (by decide); have HR7 := Lib.hid (hr.boxOnly (BtwK.two1 h1 (.inl rfl)).1); clear hr h0 h1 hkn hC hW
        refine ⟨?_⟩
        simp only [fill]
        go_simp
        exact ⟨HLK.out.stp (Keeps.refl _ _), hφ.out _ _ ⟨A9, c9, B9, e9, rfl, HR7.out⟩⟩
      simp only [addEnt]
      refine loosek_has 8 (fun v W' => ∃ A9 c9 B9 e9, v = .agg #[.slice A9 R'.lasts.length c9, .slice B9 R'.waits.length e9, .int .i64 R'.kind, .int .i64 R'.left, .bool R'.dead, .int .i64 R'.steps] ∧ RkAt W' (.agg #[.slice A9 R'.lasts.length c9, .slice B9 R'.waits.length e9, .int .i64 R'.kind, .int .i64 R'.left, .bool R'.dead, .int .i64 R'.steps]) R') rfl (fun W vals hW hkn φ' hφ => ?_) ?_
      · have hC := hW.c
        simp only [knowsK] at hkn
        try simp only [and_true] at hkn
        obtain ⟨W1, h0, h1, A9, c9, B9, e9, hv, hr⟩ := hkn.1 (by decide); have HR7 := Lib.hid (hr.boxOnly (BtwK.two1 h1 (.inr (.inl (show (7 : Nat) ∈ [7, 8, 11] by decide)))).1); clear hr h0 h1 hkn hC hW
        refine ⟨?_⟩
        simp only [fill]
        go_simp
        exact ⟨HLK.out.stp (Keeps.refl _ _), hφ.out _ _ ⟨A9, c9, B9, e9, rfl, HR7.out⟩⟩
      simp only [addEnt]
      apply loosek_is 9 _ rfl
      · intro W vals hW hkn
        have hC := hW.c
        simp only [knowsK] at hkn
        try simp only [and_true] at hkn
        obtain ⟨W1, h0, h1, A9, c9, B9, e9, hv, hr⟩ := hkn.2.1 (by decide); clear hr h0 h1 hkn hC hW
        refine ⟨?_⟩
        simp only [fill]
        go_simp
        first | exact ⟨HLK.out.stp (Keeps.refl _ _), rfl⟩ | exact ⟨HLK.out.stp (Keeps.alloc _ _), rfl⟩
      simp only [addEnt]
      refine loosek_has 10 (fun v W' => ∃ b, v = .pointer (some ⟨b, 0, none⟩) ∧ w.heap.size ≤ b ∧ b ≠ d0 ∧ b ≠ b9 ∧ Row W' b 43 rkZero) rfl (fun W vals hW hkn φ' hφ => ?_) ?_
      · have hC := hW.c
        simp only [knowsK] at hkn
        try simp only [and_true] at hkn
        clear hkn; have hsd := (hC.1 HR.out.dk.h).size; have HDL := Lib.hid (And.intro hsd (And.intro (DPL.out W hC) (BPL.out W hC)))
        refine ⟨?_⟩
        simp only [fill]
        go_simp
        exact ⟨HLK.out.stp (Keeps.alloc _ _), hφ.out _ _ ⟨_, rfl, HDL.out.1, HDL.out.2.1, HDL.out.2.2, Row.new _ _ _⟩⟩
      simp only [addEnt]
      refine loosek_had 11 [12] (fun rd _ W' => ∃ b A9 c9 B9 e9, rd = [.pointer (some ⟨b, 0, none⟩)] ∧ w.heap.size ≤ b ∧ b ≠ d0 ∧ b ≠ b9 ∧ Row W' b 43 #[.slice A9 R'.lasts.length c9, .slice B9 R'.waits.length e9, .int .i64 R'.kind, .int .i64 R'.left, .bool R'.dead, .int .i64 R'.steps] ∧ RkAt W' (.agg #[.slice A9 R'.lasts.length c9, .slice B9 R'.waits.length e9, .int .i64 R'.kind, .int .i64 R'.left, .bool R'.dead, .int .i64 R'.steps]) R') rfl (by kernel_rfl) (fun W vals hW hkn φ' hφ => ?_) ?_
      · have hC := hW.c
        simp only [knowsK] at hkn
        try simp only [and_true] at hkn
        obtain ⟨W1, h0, h1, b12, hv, hb1, hb2, hb3, hr⟩ := hkn.1 (by decide); obtain ⟨W2, k0, k1, A9, c9, B9, e9, hv2, hg⟩ := hkn.2.1 (by decide); have q12 := (BtwK.two2 h1 (by decide) (.inr (.inr (.inl rfl)))).row hb2 hr; have HB12 := Lib.hid (And.intro q12 (And.intro (hg.boxOnly (BtwK.two1 k1 (.inr (.inl (show (8 : Nat) ∈ [7, 8, 11] by decide)))).1) (And.intro hb1 (And.intro hb2 hb3)))); have g0 := q12.cell 0; have g1 := q12.cell 1; have g2 := q12.cell 2; have g3 := q12.cell 3; have g4 := q12.cell 4; have g5 := q12.cell 5; have f0 := q12.frozen 0; have f1 := q12.frozen 1; have f2 := q12.frozen 2; have f3 := q12.frozen 3; have f4 := q12.frozen 4; have f5 := q12.frozen 5; simp only [List.getElem?_toArray, List.getElem?_cons_zero, List.getElem?_cons_succ] at g0 g1 g2 g3 g4 g5; clear h0 h1 hb1 hb2 hb3 hr k0 k1 hg q12 hkn hC hW
        refine ⟨?_⟩
        simp only [fill]
        go_simp
        exact pl_stored HB12.out.1 HB12.out.2.1 HB12.out.2.2 hφ (by simp [hv])
      simp only [addEnt]
      apply loosek_is 12 _ rfl
      · intro W vals hW hkn
        clear hkn
        have hC := hW.c
        refine ⟨?_⟩
        simp only [fill]
        go_simp
        first | exact ⟨HLK.out.stp (Keeps.refl _ _), rfl⟩ | exact ⟨HLK.out.stp (Keeps.alloc _ _), rfl⟩
      simp only [addEnt]
      refine loosek_nil (fun W9 vals hW hkn => ?_)
      simp only [knowsAllK] at hkn
      try simp only [and_true] at hkn
      simp only [fill, Act.put, List.setIfInBounds_toArray, List.set_cons_succ, List.set_cons_zero]
      obtain ⟨⟨_, Wa, a1, a2, b12, A2, c2, B2, e2, hrd, hb1, hb2, hb3, hr12, hg12⟩, -, -, -, Wb, q1, q2, _, _, _, _, hv6, hg6, hd6⟩ := hkn
      have hv12 : vals 12 = .pointer (some ⟨b12, 0, none⟩) := by simpa using hrd
      rw [hv12]
      have hko := hW.1 HR.out.dk.h
      have q12 := (PostK.two2 a2 (by decide) (.inl rfl)).row hb2 hr12
      have HQ := Lib.hid (And.intro (hd6.boxOnly (PostK.two1 q2 (.inl rfl)).1 hko) (And.intro (hW.2 _ HR.out.row) (And.intro q12 (And.intro (hg12.boxOnly (PostK.two1 a2 (.inr (show (11 : Nat) ∈ [7, 8, 11] by decide))).1) hb3))))
      clear a1 a2 hrd hb1 hb2 hb3 hr12 hg12 q1 q2 hv6 hg6 hd6 hv12 hko hW MB MB0 MB1 MB2 MB3 MB4 MB5 MC0 MC1 MC2 MC3
      have y0 := q12.cell 0
      have y1 := q12.cell 1
      have y2 := q12.cell 2
      have y3 := q12.cell 3
      have y4 := q12.cell 4
      have y5 := q12.cell 5
      simp only [List.getElem?_toArray, List.getElem?_cons_zero, List.getElem?_cons_succ] at y0 y1 y2 y3 y4 y5
      clear q12
      go_wp2_with fail
      refine (same2_any HQ.out.1.here _ R' HQ.out.2.2.2.1 HRL.out.1 (by have := HRL.out.2.1; omega)).mono ?_
      rintro e w6 ⟨rfl, hk6⟩
      have q12 := HQ.out.2.2.1.keeps hk6
      have q9 := HQ.out.2.1.keeps hk6
      have HQ6 := Lib.hid (And.intro (HQ.out.1.keeps hk6) (And.intro q9 (And.intro q12 (HQ.out.2.2.2.1.keeps hk6))))
      have y0 := q12.cell 0
      have y1 := q12.cell 1
      have y2 := q12.cell 2
      have y3 := q12.cell 3
      have y4 := q12.cell 4
      have y5 := q12.cell 5
      simp only [List.getElem?_toArray, List.getElem?_cons_zero, List.getElem?_cons_succ] at y0 y1 y2 y3 y4 y5
      have x0 := q9.cell 0
      have x1 := q9.cell 1
      have x2 := q9.cell 2
      have x3 := q9.cell 3
      have x4 := q9.cell 4
      have x5 := q9.cell 5
      simp only [List.getElem?_toArray, List.getElem?_cons_zero, List.getElem?_cons_succ] at x0 x1 x2 x3 x4 x5
      have z0 := q9.frozen 0
      have z1 := q9.frozen 1
      have z2 := q9.frozen 2
      have z3 := q9.frozen 3
      have z4 := q9.frozen 4
      have z5 := q9.frozen 5
      clear q12 q9 hk6
      go_wp2_with fail
      obtain ⟨p1, p2⟩ := rk_put HQ6.out.2.1 (.slice A2 R'.lasts.length c2) (.slice B2 R'.waits.length e2) (.int .i64 R'.kind) (.int .i64 R'.left) (.bool R'.dead) (.int .i64 R'.steps)
      exact ⟨⟨k + 1, D', R', A2, c2, B2, e2, by omega, by go_num, Lib.hid ⟨⟨HQ6.out.1.box HR.out.f.1 HQ6.out.2.1 (by decide) (by decide) p2, p1, HQ6.out.2.2.2.keep p2 (fun y hy => by obtain rfl := List.mem_singleton.1 hy; exact ⟨_, _, HQ6.out.2.1, by decide, by decide⟩), HRL.out.1, HR.out.f⟩, HRL.out.2.1, HRL.out.2.2⟩⟩, by simp [intOf]; omega⟩
    · obtain rfl : k = acts.length := by omega
      have hwl : D.waits.length ≤ 100000 := by have := HRR.out.2.1; omega
      have HW := Lib.hid hwl
      clear hrow hwl
      go_wp2_with fail
      refine (dkRead_dk HR.out.dk n).mono ?_
      rintro e w3 ⟨hk3, hv⟩
      rw [if_neg (by rw [HRR.out.2.2]; omega)] at hv
      subst hv
      have H3 := Lib.hid (And.intro (HR.out.dk.keeps hk3) (And.intro (HR.out.row.keeps hk3) (HR.out.ref.keeps hk3)))
      clear hk3
      go_wp2_with fail
      refine (dkCrash_dk H3.out.1 (by have := HW.out; omega) B d picks (HA.out.2.lies.keep H3.out.1.h (Nat.le_refl _) (by simp) |>.mono H3.out.1.h.size) HA.out.2.le).mono ?_
      rintro e w4 ⟨c0, rfl, hc0⟩
      have H4 := Lib.hid (And.intro (H3.out.1.keeps hc0.h) (And.intro (H3.out.2.1.keeps hc0.h) (And.intro (H3.out.2.2.keeps hc0.h) hc0)))
      clear hc0
      have q4 := H4.out.2.1
      have y0 := q4.cell 0
      have y1 := q4.cell 1
      have y2 := q4.cell 2
      have y3 := q4.cell 3
      have y4 := q4.cell 4
      have y5 := q4.cell 5
      simp only [List.getElem?_toArray, List.getElem?_cons_zero, List.getElem?_cons_succ] at y0 y1 y2 y3 y4 y5
      clear q4
      go_wp2_with fail
      refine (same2_any H4.out.1.here _ R H4.out.2.2.1 HR.out.rel HW.out).mono ?_
      rintro e w5 ⟨rfl, hk5⟩
      have q5 := H4.out.2.1.keeps hk5
      have H5 := Lib.hid (And.intro (H4.out.2.2.1.keeps hk5) (And.intro (H4.out.2.2.2.keeps hk5) (H4.out.1.keeps hk5)))
      have y0 := q5.cell 0
      have y1 := q5.cell 1
      have y2 := q5.cell 2
      have y3 := q5.cell 3
      have y4 := q5.cell 4
      have y5 := q5.cell 5
      simp only [List.getElem?_toArray, List.getElem?_cons_zero, List.getElem?_cons_succ] at y0 y1 y2 y3 y4 y5
      clear q5 hk5
      go_wp2_with fail
      have hok := HR.out.dk.ok
      have hrl := HR.out.rel
      have hll : R.lasts.length = D.pages := by rw [hrl.l, listOf_length]
      refine (refCrash_any w5 _ R H5.out.1 (by have := hok.p4; omega) (fun p hp => by rw [hrl.w] at hp; have := hok.w p hp; omega) (fun b hb => ?_) (by rw [hrl.w]; exact HW.out) B d picks (HA.out.2.lies.keep H5.out.2.2.h (Nat.le_refl _) (by simp) |>.mono H5.out.2.2.h.size) (by omega)).mono ?_
      · rw [hrl.l] at hb
        unfold listOf at hb
        obtain ⟨i, _, rfl⟩ := List.mem_map.1 hb
        cases hi : D.lasts (i : Int) with
        | none => exact nought_length
        | some b => exact (hok.l _ _ hi).2.2
      · rintro e w6 ⟨g6, rfl, hg6, hk6⟩
        have H6 := Lib.hid (And.intro (H5.out.2.1.keeps hk6) (And.intro hg6 (And.intro (H5.out.2.2.keeps hk6) (hrl.crash hok picks))))
        clear hg6 hk6 hok hrl hll
        go_wp2_with fail
        refine (same2_any H6.out.1.here g6 (R.crash picks) H6.out.2.1 H6.out.2.2.2 (by show ([] : List (Int × List UInt8)).length ≤ _; simp)).mono ?_
        rintro e w7 ⟨rfl, hk7⟩
        have H7 := Lib.hid (H6.out.2.2.1.h.then_ hk7)
        clear hk7
        go_wp2_with fail
        refine (known2_go H7.out).mono ?_
        rintro e w' ⟨rfl, hk⟩
        have HK := Lib.hid hk
        clear hk
        go_wp2_with fail
        go_ret
        exact ⟨rfl, HK.out⟩
end Go.Proofs.Ytehlabdbbbbopaa
