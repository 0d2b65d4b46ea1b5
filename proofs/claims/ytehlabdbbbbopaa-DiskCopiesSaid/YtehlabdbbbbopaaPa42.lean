/- The statement DiskCopies (layer 2): rounds of its walk. -/
import Derived.Test.YtehlabdbbbbopaaPa41
import Derived.Test.YtehlabdbbbbopaaPa39
import Derived.Deep.DeepCutAuto

namespace Go.Proofs.Ytehlabdbbbbopaa
open Go.RowKit Go.Maps Go.Shelf

/-- Lists of texts and of writes stay. -/
def KeepTxt (w w' : World) : Prop := ∀ b t cs, t ≠ 43 → t ≠ 67 → Row w b t cs → Row w' b t cs
theorem KeepTxt.ok : RelOk KeepTxt := ⟨fun h _ _ _ _ _ hr => hr.keeps h, fun h k b t cs h1 h2 hr => k b t cs h1 h2 (h b t cs h1 h2 hr)⟩
theorem RkAt.txt {w w' : World} {g : Value} {R : Rk} (h : RkAt w g R) (k : KeepTxt w w') : RkAt w' g R := by
  obtain ⟨A, c, B, d, e, h1, h2⟩ := h.e
  refine ⟨A, c, B, d, e, fun hp => ?_, fun hp => ?_⟩
  · obtain ⟨b, o, cs, ea, hr, hc⟩ := h1 hp
    exact ⟨b, o, cs, ea, k b _ cs (by decide) (by decide) hr, hc⟩
  · obtain ⟨b, o, cs, ea, hr, hc⟩ := h2 hp
    exact ⟨b, o, cs, ea, k b _ cs (by decide) (by decide) hr, hc⟩
/-- A disk in some company, in a round. -/
structure DkCo (Wd : World) (P : World → Dk → Prop) (dd : Nat) : Prop where
  s : DkSense Wd.heap.size P dd
  h : ∀ {w D}, P w D → Keeps Wd w []
  bo : ∀ {w w' D}, P w D → BoxOnly 43 w w' → Keeps Wd w' [] → P w' D
theorem DkCo.one (Wd : World) (d : Nat) : DkCo Wd (fun w D => DkIn Wd w d D) d := ⟨DkSense.one Wd d, fun h => h.h, fun h b k => h.boxOnly b k⟩
theorem DkCo.two (Wd : World) (d : Nat) (D : Dk) (c : Nat) : DkCo Wd (fun w C => DkTwo Wd w d D c C) c := ⟨DkSense.two Wd d D c, fun h => h.h, fun h b k => h.boxOnly b k⟩
/-- What stands in a round. -/
structure CoAt (P : World → Dk → Prop) (Wd wr : World) (dd b9 bx : Nat) (D : Dk) (R : Rk) (A : Option Addr) (c : Nat) (B : Option Addr) (e : Nat) : Prop where
  dk : P wr D
  row : Row wr b9 43 (rkRow R A c B e)
  ref : RkAt wr (.agg (rkRow R A c B e)) R
  rel : DkRk D R
  ok : DkOk D
  z : D.z
  f : Wd.heap.size ≤ b9 ∧ b9 ≠ dd ∧ bx ≠ b9
theorem co_stored {Wd W : World} {b9 bx dd : Nat} {y0 y1 y2 y3 y4 y5 : Value} {R' : Rk} {A9 B9 : Option Addr} {c9 e9 : Nat} (hr : Row W b9 43 #[y0, y1, y2, y3, y4, y5]) (hg : RkAt W (.agg #[.slice A9 R'.lasts.length c9, .slice B9 R'.waits.length e9, .int .i64 R'.kind, .int .i64 R'.left, .bool R'.dead, .int .i64 R'.steps]) R') (hb : Wd.heap.size ≤ b9 ∧ b9 ≠ dd ∧ bx ≠ b9)
    {φ' : Value → World → Prop} (hφ : Hid (∀ (u : Value) (w : World), (∃ A9 c9 B9 e9, Row w b9 43 #[.slice A9 R'.lasts.length c9, .slice B9 R'.waits.length e9, .int .i64 R'.kind, .int .i64 R'.left, .bool R'.dead, .int .i64 R'.steps] ∧ RkAt w (.agg #[.slice A9 R'.lasts.length c9, .slice B9 R'.waits.length e9, .int .i64 R'.kind, .int .i64 R'.left, .bool R'.dead, .int .i64 R'.steps]) R') → φ' u w)) {p1 a1 p2 a2 : List Nat} :
    StpK [⟨6, p1, a1⟩, ⟨10, p2, a2⟩] (fun x y => KeepsOld Wd x y ∧ KeepRow bx 43 x y ∧ KeepTxt x y) (twoA 6 (fun x y => BoxOnly 43 x y ∧ KeepRow bx 43 x y) 10 (RowsBut dd)) 10 W ((((((W.setCell ⟨b9, 0, none⟩ (.slice A9 R'.lasts.length c9)).setCell ⟨b9, 1, none⟩ (.slice B9 R'.waits.length e9)).setCell ⟨b9, 2, none⟩ (.int .i64 R'.kind)).setCell ⟨b9, 3, none⟩ (.int .i64 R'.left)).setCell ⟨b9, 4, none⟩ (.bool R'.dead)).setCell ⟨b9, 5, none⟩ (.int .i64 R'.steps)) ∧
    φ' undef ((((((W.setCell ⟨b9, 0, none⟩ (.slice A9 R'.lasts.length c9)).setCell ⟨b9, 1, none⟩ (.slice B9 R'.waits.length e9)).setCell ⟨b9, 2, none⟩ (.int .i64 R'.kind)).setCell ⟨b9, 3, none⟩ (.int .i64 R'.left)).setCell ⟨b9, 4, none⟩ (.bool R'.dead)).setCell ⟨b9, 5, none⟩ (.int .i64 R'.steps)) := by
  obtain ⟨p1, p2⟩ := rk_put hr (.slice A9 R'.lasts.length c9) (.slice B9 R'.waits.length e9) (.int .i64 R'.kind) (.int .i64 R'.left) (.bool R'.dead) (.int .i64 R'.steps)
  have kr : KeepRow bx 43 W _ := fun cs h9 => h9.keep p2 (by simpa using hb.2.2)
  exact ⟨.two ⟨fun h => h.trans p2 (fun y hy hlt => by simp at hy; omega), kr, fun b t cs h1 _ hb' => hb'.keep p2 (by have := Row.ne_type hb' hr h1; simpa using this)⟩ (fun _ => ⟨.put hr p2, kr⟩) (fun h => absurd rfl h), hφ.out _ _ ⟨A9, c9, B9, e9, p1, hg.keep p2 (fun x hx => by obtain rfl := List.mem_singleton.1 hx; exact ⟨_, _, hr, by decide, by decide⟩)⟩⟩
theorem DkOk.act {D : Dk} (h : DkOk D) {x : ActV} (hx : x.ok) (_hl : D.waits.length ≤ 100000) : DkOk (D.act x).2 := by
  unfold Dk.act
  split
  · unfold Dk.write
    split
    · exact h
    · rename_i hb
      split
      · exact h
      · rename_i hp
        split
        · exact h.refused
        · rename_i hc
          have ht := D.ticked_same
          exact ((h.ticked (by simpa using hc)).wrote (by rw [ht.1]; omega) (by simpa using hb)).counted
  · split
    · unfold Dk.flush
      split
      · exact h.refused
      · rename_i hc
        exact ((h.ticked (by simpa using hc)).flushed).counted
    · split
      · exact h.arm hx
      · exact h
/-- What the references' numbers say. -/
structure SameHead (R S : Rk) : Prop where
  wl : R.waits.length = S.waits.length
  k : R.kind = S.kind
  dd : R.dead = S.dead
  lf : R.kind = 0 ∨ R.left = S.left
theorem RkAt.lists {w : World} {R : Rk} {A B : Option Addr} {c e : Nat} (h : RkAt w (.agg (rkRow R A c B e)) R) : ListAt w 9 1 txtV A R.lasts ∧ ListAt w 60 2 waitV B R.waits := by
  obtain ⟨A', c', B', e', h1, h2, h3⟩ := h.e
  simp only [Value.agg.injEq, rkRow, Array.mk.injEq, List.cons.injEq, Value.slice.injEq] at h1
  obtain ⟨⟨rfl, -⟩, ⟨rfl, -⟩, -⟩ := h1
  exact ⟨h2, h3⟩
set_option maxRecDepth 100000 in
set_option maxHeartbeats 4000000 in
theorem diskCopies_some (w : World) (n : Nat) (A0 Ab : Option Addr) (q0 q1 : Nat) (ahead behind : List ActV) (ha : CameD w A0 q0 ahead) (hb : CameD w Ab q1 behind) (hz : ahead.length + behind.length ≤ 40) (h3 : 2 ≤ n) (h4 : n ≤ 20) :
    Calls Try.prog 7 #[.int .i64 (n : Int), .slice A0 ahead.length q0, .slice Ab behind.length q1] w fun e w' => e = .returned (.bool true) ∧ Keeps w w' [] := by
  have HA := Lib.hid (And.intro ha hb)
  have HN := Lib.hid (And.intro h3 h4)
  have h5 : ¬ (20 : Int) < n := by omega
  obtain ⟨z, hzz⟩ : ∃ z, IntKind.i64.wrap ((ahead.length : Int) + (behind.length : Int)) = z := ⟨_, rfl⟩
  have h6 : ¬ (40 : Int) < z := by rw [IntWalk.i64_in _ (by omega)] at hzz; omega
  clear ha hb h3 h4
  go_enter Try.func7, Try.ntmps7
  go_wp2_with fail
  refine (dkNew_good w n (by have := HN.out; omega)).mono ?_
  rintro e w1 ⟨d0, rfl, hN⟩
  rw [Int.toNat_natCast] at hN
  have H1 := Lib.hid (show DkIn w w1 d0 (Dk.fresh n) from hN)
  clear hN
  go_wp2_with fail
  refine (refNew2_any w1 n).mono ?_
  intro e w2 hm
  unfold RkMade at hm
  rw [if_pos (by have := HN.out; omega), Int.toNat_natCast] at hm
  obtain ⟨g, rfl, hg, hk⟩ := hm
  obtain ⟨A1, c1, B1, d1, rfl, hA1, hB1⟩ := hg.e
  have H2 := Lib.hid (And.intro (H1.out.keeps hk) hg)
  clear hg hk hA1 hB1
  go_wp2_with fail
  obtain ⟨W3, hW3⟩ : ∃ W3, w2.alloc (.cells #[.slice A1 (Rk.fresh n).lasts.length c1, .slice B1 (Rk.fresh n).waits.length d1, .int .i64 (Rk.fresh n).kind, .int .i64 (Rk.fresh n).left, .bool (Rk.fresh n).dead, .int .i64 (Rk.fresh n).steps] 43) = W3 := ⟨_, rfl⟩
  have k3 : Keeps w2 W3 [] := by rw [← hW3]; exact Keeps.alloc _ _
  have r3 : Row W3 w2.heap.size 43 (rkRow (Rk.fresh n) A1 c1 B1 d1) := by rw [← hW3]; exact Row.new _ _ _
  have s3 := H2.out.1.h.size
  have l3 := H2.out.1.lt
  obtain ⟨PP, hPP⟩ : ∃ PP : World → Dk → Prop, PP = fun w' D => DkIn w w' d0 D := ⟨_, rfl⟩
  obtain ⟨bx, hbx⟩ : ∃ bx, bx = w2.heap.size + 1 := ⟨_, rfl⟩
  have HCO := Lib.hid (show DkCo w PP d0 from by rw [hPP]; exact DkCo.one w d0)
  have HPP := Lib.hid hPP
  have HP := Lib.hid (show CoAt PP w W3 d0 w2.heap.size bx (Dk.fresh n) (Rk.fresh n) A1 c1 B1 d1 ∧ (Dk.fresh n).waits.length ≤ 0 ∧ (Dk.fresh n).pages = n from ⟨⟨by rw [hPP]; exact H2.out.1.keeps k3, r3, H2.out.2.keeps k3, DkRk.fresh n, H2.out.1.ok, fun _ => rfl, s3, by omega, by omega⟩, Nat.le_refl _, rfl⟩)
  have HBX := Lib.hid (show bx ≠ d0 by omega)
  obtain ⟨b9, hb9⟩ : ∃ b9, w2.heap.size = b9 := ⟨_, rfl⟩
  rw [hW3]
  rw [hb9] at HP ⊢
  clear k3 r3 hW3 s3 l3 hb9 hPP hbx hzz h6
  go_loopw [11] (fun i wr => ∃ (k : Nat) (D : Dk) (R : Rk) (A : Option Addr) (c : Nat) (B : Option Addr) (e : Nat), k ≤ ahead.length ∧ i = .int .i64 k ∧ Hid (CoAt PP w wr d0 b9 bx D R A c B e ∧ D.waits.length ≤ k ∧ D.pages = n)) (fun i _ => ahead.length - (intOf i).toNat)
  case atStart => exact ⟨0, _, _, _, _, _, _, by omega, rfl, HP⟩
  case round =>
    clear HP
    obtain ⟨k, D, R, A9, c9, B9, e9, hk, rfl, HRR⟩ := hrel
    have HR := Lib.hid HRR.out.1
    by_cases hkl : k < ahead.length
    · skip
      obtain ⟨bl, ol, rfl, hbl, hcl⟩ := HA.out.1.lies (by omega)
      have hc := hcl k hkl
      obtain ⟨x, hx⟩ : ∃ x, ahead[k] = x := ⟨_, rfl⟩
      rw [hx] at hc
      have hxo : x.ok := by rw [← hx]; exact HA.out.1.r _ (List.getElem_mem hkl)
      obtain ⟨D', hD'⟩ : ∃ D', (D.act x).2 = D' := ⟨_, rfl⟩
      obtain ⟨R', hR'⟩ : ∃ R', (R.act x).2 = R' := ⟨_, rfl⟩
      have hact := HR.out.rel.act HR.out.ok x
      have hsz := D.act_size x
      have hz := Dk.z_act HR.out.z x
      have hwl : D.waits.length ≤ 100000 := by have := HRR.out.2.1; omega
      have HX := Lib.hid (show x.ok ∧ D.waits.length ≤ 100000 ∧ RkFit R ∧ (D.act x).2 = D' ∧ (R.act x).2 = R' from ⟨hxo, hwl, HR.out.rel.fit HR.out.ok hwl, hD', hR'⟩)
      have HAC := Lib.hid (show (((D.act x).1 : Int) == ((R.act x).1 : Int)) = true by rw [hact.1]; simp)
      have HRL := Lib.hid (show DkRk D' R' ∧ DkOk D' ∧ D'.z ∧ D'.waits.length ≤ D.waits.length + 1 ∧ D'.pages = D.pages from by rw [hD', hR'] at hact; rw [hD'] at hsz hz; exact ⟨hact.2, (by rw [← hD']; exact HR.out.ok.act hxo hwl), hz, hsz.1, hsz.2⟩)
      have MC0 := fun (W' : World) (hW : Keeps w W' []) => (hW.cell (p := ⟨bl, ol + k * 4, none⟩) hbl (by simp)).trans hc.1
      have MC1 := fun (W' : World) (hW : Keeps w W' []) => (hW.cell (p := ⟨bl, ol + k * 4 + 1, none⟩) hbl (by simp)).trans hc.2.1
      have MC2 := fun (W' : World) (hW : Keeps w W' []) => (hW.cell (p := ⟨bl, ol + k * 4 + 2, none⟩) hbl (by simp)).trans hc.2.2.1
      have MC3 := fun (W' : World) (hW : Keeps w W' []) => (hW.cell (p := ⟨bl, ol + k * 4 + 3, none⟩) hbl (by simp)).trans hc.2.2.2
      clear hD' hR' hact hsz hz hwl hx hxo hc hcl
      have HLK := Lib.hid (show LightK [⟨6, [0, 1, 2, 3, 4, 5], [7, 8, 10]⟩, ⟨10, [0, 1, 2, 3, 4, 5, 6, 7, 8], []⟩] (fun x y => KeepsOld w x y ∧ KeepRow bx 43 x y ∧ KeepTxt x y) (twoA 6 (fun x y => BoxOnly 43 x y ∧ KeepRow bx 43 x y) 10 (RowsBut d0)) from .two ((KeepsOld.ok w).and ((KeepRow.ok bx 43).and KeepTxt.ok)) ((BoxOnly.ok 43).and (KeepRow.ok bx 43)) (RowsBut.ok d0))
      have MB0 := fun (W' : World) (hW : RowsBut d0 wr W') => (hW.row HR.out.f.2.1 HR.out.row).cell 0
      have MB1 := fun (W' : World) (hW : RowsBut d0 wr W') => (hW.row HR.out.f.2.1 HR.out.row).cell 1
      have MB2 := fun (W' : World) (hW : RowsBut d0 wr W') => (hW.row HR.out.f.2.1 HR.out.row).cell 2
      have MB3 := fun (W' : World) (hW : RowsBut d0 wr W') => (hW.row HR.out.f.2.1 HR.out.row).cell 3
      have MB4 := fun (W' : World) (hW : RowsBut d0 wr W') => (hW.row HR.out.f.2.1 HR.out.row).cell 4
      have MB5 := fun (W' : World) (hW : RowsBut d0 wr W') => (hW.row HR.out.f.2.1 HR.out.row).cell 5
      simp only [List.getElem?_toArray, List.getElem?_cons_zero, List.getElem?_cons_succ] at MB0 MB1 MB2 MB3 MB4 MB5
      go_wp2_with fail
      refine wp_region_writersL [⟨6, [0, 1, 2, 3, 4, 5], [7, 8, 10]⟩, ⟨10, [0, 1, 2, 3, 4, 5, 6, 7, 8], []⟩] ((fun x y => KeepsOld w x y ∧ KeepRow bx 43 x y ∧ KeepTxt x y)) ((twoA 6 (fun x y => BoxOnly 43 x y ∧ KeepRow bx 43 x y) 10 (RowsBut d0))) _ 11 HLK.out (by kernel_rfl) rfl (by kernel_rfl) ?_
      simp only [List.take_succ_cons, List.take_zero, List.drop_succ_cons, List.drop_zero]
      apply loosek_is 0 _ rfl
      · intro W vals hW hkn
        clear hkn
        have hC := hW.c
        refine ⟨?_⟩
        simp only [fill]
        go_simp
        first | exact ⟨HLK.out.stp (Keeps.refl _ _), rfl⟩ | exact ⟨HLK.out.stp (Keeps.alloc _ _), rfl⟩
      simp only [addEnt]
      apply loosek_is 1 _ rfl
      · intro W vals hW hkn
        have hC := hW.c
        simp only [knowsK] at hkn
        try simp only [and_true] at hkn
        have hk := PreK.two2 hW (by decide) (.inr (by decide)); clear hC hW
        refine ⟨?_⟩
        simp only [fill]
        go_simp
        first | exact ⟨HLK.out.stp (Keeps.refl _ _), rfl⟩ | exact ⟨HLK.out.stp (Keeps.alloc _ _), rfl⟩
      simp only [addEnt]
      apply loosek_is 2 _ rfl
      · intro W vals hW hkn
        clear hkn
        have hC := hW.c
        refine ⟨?_⟩
        simp only [fill]
        go_simp
        first | exact ⟨HLK.out.stp (Keeps.refl _ _), rfl⟩ | exact ⟨HLK.out.stp (Keeps.alloc _ _), rfl⟩
      simp only [addEnt]
      apply loosek_is 3 _ rfl
      · intro W vals hW hkn
        clear hkn
        have hC := hW.c
        refine ⟨?_⟩
        simp only [fill]
        go_simp
        first | exact ⟨HLK.out.stp (Keeps.refl _ _), rfl⟩ | exact ⟨HLK.out.stp (Keeps.alloc _ _), rfl⟩
      simp only [addEnt]
      apply loosek_is 4 _ rfl
      · intro W vals hW hkn
        clear hkn
        have hC := hW.c
        refine ⟨?_⟩
        simp only [fill]
        go_simp
        first | exact ⟨HLK.out.stp (Keeps.refl _ _), rfl⟩ | exact ⟨HLK.out.stp (Keeps.alloc _ _), rfl⟩
      simp only [addEnt]
      apply loosek_is 5 _ rfl
      · intro W vals hW hkn
        have hC := hW.c
        simp only [knowsK] at hkn
        try simp only [and_true] at hkn
        have hk := hC.1 (HCO.out.h HR.out.dk); clear hC hW
        refine ⟨?_⟩
        simp only [fill]
        go_simp
        first | exact ⟨HLK.out.stp (Keeps.refl _ _), rfl⟩ | exact ⟨HLK.out.stp (Keeps.alloc _ _), rfl⟩
      simp only [addEnt]
      refine loosek_has 6 (fun v W' => ∃ A9 c9 B9 e9, v = .tuple #[.agg #[.slice A9 R'.lasts.length c9, .slice B9 R'.waits.length e9, .int .i64 R'.kind, .int .i64 R'.left, .bool R'.dead, .int .i64 R'.steps], .bool true] ∧ RkAt W' (.agg #[.slice A9 R'.lasts.length c9, .slice B9 R'.waits.length e9, .int .i64 R'.kind, .int .i64 R'.left, .bool R'.dead, .int .i64 R'.steps]) R' ∧ PP W' D') rfl (fun W vals hW hkn φ' hφ => ?_) ?_
      · have hC := hW.c
        simp only [knowsK] at hkn
        try simp only [and_true] at hkn
        clear hkn; have hb6 := PreK.two1 hW (.inl rfl); have HB6 := Lib.hid (And.intro hb6 (And.intro hC (And.intro (HCO.out.bo HR.out.dk hb6.1 (hC.1 (HCO.out.h HR.out.dk))) (HR.out.ref.boxOnly hb6.1)))); clear hb6 hC hW
        refine ⟨?_⟩
        simp only [fill]
        go_simp
        ((with_reducible refine loosek_writes HLK.out hφ ?_); refine (does2_any HCO.out.s W D HB6.out.2.2.1 _ R HB6.out.2.2.2 x HX.out.1 HX.out.2.1 HX.out.2.2.1).mono ?_; intro e w5 hpo; unfold DoesPost at hpo; rw [HX.out.2.2.2.1, HX.out.2.2.2.2] at hpo; obtain ⟨g', rfl, hg', hp', hrb⟩ := hpo; obtain ⟨A9, c9, B9, e9, rfl, _, _⟩ := hg'.e; exact ⟨_, rfl, .two ⟨fun _ => HCO.out.h hp', fun cs hr => hrb.row HBX.out hr, fun b t cs h1 h2 hr => by obtain ⟨ss, hss⟩ := HCO.out.s.row HB6.out.2.2.1; exact hrb.row (Row.ne_type hr hss h2) hr⟩ (fun h => absurd rfl h) (fun _ => hrb), A9, c9, B9, e9, by rw [HAC.out], hg', hp'⟩)
      simp only [addEnt]
      refine loosek_has 7 (fun v W' => ∃ A9 c9 B9 e9, v = .tuple #[.agg #[.slice A9 R'.lasts.length c9, .slice B9 R'.waits.length e9, .int .i64 R'.kind, .int .i64 R'.left, .bool R'.dead, .int .i64 R'.steps], .bool true] ∧ RkAt W' (.agg #[.slice A9 R'.lasts.length c9, .slice B9 R'.waits.length e9, .int .i64 R'.kind, .int .i64 R'.left, .bool R'.dead, .int .i64 R'.steps]) R') rfl (fun W vals hW hkn φ' hφ => ?_) ?_
      · have hC := hW.c
        simp only [knowsK] at hkn
        try simp only [and_true] at hkn
        obtain ⟨W1, h0, h1, A9, c9, B9, e9, hv, hr, -⟩ := hkn (by decide); have HR7 := Lib.hid (hr.boxOnly (BtwK.two1 h1 (.inl rfl)).1); clear hr h0 h1 hkn hC hW
        refine ⟨?_⟩
        simp only [fill]
        go_simp
        exact ⟨HLK.out.stp (Keeps.refl _ _), hφ.out _ _ ⟨A9, c9, B9, e9, rfl, HR7.out⟩⟩
      simp only [addEnt]
      refine loosek_has 8 (fun v W' => ∃ A9 c9 B9 e9, v = .agg #[.slice A9 R'.lasts.length c9, .slice B9 R'.waits.length e9, .int .i64 R'.kind, .int .i64 R'.left, .bool R'.dead, .int .i64 R'.steps] ∧ RkAt W' (.agg #[.slice A9 R'.lasts.length c9, .slice B9 R'.waits.length e9, .int .i64 R'.kind, .int .i64 R'.left, .bool R'.dead, .int .i64 R'.steps]) R') rfl (fun W vals hW hkn φ' hφ => ?_) ?_
      · have hC := hW.c
        simp only [knowsK] at hkn
        try simp only [and_true] at hkn
        obtain ⟨W1, h0, h1, A9, c9, B9, e9, hv, hr⟩ := hkn.1 (by decide); have HR7 := Lib.hid (hr.boxOnly (BtwK.two1 h1 (.inr (.inl (show (7 : Nat) ∈ [7, 8, 10] by decide)))).1); clear hr h0 h1 hkn hC hW
        refine ⟨?_⟩
        simp only [fill]
        go_simp
        exact ⟨HLK.out.stp (Keeps.refl _ _), hφ.out _ _ ⟨A9, c9, B9, e9, rfl, HR7.out⟩⟩
      simp only [addEnt]
      apply loosek_is 9 _ rfl
      · intro W vals hW hkn
        have hC := hW.c
        simp only [knowsK] at hkn
        try simp only [and_true] at hkn
        obtain ⟨W1, h0, h1, A9, c9, B9, e9, hv, hr⟩ := hkn.2.1 (by decide); clear hr h0 h1 hkn hC hW
        refine ⟨?_⟩
        simp only [fill]
        go_simp
        first | exact ⟨HLK.out.stp (Keeps.refl _ _), rfl⟩ | exact ⟨HLK.out.stp (Keeps.alloc _ _), rfl⟩
      simp only [addEnt]
      refine loosek_has 10 (fun _ W' => ∃ A9 c9 B9 e9, Row W' b9 43 #[.slice A9 R'.lasts.length c9, .slice B9 R'.waits.length e9, .int .i64 R'.kind, .int .i64 R'.left, .bool R'.dead, .int .i64 R'.steps] ∧ RkAt W' (.agg #[.slice A9 R'.lasts.length c9, .slice B9 R'.waits.length e9, .int .i64 R'.kind, .int .i64 R'.left, .bool R'.dead, .int .i64 R'.steps]) R') rfl (fun W vals hW hkn φ' hφ => ?_) ?_
      · have hC := hW.c
        simp only [knowsK] at hkn
        try simp only [and_true] at hkn
        obtain ⟨W2, k0, k1, A9, c9, B9, e9, hv2, hg⟩ := hkn.1 (by decide); have q12 := (PreK.two2 hW (by decide) (.inl rfl)).row HR.out.f.2.1 HR.out.row; have HB12 := Lib.hid (And.intro q12 (hg.boxOnly (BtwK.two1 k1 (.inr (.inl (show (8 : Nat) ∈ [7, 8, 10] by decide)))).1)); have g0 := q12.cell 0; have g1 := q12.cell 1; have g2 := q12.cell 2; have g3 := q12.cell 3; have g4 := q12.cell 4; have g5 := q12.cell 5; have f0 := q12.frozen 0; have f1 := q12.frozen 1; have f2 := q12.frozen 2; have f3 := q12.frozen 3; have f4 := q12.frozen 4; have f5 := q12.frozen 5; simp only [List.getElem?_toArray, List.getElem?_cons_zero, List.getElem?_cons_succ] at g0 g1 g2 g3 g4 g5; clear k0 k1 hg q12 hkn hC hW
        refine ⟨?_⟩
        simp only [fill]
        go_simp
        exact co_stored HB12.out.1 HB12.out.2 HR.out.f hφ
      simp only [addEnt]
      refine loosek_nil (fun W9 vals hW hkn => ?_)
      simp only [knowsAllK] at hkn
      try simp only [and_true] at hkn
      simp only [fill, Act.put, List.setIfInBounds_toArray, List.set_cons_succ, List.set_cons_zero]
      obtain ⟨⟨_, Wa, a1, a2, A2, c2, B2, e2, hr12, hg12⟩, -, -, Wb, q1, q2, _, _, _, _, hv6, hg6, hd6⟩ := hkn
      have hko := hW.1 (HCO.out.h HR.out.dk)
      have HQ := Lib.hid (show CoAt PP w W9 d0 b9 bx D' R' A2 c2 B2 e2 ∧ KeepRow bx 43 wr W9 ∧ KeepTxt wr W9 from ⟨⟨HCO.out.bo hd6 (PostK.two1 q2 (.inl rfl)).1 hko, (PostK.two2 a2 (by decide) (.inl rfl)).row HR.out.f.2.1 hr12, hg12.boxOnly (PostK.two1 a2 (.inr (show (10 : Nat) ∈ [7, 8, 10] by decide))).1, HRL.out.1, HRL.out.2.1, HRL.out.2.2.1, HR.out.f⟩, hW.2⟩)
      clear a1 a2 hr12 hg12 q1 q2 hv6 hg6 hd6 hko hW MB0 MB1 MB2 MB3 MB4 MB5 MC0 MC1 MC2 MC3
      go_wp2_with fail
      exact ⟨⟨k + 1, D', R', A2, c2, B2, e2, by omega, by go_num, Lib.hid ⟨HQ.out.1, by have := HRR.out.2.1; have := HRL.out.2.2.2.1; omega, by rw [HRL.out.2.2.2.2]; exact HRR.out.2.2⟩⟩, by simp [intOf]; omega⟩
    · obtain rfl : k = ahead.length := by omega
      obtain ⟨D1, rfl⟩ : ∃ x, x = D := ⟨_, rfl⟩
      obtain ⟨R1, rfl⟩ : ∃ x, x = R := ⟨_, rfl⟩
      obtain ⟨E9, rfl⟩ : ∃ x, x = A9 := ⟨_, rfl⟩
      obtain ⟨F9, rfl⟩ : ∃ x, x = B9 := ⟨_, rfl⟩
      obtain ⟨u9, rfl⟩ : ∃ x, x = c9 := ⟨_, rfl⟩
      obtain ⟨v9, rfl⟩ : ∃ x, x = e9 := ⟨_, rfl⟩
      have hdk : DkIn w wr d0 D1 := by have := HR.out.dk; rw [HPP.out] at this; exact this
      have HDK := Lib.hid hdk
      have HR1 := Lib.hid HRR.out
      clear hdk HRR
      go_wp2_with fail
      refine (dkCopy_two HDK.out).mono ?_
      rintro e w4 ⟨c0, rfl, hT, hc0, hk4⟩
      have q4 := HR1.out.1.row.keeps hk4
      have lc := hT.two.lt
      have H4 := Lib.hid (And.intro hT (And.intro q4 (And.intro (HR1.out.1.ref.keeps hk4) lc)))
      have lb9 := q4.lt
      have y0 := q4.cell 0
      have y1 := q4.cell 1
      have y2 := q4.cell 2
      have y3 := q4.cell 3
      have y4 := q4.cell 4
      have y5 := q4.cell 5
      simp only [List.getElem?_toArray, List.getElem?_cons_zero, List.getElem?_cons_succ] at y0 y1 y2 y3 y4 y5
      clear q4 hT hc0 hk4
      obtain ⟨W5, hW5⟩ : ∃ W5, w4.alloc (.cells #[.slice E9 R1.lasts.length u9, .slice F9 R1.waits.length v9, .int .i64 R1.kind, .int .i64 R1.left, .bool R1.dead, .int .i64 R1.steps] 43) = W5 := ⟨_, rfl⟩
      have k5 : Keeps w4 W5 [] := by rw [← hW5]; exact Keeps.alloc _ _
      have r5 : Row W5 w4.heap.size 43 (rkRow R1 E9 u9 F9 v9) := by rw [← hW5]; exact Row.new _ _ _
      have s5 := H4.out.1.h.size
      obtain ⟨P2, hP2⟩ : ∃ P2 : World → Dk → Prop, P2 = fun w' C => DkTwo w w' d0 D1 c0 C := ⟨_, rfl⟩
      have HC2 := Lib.hid (show DkCo w P2 c0 from by rw [hP2]; exact DkCo.two w d0 D1 c0)
      have HPP2 := Lib.hid hP2
      have HBX2 := Lib.hid (show b9 ≠ c0 from fun e => by obtain ⟨ss, hss⟩ := H4.out.1.two.row; rw [← e] at hss; exact Row.ne_type H4.out.2.1 hss (by decide) rfl)
      have HP := Lib.hid (show CoAt P2 w W5 c0 w4.heap.size b9 D1 R1 E9 u9 F9 v9 ∧ D1.waits.length ≤ ahead.length + 0 ∧ D1.pages = n ∧ Row W5 b9 43 (rkRow R1 E9 u9 F9 v9) ∧ RkAt W5 (.agg (rkRow R1 E9 u9 F9 v9)) R1 from ⟨⟨by rw [hP2]; exact H4.out.1.keeps k5, r5, H4.out.2.2.1.keeps k5, HR1.out.1.rel, HR1.out.1.ok, HR1.out.1.z, s5, by omega, by omega⟩, by have := HR1.out.2.1; omega, HR1.out.2.2, H4.out.2.1.keeps k5, H4.out.2.2.1.keeps k5⟩)
      obtain ⟨b13, hb13⟩ : ∃ b13, w4.heap.size = b13 := ⟨_, rfl⟩
      rw [hb13] at HP
      go_wp2_with fail
      clear k5 r5 hW5 s5 hb13 hP2 lc lb9 y0 y1 y2 y3 y4 y5
      obtain ⟨wq, rfl⟩ : ∃ x, x = wr := ⟨_, rfl⟩
      clear HR
      go_loopw [14] (fun i wr => ∃ (k : Nat) (D : Dk) (R : Rk) (A : Option Addr) (c : Nat) (B : Option Addr) (e : Nat), k ≤ behind.length ∧ i = .int .i64 k ∧ Hid (CoAt P2 w wr c0 b13 b9 D R A c B e ∧ D.waits.length ≤ ahead.length + k ∧ D.pages = n ∧ Row wr b9 43 (rkRow R1 E9 u9 F9 v9) ∧ RkAt wr (.agg (rkRow R1 E9 u9 F9 v9)) R1)) (fun i _ => behind.length - (intOf i).toNat)
      case atStart => exact ⟨0, _, _, _, _, _, _, by omega, rfl, HP⟩
      case round =>
        clear HP
        obtain ⟨k, D, R, A9, c9, B9, e9, hk, rfl, HRR⟩ := hrel
        have HR := Lib.hid HRR.out.1
        have HCO := HC2
        have HBX := HBX2
        by_cases hkl : k < behind.length
        · skip
          obtain ⟨bl, ol, rfl, hbl, hcl⟩ := HA.out.2.lies (by omega)
          have hc := hcl k hkl
          obtain ⟨x, hx⟩ : ∃ x, behind[k] = x := ⟨_, rfl⟩
          rw [hx] at hc
          have hxo : x.ok := by rw [← hx]; exact HA.out.2.r _ (List.getElem_mem hkl)
          obtain ⟨D', hD'⟩ : ∃ D', (D.act x).2 = D' := ⟨_, rfl⟩
          obtain ⟨R', hR'⟩ : ∃ R', (R.act x).2 = R' := ⟨_, rfl⟩
          have hact := HR.out.rel.act HR.out.ok x
          have hsz := D.act_size x
          have hz := Dk.z_act HR.out.z x
          have hwl : D.waits.length ≤ 100000 := by have := HRR.out.2.1; omega
          have HX := Lib.hid (show x.ok ∧ D.waits.length ≤ 100000 ∧ RkFit R ∧ (D.act x).2 = D' ∧ (R.act x).2 = R' from ⟨hxo, hwl, HR.out.rel.fit HR.out.ok hwl, hD', hR'⟩)
          have HAC := Lib.hid (show (((D.act x).1 : Int) == ((R.act x).1 : Int)) = true by rw [hact.1]; simp)
          have HRL := Lib.hid (show DkRk D' R' ∧ DkOk D' ∧ D'.z ∧ D'.waits.length ≤ D.waits.length + 1 ∧ D'.pages = D.pages from by rw [hD', hR'] at hact; rw [hD'] at hsz hz; exact ⟨hact.2, (by rw [← hD']; exact HR.out.ok.act hxo hwl), hz, hsz.1, hsz.2⟩)
          have MC0 := fun (W' : World) (hW : Keeps w W' []) => (hW.cell (p := ⟨bl, ol + k * 4, none⟩) hbl (by simp)).trans hc.1
          have MC1 := fun (W' : World) (hW : Keeps w W' []) => (hW.cell (p := ⟨bl, ol + k * 4 + 1, none⟩) hbl (by simp)).trans hc.2.1
          have MC2 := fun (W' : World) (hW : Keeps w W' []) => (hW.cell (p := ⟨bl, ol + k * 4 + 2, none⟩) hbl (by simp)).trans hc.2.2.1
          have MC3 := fun (W' : World) (hW : Keeps w W' []) => (hW.cell (p := ⟨bl, ol + k * 4 + 3, none⟩) hbl (by simp)).trans hc.2.2.2
          clear hD' hR' hact hsz hz hwl hx hxo hc hcl
          have HLK := Lib.hid (show LightK [⟨6, [0, 1, 2, 3, 4, 5], [7, 8, 10]⟩, ⟨10, [0, 1, 2, 3, 4, 5, 6, 7, 8], []⟩] (fun x y => KeepsOld w x y ∧ KeepRow b9 43 x y ∧ KeepTxt x y) (twoA 6 (fun x y => BoxOnly 43 x y ∧ KeepRow b9 43 x y) 10 (RowsBut c0)) from .two ((KeepsOld.ok w).and ((KeepRow.ok b9 43).and KeepTxt.ok)) ((BoxOnly.ok 43).and (KeepRow.ok b9 43)) (RowsBut.ok c0))
          have MB0 := fun (W' : World) (hW : RowsBut c0 wr W') => (hW.row HR.out.f.2.1 HR.out.row).cell 0
          have MB1 := fun (W' : World) (hW : RowsBut c0 wr W') => (hW.row HR.out.f.2.1 HR.out.row).cell 1
          have MB2 := fun (W' : World) (hW : RowsBut c0 wr W') => (hW.row HR.out.f.2.1 HR.out.row).cell 2
          have MB3 := fun (W' : World) (hW : RowsBut c0 wr W') => (hW.row HR.out.f.2.1 HR.out.row).cell 3
          have MB4 := fun (W' : World) (hW : RowsBut c0 wr W') => (hW.row HR.out.f.2.1 HR.out.row).cell 4
          have MB5 := fun (W' : World) (hW : RowsBut c0 wr W') => (hW.row HR.out.f.2.1 HR.out.row).cell 5
          simp only [List.getElem?_toArray, List.getElem?_cons_zero, List.getElem?_cons_succ] at MB0 MB1 MB2 MB3 MB4 MB5
          go_wp2_with fail
          refine wp_region_writersL [⟨6, [0, 1, 2, 3, 4, 5], [7, 8, 10]⟩, ⟨10, [0, 1, 2, 3, 4, 5, 6, 7, 8], []⟩] ((fun x y => KeepsOld w x y ∧ KeepRow b9 43 x y ∧ KeepTxt x y)) ((twoA 6 (fun x y => BoxOnly 43 x y ∧ KeepRow b9 43 x y) 10 (RowsBut c0))) _ 11 HLK.out (by kernel_rfl) rfl (by kernel_rfl) ?_
          simp only [List.take_succ_cons, List.take_zero, List.drop_succ_cons, List.drop_zero]
          apply loosek_is 0 _ rfl
          · intro W vals hW hkn
            clear hkn
            have hC := hW.c
            refine ⟨?_⟩
            simp only [fill]
            go_simp
            first | exact ⟨HLK.out.stp (Keeps.refl _ _), rfl⟩ | exact ⟨HLK.out.stp (Keeps.alloc _ _), rfl⟩
          simp only [addEnt]
          apply loosek_is 1 _ rfl
          · intro W vals hW hkn
            have hC := hW.c
            simp only [knowsK] at hkn
            try simp only [and_true] at hkn
            have hk := PreK.two2 hW (by decide) (.inr (by decide)); clear hC hW
            refine ⟨?_⟩
            simp only [fill]
            go_simp
            first | exact ⟨HLK.out.stp (Keeps.refl _ _), rfl⟩ | exact ⟨HLK.out.stp (Keeps.alloc _ _), rfl⟩
          simp only [addEnt]
          apply loosek_is 2 _ rfl
          · intro W vals hW hkn
            clear hkn
            have hC := hW.c
            refine ⟨?_⟩
            simp only [fill]
            go_simp
            first | exact ⟨HLK.out.stp (Keeps.refl _ _), rfl⟩ | exact ⟨HLK.out.stp (Keeps.alloc _ _), rfl⟩
          simp only [addEnt]
          apply loosek_is 3 _ rfl
          · intro W vals hW hkn
            clear hkn
            have hC := hW.c
            refine ⟨?_⟩
            simp only [fill]
            go_simp
            first | exact ⟨HLK.out.stp (Keeps.refl _ _), rfl⟩ | exact ⟨HLK.out.stp (Keeps.alloc _ _), rfl⟩
          simp only [addEnt]
          apply loosek_is 4 _ rfl
          · intro W vals hW hkn
            clear hkn
            have hC := hW.c
            refine ⟨?_⟩
            simp only [fill]
            go_simp
            first | exact ⟨HLK.out.stp (Keeps.refl _ _), rfl⟩ | exact ⟨HLK.out.stp (Keeps.alloc _ _), rfl⟩
          simp only [addEnt]
          apply loosek_is 5 _ rfl
          · intro W vals hW hkn
            have hC := hW.c
            simp only [knowsK] at hkn
            try simp only [and_true] at hkn
            have hk := hC.1 (HCO.out.h HR.out.dk); clear hC hW
            refine ⟨?_⟩
            simp only [fill]
            go_simp
            first | exact ⟨HLK.out.stp (Keeps.refl _ _), rfl⟩ | exact ⟨HLK.out.stp (Keeps.alloc _ _), rfl⟩
          simp only [addEnt]
          refine loosek_has 6 (fun v W' => ∃ A9 c9 B9 e9, v = .tuple #[.agg #[.slice A9 R'.lasts.length c9, .slice B9 R'.waits.length e9, .int .i64 R'.kind, .int .i64 R'.left, .bool R'.dead, .int .i64 R'.steps], .bool true] ∧ RkAt W' (.agg #[.slice A9 R'.lasts.length c9, .slice B9 R'.waits.length e9, .int .i64 R'.kind, .int .i64 R'.left, .bool R'.dead, .int .i64 R'.steps]) R' ∧ P2 W' D') rfl (fun W vals hW hkn φ' hφ => ?_) ?_
          · have hC := hW.c
            simp only [knowsK] at hkn
            try simp only [and_true] at hkn
            clear hkn; have hb6 := PreK.two1 hW (.inl rfl); have HB6 := Lib.hid (And.intro hb6 (And.intro hC (And.intro (HCO.out.bo HR.out.dk hb6.1 (hC.1 (HCO.out.h HR.out.dk))) (HR.out.ref.boxOnly hb6.1)))); clear hb6 hC hW
            refine ⟨?_⟩
            simp only [fill]
            go_simp
            ((with_reducible refine loosek_writes HLK.out hφ ?_); refine (does2_any HCO.out.s W D HB6.out.2.2.1 _ R HB6.out.2.2.2 x HX.out.1 HX.out.2.1 HX.out.2.2.1).mono ?_; intro e w5 hpo; unfold DoesPost at hpo; rw [HX.out.2.2.2.1, HX.out.2.2.2.2] at hpo; obtain ⟨g', rfl, hg', hp', hrb⟩ := hpo; obtain ⟨A9, c9, B9, e9, rfl, _, _⟩ := hg'.e; exact ⟨_, rfl, .two ⟨fun _ => HCO.out.h hp', fun cs hr => hrb.row HBX.out hr, fun b t cs h1 h2 hr => by obtain ⟨ss, hss⟩ := HCO.out.s.row HB6.out.2.2.1; exact hrb.row (Row.ne_type hr hss h2) hr⟩ (fun h => absurd rfl h) (fun _ => hrb), A9, c9, B9, e9, by rw [HAC.out], hg', hp'⟩)
          simp only [addEnt]
          refine loosek_has 7 (fun v W' => ∃ A9 c9 B9 e9, v = .tuple #[.agg #[.slice A9 R'.lasts.length c9, .slice B9 R'.waits.length e9, .int .i64 R'.kind, .int .i64 R'.left, .bool R'.dead, .int .i64 R'.steps], .bool true] ∧ RkAt W' (.agg #[.slice A9 R'.lasts.length c9, .slice B9 R'.waits.length e9, .int .i64 R'.kind, .int .i64 R'.left, .bool R'.dead, .int .i64 R'.steps]) R') rfl (fun W vals hW hkn φ' hφ => ?_) ?_
          · have hC := hW.c
            simp only [knowsK] at hkn
            try simp only [and_true] at hkn
            obtain ⟨W1, h0, h1, A9, c9, B9, e9, hv, hr, -⟩ := hkn (by decide); have HR7 := Lib.hid (hr.boxOnly (BtwK.two1 h1 (.inl rfl)).1); clear hr h0 h1 hkn hC hW
            refine ⟨?_⟩
            simp only [fill]
            go_simp
            exact ⟨HLK.out.stp (Keeps.refl _ _), hφ.out _ _ ⟨A9, c9, B9, e9, rfl, HR7.out⟩⟩
          simp only [addEnt]
          refine loosek_has 8 (fun v W' => ∃ A9 c9 B9 e9, v = .agg #[.slice A9 R'.lasts.length c9, .slice B9 R'.waits.length e9, .int .i64 R'.kind, .int .i64 R'.left, .bool R'.dead, .int .i64 R'.steps] ∧ RkAt W' (.agg #[.slice A9 R'.lasts.length c9, .slice B9 R'.waits.length e9, .int .i64 R'.kind, .int .i64 R'.left, .bool R'.dead, .int .i64 R'.steps]) R') rfl (fun W vals hW hkn φ' hφ => ?_) ?_
          · have hC := hW.c
            simp only [knowsK] at hkn
            try simp only [and_true] at hkn
            obtain ⟨W1, h0, h1, A9, c9, B9, e9, hv, hr⟩ := hkn.1 (by decide); have HR7 := Lib.hid (hr.boxOnly (BtwK.two1 h1 (.inr (.inl (show (7 : Nat) ∈ [7, 8, 10] by decide)))).1); clear hr h0 h1 hkn hC hW
            refine ⟨?_⟩
            simp only [fill]
            go_simp
            exact ⟨HLK.out.stp (Keeps.refl _ _), hφ.out _ _ ⟨A9, c9, B9, e9, rfl, HR7.out⟩⟩
          simp only [addEnt]
          apply loosek_is 9 _ rfl
          · intro W vals hW hkn
            have hC := hW.c
            simp only [knowsK] at hkn
            try simp only [and_true] at hkn
            obtain ⟨W1, h0, h1, A9, c9, B9, e9, hv, hr⟩ := hkn.2.1 (by decide); clear hr h0 h1 hkn hC hW
            refine ⟨?_⟩
            simp only [fill]
            go_simp
            first | exact ⟨HLK.out.stp (Keeps.refl _ _), rfl⟩ | exact ⟨HLK.out.stp (Keeps.alloc _ _), rfl⟩
          simp only [addEnt]
          refine loosek_has 10 (fun _ W' => ∃ A9 c9 B9 e9, Row W' b13 43 #[.slice A9 R'.lasts.length c9, .slice B9 R'.waits.length e9, .int .i64 R'.kind, .int .i64 R'.left, .bool R'.dead, .int .i64 R'.steps] ∧ RkAt W' (.agg #[.slice A9 R'.lasts.length c9, .slice B9 R'.waits.length e9, .int .i64 R'.kind, .int .i64 R'.left, .bool R'.dead, .int .i64 R'.steps]) R') rfl (fun W vals hW hkn φ' hφ => ?_) ?_
          · have hC := hW.c
            simp only [knowsK] at hkn
            try simp only [and_true] at hkn
            obtain ⟨W2, k0, k1, A9, c9, B9, e9, hv2, hg⟩ := hkn.1 (by decide); have q12 := (PreK.two2 hW (by decide) (.inl rfl)).row HR.out.f.2.1 HR.out.row; have HB12 := Lib.hid (And.intro q12 (hg.boxOnly (BtwK.two1 k1 (.inr (.inl (show (8 : Nat) ∈ [7, 8, 10] by decide)))).1)); have g0 := q12.cell 0; have g1 := q12.cell 1; have g2 := q12.cell 2; have g3 := q12.cell 3; have g4 := q12.cell 4; have g5 := q12.cell 5; have f0 := q12.frozen 0; have f1 := q12.frozen 1; have f2 := q12.frozen 2; have f3 := q12.frozen 3; have f4 := q12.frozen 4; have f5 := q12.frozen 5; simp only [List.getElem?_toArray, List.getElem?_cons_zero, List.getElem?_cons_succ] at g0 g1 g2 g3 g4 g5; clear k0 k1 hg q12 hkn hC hW
            refine ⟨?_⟩
            simp only [fill]
            go_simp
            exact co_stored HB12.out.1 HB12.out.2 HR.out.f hφ
          simp only [addEnt]
          refine loosek_nil (fun W9 vals hW hkn => ?_)
          simp only [knowsAllK] at hkn
          try simp only [and_true] at hkn
          simp only [fill, Act.put, List.setIfInBounds_toArray, List.set_cons_succ, List.set_cons_zero]
          obtain ⟨⟨_, Wa, a1, a2, A2, c2, B2, e2, hr12, hg12⟩, -, -, Wb, q1, q2, _, _, _, _, hv6, hg6, hd6⟩ := hkn
          have hko := hW.1 (HCO.out.h HR.out.dk)
          have HQ := Lib.hid (show CoAt P2 w W9 c0 b13 b9 D' R' A2 c2 B2 e2 ∧ KeepRow b9 43 wr W9 ∧ KeepTxt wr W9 from ⟨⟨HCO.out.bo hd6 (PostK.two1 q2 (.inl rfl)).1 hko, (PostK.two2 a2 (by decide) (.inl rfl)).row HR.out.f.2.1 hr12, hg12.boxOnly (PostK.two1 a2 (.inr (show (10 : Nat) ∈ [7, 8, 10] by decide))).1, HRL.out.1, HRL.out.2.1, HRL.out.2.2.1, HR.out.f⟩, hW.2⟩)
          clear a1 a2 hr12 hg12 q1 q2 hv6 hg6 hd6 hko hW MB0 MB1 MB2 MB3 MB4 MB5 MC0 MC1 MC2 MC3
          go_wp2_with fail
          exact ⟨⟨k + 1, D', R', A2, c2, B2, e2, by omega, by go_num, Lib.hid ⟨HQ.out.1, by have := HRR.out.2.1; have := HRL.out.2.2.2.1; omega, by rw [HRL.out.2.2.2.2]; exact HRR.out.2.2.1, HQ.out.2.1 _ HRR.out.2.2.2.1, HRR.out.2.2.2.2.txt HQ.out.2.2⟩⟩, by simp [intOf]; omega⟩
        · obtain rfl : k = behind.length := by omega
          have hT : DkTwo w wr d0 D1 c0 D := by have := HR.out.dk; rw [HPP2.out] at this; exact this
          have HT := Lib.hid hT
          have qg := HRR.out.2.2.2.1
          have qo := HR.out.row
          have y0 := qg.cell 0
          have y1 := qg.cell 1
          have y2 := qg.cell 2
          have y3 := qg.cell 3
          have y4 := qg.cell 4
          have y5 := qg.cell 5
          simp only [List.getElem?_toArray, List.getElem?_cons_zero, List.getElem?_cons_succ] at y0 y1 y2 y3 y4 y5
          have HW1 := Lib.hid (show D1.waits.length ≤ 100000 ∧ D.waits.length ≤ 100000 from ⟨by have := HR1.out.2.1; omega, by have := HRR.out.2.1; omega⟩)
          have HS := Lib.hid (And.intro HRR.out.2.2.2.2 HR.out.ref)
          clear hT
          go_wp2_with fail
          refine (same2_any HT.out.one.here _ R1 HS.out.1 HR1.out.1.rel HW1.out.1).mono ?_
          rintro e w6 ⟨rfl, hk6⟩
          have qo := qo.keeps hk6
          have qg := qg.keeps hk6
          have HT := Lib.hid (HT.out.keeps hk6)
          have HS := Lib.hid (And.intro (HS.out.1.keeps hk6) (HS.out.2.keeps hk6))
          have x0 := qo.cell 0
          have x1 := qo.cell 1
          have x2 := qo.cell 2
          have x3 := qo.cell 3
          have x4 := qo.cell 4
          have x5 := qo.cell 5
          simp only [List.getElem?_toArray, List.getElem?_cons_zero, List.getElem?_cons_succ] at x0 x1 x2 x3 x4 x5
          clear hk6
          go_wp2_with fail
          refine (same2_any HT.out.two.here _ R HS.out.2 HR.out.rel HW1.out.2).mono ?_
          rintro e w7 ⟨rfl, hk7⟩
          have qo := qo.keeps hk7
          have qg := qg.keeps hk7
          have HT := Lib.hid (HT.out.keeps hk7)
          have HS := Lib.hid (And.intro (HS.out.1.keeps hk7) (HS.out.2.keeps hk7))
          clear hk7
          go_wp2_with fail
          refine (dkCopy_dk HT.out.one).mono ?_
          rintro e w8 ⟨c8, rfl, hc8⟩
          have hk8 := hc8.h
          have qo := qo.keeps hk8
          have qg := qg.keeps hk8
          have HT := Lib.hid (HT.out.keeps hk8)
          have HC8 := Lib.hid hc8
          have HS := Lib.hid (And.intro (HS.out.1.keeps hk8) (HS.out.2.keeps hk8))
          clear hk8 hc8
          go_wp2_with fail
          refine (truth_dec (B := true) (Q := SameD D1 D1) ⟨fun _ => ⟨rfl, rfl, rfl, rfl, fun _ => rfl, fun _ => rfl, rfl⟩, fun _ => rfl⟩ (dkSame_in HT.out.one HC8.out (by have := HW1.out.1; omega))).mono ?_
          rintro e w9 ⟨rfl, hk9⟩
          have qo := qo.keeps hk9
          have qg := qg.keeps hk9
          have HT := Lib.hid (HT.out.keeps hk9)
          have HS := Lib.hid (And.intro (HS.out.1.keeps hk9) (HS.out.2.keeps hk9))
          clear hk9
          go_wp2_with fail
          refine (dkSame_nil HT.out.one).mono ?_
          rintro e w10 ⟨rfl, hk10⟩
          have qo := qo.keeps hk10
          have qg := qg.keeps hk10
          have HT := Lib.hid (HT.out.keeps hk10)
          have HS := Lib.hid (And.intro (HS.out.1.keeps hk10) (HS.out.2.keeps hk10))
          clear hk10
          have x0 := qo.cell 0
          have x1 := qo.cell 1
          have x2 := qo.cell 2
          have x3 := qo.cell 3
          have x4 := qo.cell 4
          have x5 := qo.cell 5
          simp only [List.getElem?_toArray, List.getElem?_cons_zero, List.getElem?_cons_succ] at x0 x1 x2 x3 x4 x5
          have y0 := qg.cell 0
          have y1 := qg.cell 1
          have y2 := qg.cell 2
          have y3 := qg.cell 3
          have y4 := qg.cell 4
          have y5 := qg.cell 5
          simp only [List.getElem?_toArray, List.getElem?_cons_zero, List.getElem?_cons_succ] at y0 y1 y2 y3 y4 y5
          have HQ := Lib.hid (And.intro qo qg)
          clear qo qg
          have hlr : R1.lasts.length = n := by rw [HR1.out.1.rel.l, listOf_length, HR1.out.2.2]
          have hlo : R.lasts.length = n := by rw [HR.out.rel.l, listOf_length, HRR.out.2.2.1]
          have HLL := Lib.hid (And.intro hlr hlo)
          have HWL := Lib.hid (show R1.waits.length ≤ 100000 ∧ R.waits.length ≤ 100000 from ⟨by rw [HR1.out.1.rel.w]; exact HW1.out.1, by rw [HR.out.rel.w]; exact HW1.out.2⟩)
          have HSI := Lib.hid (show SameD D1 D ↔ SameR R1 R from sameD_iff HR1.out.1.rel HR.out.rel HR1.out.1.z HR.out.z (by rw [HR1.out.2.2, HRR.out.2.2.1]) HR1.out.1.ok HR.out.ok)
          clear hlr hlo
          go_upto_region 19 with fail
          go_cut [15] (fun v wx => wx = w10 ∧ ∃ al : Bool, v = .bool al ∧ Hid (al = true ↔ SameHead R1 R))
          case first =>
            by_cases e1 : R1.waits.length = R.waits.length
            · have f1 : ((R1.waits.length : Int) == (R.waits.length : Int)) = true := by simp; omega
              by_cases e2 : R1.kind = R.kind
              · have f2 : (R1.kind == R.kind) = true := by simpa using e2
                by_cases e3 : R1.dead = R.dead
                · have f3 : (R1.dead == R.dead) = true := by simpa using e3
                  by_cases e4 : R1.kind = 0
                  · have HD0 := Lib.hid (show true = true ↔ SameHead R1 R from ⟨fun _ => ⟨e1, e2, e3, .inl e4⟩, fun _ => rfl⟩)
                    have f4 : (R1.kind == 0) = true := by simpa using e4
                    clear e1 e2 e3 e4
                    go_wp2_with fail
                    go_meet
                    case rel => exact ⟨rfl, _, rfl, Lib.hid (by simpa using HD0.out)⟩
                  · have f4 : (R1.kind == 0) = false := by simpa using e4
                    by_cases e5 : R1.left = R.left
                    · have HD0 := Lib.hid (show true = true ↔ SameHead R1 R from ⟨fun _ => ⟨e1, e2, e3, .inr e5⟩, fun _ => rfl⟩)
                      have f5 : (R1.left == R.left) = true := by simpa using e5
                      clear e1 e2 e3 e4 e5
                      go_wp2_with fail
                      go_meet
                      case rel => exact ⟨rfl, _, rfl, Lib.hid (by simpa using HD0.out)⟩
                    · have HD0 := Lib.hid (show false = true ↔ SameHead R1 R from ⟨fun h => absurd h Bool.false_ne_true, fun h => absurd h.lf (fun h => h.elim e4 e5)⟩)
                      have f5 : (R1.left == R.left) = false := by simpa using e5
                      clear e1 e2 e3 e4 e5
                      go_wp2_with fail
                      go_meet
                      case rel => exact ⟨rfl, _, rfl, Lib.hid (by simpa using HD0.out)⟩
                · have HD0 := Lib.hid (show false = true ↔ SameHead R1 R from ⟨fun h => absurd h Bool.false_ne_true, fun h => absurd h.dd e3⟩)
                  have f3 : (R1.dead == R.dead) = false := by simpa using e3
                  clear e1 e2 e3
                  go_wp2_with fail
                  go_meet
                  case rel => exact ⟨rfl, _, rfl, Lib.hid (by simpa using HD0.out)⟩
              · have HD0 := Lib.hid (show false = true ↔ SameHead R1 R from ⟨fun h => absurd h Bool.false_ne_true, fun h => absurd h.k e2⟩)
                have f2 : (R1.kind == R.kind) = false := by simpa using e2
                clear e1 e2
                go_wp2_with fail
                go_meet
                case rel => exact ⟨rfl, _, rfl, Lib.hid (by simpa using HD0.out)⟩
            · have HD0 := Lib.hid (show false = true ↔ SameHead R1 R from ⟨fun h => absurd h Bool.false_ne_true, fun h => absurd h.wl e1⟩)
              have f1 : ((R1.waits.length : Int) == (R.waits.length : Int)) = false := by simp; omega
              clear e1
              go_wp2_with fail
              go_meet
              case rel => exact ⟨rfl, _, rfl, Lib.hid (by simpa using HD0.out)⟩
          case rest =>
            obtain ⟨rfl, al0, rfl, HD0⟩ := hcut
            have HG := Lib.hid (And.intro HS.out.1.lists HS.out.2.lists)
            have HTF := HT
            have HP3 := Lib.hid (show (al0 = true ↔ SameHead R1 R ∧ R1.lasts.take 0 = R.lasts.take 0) ∧ Keeps wc wc [] from ⟨⟨fun h => ⟨HD0.out.1 h, rfl⟩, fun h => HD0.out.2 h.1⟩, Keeps.refl _ _⟩)
            have hn20 : R1.lasts.length ≤ 20 := by rw [HLL.out.1]; exact HN.out.2
            clear y0 y1 y2 y3 y4 y5 x0 x1 x2 x3 x4 x5 HR HS
            obtain ⟨wp, rfl⟩ : ∃ x, x = wr := ⟨_, rfl⟩
            go_wp2_with fail
            go_loopw [15, 16] (fun a i wr => ∃ (j : Nat) (al : Bool), a = .bool al ∧ i = .int .i64 j ∧ j ≤ R1.lasts.length ∧ Hid ((al = true ↔ SameHead R1 R ∧ R1.lasts.take j = R.lasts.take j) ∧ Keeps wc wr [])) (fun _ i _ => R1.lasts.length - (intOf i).toNat)
            case atStart => exact ⟨0, _, rfl, rfl, by omega, HP3⟩
            case round =>
              clear HP3
              obtain ⟨j, al, rfl, rfl, hj, HK⟩ := hrel
              have qg := HQ.out.2.keeps HK.out.2
              have qo := HQ.out.1.keeps HK.out.2
              have y0 := qg.cell 0
              have y1 := qg.cell 1
              have y2 := qg.cell 2
              have y3 := qg.cell 3
              have y4 := qg.cell 4
              have y5 := qg.cell 5
              simp only [List.getElem?_toArray, List.getElem?_cons_zero, List.getElem?_cons_succ] at y0 y1 y2 y3 y4 y5
              have x0 := qo.cell 0
              have x1 := qo.cell 1
              have x2 := qo.cell 2
              have x3 := qo.cell 3
              have x4 := qo.cell 4
              have x5 := qo.cell 5
              simp only [List.getElem?_toArray, List.getElem?_cons_zero, List.getElem?_cons_succ] at x0 x1 x2 x3 x4 x5
              clear qg qo
              by_cases hjl : j < R1.lasts.length
              · have hjo : j < R.lasts.length := by rw [HLL.out.2, ← HLL.out.1]; exact hjl
                have M0 := fun (W : World) (hW : Keeps wr W []) => ((HQ.out.2.keeps HK.out.2).keeps hW).cell 0
                have N0 := fun (W : World) (hW : Keeps wr W []) => ((HQ.out.1.keeps HK.out.2).keeps hW).cell 0
                simp only [List.getElem?_toArray, List.getElem?_cons_zero] at M0 N0
                cases al with
                | false =>
                  have HF := Lib.hid (show false = true ↔ SameHead R1 R ∧ R1.lasts.take (j + 1) = R.lasts.take (j + 1) from ⟨fun h => absurd h Bool.false_ne_true, fun h => HK.out.1.2 ⟨h.1, by have := congrArg (List.take j) h.2; rwa [List.take_take, List.take_take, Nat.min_eq_left (Nat.le_succ j)] at this⟩⟩)
                  clear hjo
                  go_wp2_with fail
                  refine wp_region_keeps _ (by kernel_rfl) rfl (by kernel_rfl) ?_
                  apply loose_is
                  · intro W vals hW hkn
                    clear hkn
                    refine ⟨?_⟩
                    simp only [fill]
                    go_simp
                    first | exact ⟨Keeps.refl _ _, rfl⟩ | exact ⟨Keeps.alloc _ _, rfl⟩
                  simp only [addEnt]
                  apply loose_is
                  · intro W vals hW hkn
                    clear hkn
                    refine ⟨?_⟩
                    simp only [fill]
                    go_simp
                    first | exact ⟨Keeps.refl _ _, rfl⟩ | exact ⟨Keeps.alloc _ _, rfl⟩
                  simp only [addEnt]
                  refine loose_off (fun vals => by kernel_rfl) ?_
                  simp only [addEnt]
                  refine loose_off (fun vals => by kernel_rfl) ?_
                  simp only [addEnt]
                  refine loose_off (fun vals => by kernel_rfl) ?_
                  simp only [addEnt]
                  refine loose_off (fun vals => by kernel_rfl) ?_
                  simp only [addEnt]
                  refine loose_off (fun vals => by kernel_rfl) ?_
                  simp only [addEnt]
                  refine loose_off (fun vals => by kernel_rfl) ?_
                  simp only [addEnt]
                  refine loose_off (fun vals => by kernel_rfl) ?_
                  simp only [addEnt]
                  refine loose_off (fun vals => by kernel_rfl) ?_
                  simp only [addEnt]
                  refine loose_off (fun vals => by kernel_rfl) ?_
                  simp only [addEnt]
                  refine loose_off (fun vals => by kernel_rfl) ?_
                  simp only [addEnt]
                  refine loose_off (fun vals => by kernel_rfl) ?_
                  simp only [addEnt]
                  apply loose_is
                  · intro W vals hW hkn
                    clear hkn
                    refine ⟨?_⟩
                    simp only [fill]
                    go_simp
                    first | exact ⟨Keeps.refl _ _, rfl⟩ | exact ⟨Keeps.alloc _ _, rfl⟩
                  simp only [addEnt]
                  apply loose_is
                  · intro W vals hW hkn
                    clear hkn
                    refine ⟨?_⟩
                    simp only [fill]
                    go_simp
                    first | exact ⟨Keeps.refl _ _, rfl⟩ | exact ⟨Keeps.alloc _ _, rfl⟩
                  simp only [addEnt]
                  refine loose_nil (fun W vals hW hkn => ?_)
                  simp only [knowsAll] at hkn
                  try simp only [and_true] at hkn
                  simp only [fill, Act.put, List.setIfInBounds_toArray, List.set_cons_succ, List.set_cons_zero]
                  have HW := Lib.hid (show Keeps wc W [] from HK.out.2.then_ hW)
                  clear hkn hW M0 N0
                  go_wp2_with fail
                  exact ⟨⟨j + 1, false, rfl, by go_num, by omega, Lib.hid ⟨HF.out, HW.out⟩⟩, by simp [intOf]; omega⟩
                | true =>
                  obtain ⟨b1, o1, rfl, hb1, hc1⟩ := HG.out.1.1.at_ hjl
                  obtain ⟨b2, o2, rfl, hb2, hc2⟩ := HG.out.2.1.at_ hjo
                  have c1 := hc1 0 (by omega)
                  have c2 := hc2 0 (by omega)
                  simp only [Nat.mul_one, Nat.add_zero, txtV, List.getElem?_cons_zero] at c1 c2
                  obtain ⟨l1, hl1⟩ : ∃ l, R1.lasts[j] = l := ⟨_, rfl⟩
                  obtain ⟨l2, hl2⟩ : ∃ l, R.lasts[j] = l := ⟨_, rfl⟩
                  rw [hl1] at c1
                  rw [hl2] at c2
                  obtain ⟨S1, hS1⟩ : ∃ S, ByteArray.mk l1.toArray = S := ⟨_, rfl⟩
                  obtain ⟨S2, hS2⟩ : ∃ S, ByteArray.mk l2.toArray = S := ⟨_, rfl⟩
                  rw [hS1] at c1
                  rw [hS2] at c2
                  obtain ⟨bt, hbt⟩ : ∃ b : Bool, (S1.toList == S2.toList) = b := ⟨_, rfl⟩
                  have C1 := fun (W : World) (hW : Keeps wr W []) => ((HK.out.2.then_ hW).cell (p := ⟨b1, o1 + j, none⟩) hb1 (by simp)).trans c1
                  have C2 := fun (W : World) (hW : Keeps wr W []) => ((HK.out.2.then_ hW).cell (p := ⟨b2, o2 + j, none⟩) hb2 (by simp)).trans c2
                  have HF := Lib.hid (show bt = true ↔ SameHead R1 R ∧ R1.lasts.take (j + 1) = R.lasts.take (j + 1) from by
                    have h1 := HK.out.1.1 rfl
                    rw [← hbt, ← hS1, ← hS2]
                    have e1 : ((ByteArray.mk l1.toArray).toList == (ByteArray.mk l2.toArray).toList) = true ↔ l1 = l2 := by
                      simp only [Lib.toList_data]
                      simp
                    rw [e1, List.take_succ_eq_append_getElem hjl, List.take_succ_eq_append_getElem hjo, h1.2, hl1, hl2]
                    constructor
                    · rintro rfl; exact ⟨h1.1, rfl⟩
                    · intro h; simpa using h.2)
                  clear hc1 hc2 c1 c2 hl1 hl2 hS1 hS2 hb1 hb2
                  go_wp2_with fail
                  refine wp_region_keeps _ (by kernel_rfl) rfl (by kernel_rfl) ?_
                  apply loose_is
                  · intro W vals hW hkn
                    clear hkn
                    refine ⟨?_⟩
                    simp only [fill]
                    go_simp
                    first | exact ⟨Keeps.refl _ _, rfl⟩ | exact ⟨Keeps.alloc _ _, rfl⟩
                  simp only [addEnt]
                  apply loose_is
                  · intro W vals hW hkn
                    clear hkn
                    refine ⟨?_⟩
                    simp only [fill]
                    go_simp
                    first | exact ⟨Keeps.refl _ _, rfl⟩ | exact ⟨Keeps.alloc _ _, rfl⟩
                  simp only [addEnt]
                  apply loose_is
                  · intro W vals hW hkn
                    clear hkn
                    refine ⟨?_⟩
                    simp only [fill]
                    go_simp
                    first | exact ⟨Keeps.refl _ _, rfl⟩ | exact ⟨Keeps.alloc _ _, rfl⟩
                  simp only [addEnt]
                  apply loose_is
                  · intro W vals hW hkn
                    clear hkn
                    refine ⟨?_⟩
                    simp only [fill]
                    go_simp
                    first | exact ⟨Keeps.refl _ _, rfl⟩ | exact ⟨Keeps.alloc _ _, rfl⟩
                  simp only [addEnt]
                  apply loose_is
                  · intro W vals hW hkn
                    clear hkn
                    refine ⟨?_⟩
                    simp only [fill]
                    go_simp
                    first | exact ⟨Keeps.refl _ _, rfl⟩ | exact ⟨Keeps.alloc _ _, rfl⟩
                  simp only [addEnt]
                  apply loose_is
                  · intro W vals hW hkn
                    clear hkn
                    refine ⟨?_⟩
                    simp only [fill]
                    go_simp
                    first | exact ⟨Keeps.refl _ _, rfl⟩ | exact ⟨Keeps.alloc _ _, rfl⟩
                  simp only [addEnt]
                  apply loose_is
                  · intro W vals hW hkn
                    clear hkn
                    refine ⟨?_⟩
                    simp only [fill]
                    go_simp
                    first | exact ⟨Keeps.refl _ _, rfl⟩ | exact ⟨Keeps.alloc _ _, rfl⟩
                  simp only [addEnt]
                  apply loose_is
                  · intro W vals hW hkn
                    clear hkn
                    refine ⟨?_⟩
                    simp only [fill]
                    go_simp
                    first | exact ⟨Keeps.refl _ _, rfl⟩ | exact ⟨Keeps.alloc _ _, rfl⟩
                  simp only [addEnt]
                  apply loose_is
                  · intro W vals hW hkn
                    clear hkn
                    refine ⟨?_⟩
                    simp only [fill]
                    go_simp
                    first | exact ⟨Keeps.refl _ _, rfl⟩ | exact ⟨Keeps.alloc _ _, rfl⟩
                  simp only [addEnt]
                  apply loose_is
                  · intro W vals hW hkn
                    clear hkn
                    refine ⟨?_⟩
                    simp only [fill]
                    go_simp
                    first | exact ⟨Keeps.refl _ _, rfl⟩ | exact ⟨Keeps.alloc _ _, rfl⟩
                  simp only [addEnt]
                  apply loose_is
                  · intro W vals hW hkn
                    clear hkn
                    refine ⟨?_⟩
                    simp only [fill]
                    go_simp
                    first | exact ⟨Keeps.refl _ _, rfl⟩ | exact ⟨Keeps.alloc _ _, rfl⟩
                  simp only [addEnt]
                  apply loose_is
                  · intro W vals hW hkn
                    clear hkn
                    refine ⟨?_⟩
                    simp only [fill]
                    go_simp
                    first | exact ⟨Keeps.refl _ _, rfl⟩ | exact ⟨Keeps.alloc _ _, rfl⟩
                  simp only [addEnt]
                  apply loose_is
                  · intro W vals hW hkn
                    clear hkn
                    refine ⟨?_⟩
                    simp only [fill]
                    go_simp
                    first | exact ⟨Keeps.refl _ _, rfl⟩ | exact ⟨Keeps.alloc _ _, rfl⟩
                  simp only [addEnt]
                  apply loose_is
                  · intro W vals hW hkn
                    clear hkn
                    refine ⟨?_⟩
                    simp only [fill]
                    go_simp
                    first | exact ⟨Keeps.refl _ _, rfl⟩ | exact ⟨Keeps.alloc _ _, rfl⟩
                  simp only [addEnt]
                  apply loose_is
                  · intro W vals hW hkn
                    clear hkn
                    refine ⟨?_⟩
                    simp only [fill]
                    go_simp
                    first | exact ⟨Keeps.refl _ _, rfl⟩ | exact ⟨Keeps.alloc _ _, rfl⟩
                  simp only [addEnt]
                  refine loose_nil (fun W vals hW hkn => ?_)
                  simp only [knowsAll] at hkn
                  try simp only [and_true] at hkn
                  simp only [fill, Act.put, List.setIfInBounds_toArray, List.set_cons_succ, List.set_cons_zero]
                  have HW := Lib.hid (show Keeps wc W [] from HK.out.2.then_ hW)
                  clear hkn hW M0 N0 C1 C2
                  go_wp2_with fail
                  exact ⟨⟨j + 1, bt, rfl, by go_num, by omega, Lib.hid ⟨HF.out, HW.out⟩⟩, by simp [intOf]; omega⟩
              · obtain rfl : j = R1.lasts.length := by omega
                have HA2 := Lib.hid (show al = true ↔ SameHead R1 R ∧ R1.lasts = R.lasts from by
                  have h1 := HK.out.1
                  rwa [List.take_length, List.take_of_length_le (by rw [HLL.out.1, HLL.out.2]; exact Nat.le_refl _)] at h1)
                have HP4 := Lib.hid (show (al = true ↔ SameHead R1 R ∧ R1.lasts = R.lasts ∧ R1.waits.take 0 = R.waits.take 0) ∧ Keeps wc wr [] from ⟨⟨fun h => ⟨(HA2.out.1 h).1, (HA2.out.1 h).2, rfl⟩, fun h => HA2.out.2 ⟨h.1, h.2.1⟩⟩, HK.out.2⟩)
                have hnw : R1.waits.length ≤ 100000 := HWL.out.1
                clear HA2 HK hjl
                obtain ⟨wo, rfl⟩ : ∃ x, x = wr := ⟨_, rfl⟩
                obtain ⟨al3, rfl⟩ : ∃ x, x = al := ⟨_, rfl⟩
                go_wp2_with fail
                clear y0 y1 y2 y3 y4 y5 x0 x1 x2 x3 x4 x5
                go_loopw [15, 17] (fun a i wr => ∃ (j : Nat) (al : Bool), a = .bool al ∧ i = .int .i64 j ∧ j ≤ R1.waits.length ∧ Hid ((al = true ↔ SameHead R1 R ∧ R1.lasts = R.lasts ∧ R1.waits.take j = R.waits.take j) ∧ Keeps wc wr [])) (fun _ i _ => R1.waits.length - (intOf i).toNat)
                case atStart => exact ⟨0, _, rfl, rfl, by omega, HP4⟩
                case round =>
                  clear HP4
                  obtain ⟨j, al, rfl, rfl, hj, HK⟩ := hrel
                  have qg := HQ.out.2.keeps HK.out.2
                  have qo := HQ.out.1.keeps HK.out.2
                  have y0 := qg.cell 0
                  have y1 := qg.cell 1
                  have y2 := qg.cell 2
                  have y3 := qg.cell 3
                  have y4 := qg.cell 4
                  have y5 := qg.cell 5
                  simp only [List.getElem?_toArray, List.getElem?_cons_zero, List.getElem?_cons_succ] at y0 y1 y2 y3 y4 y5
                  have x0 := qo.cell 0
                  have x1 := qo.cell 1
                  have x2 := qo.cell 2
                  have x3 := qo.cell 3
                  have x4 := qo.cell 4
                  have x5 := qo.cell 5
                  simp only [List.getElem?_toArray, List.getElem?_cons_zero, List.getElem?_cons_succ] at x0 x1 x2 x3 x4 x5
                  clear qg qo
                  by_cases hjl : j < R1.waits.length
                  · cases al with
                    | false =>
                      have HB := Lib.hid (show false = true ↔ SameD D1 D from ⟨fun h => absurd h Bool.false_ne_true, fun h => HK.out.1.2 (by
                        have := HSI.out.1 h
                        exact ⟨⟨this.wl, this.k, this.dd, this.lf⟩, this.l, by rw [this.w]⟩)⟩)
                      have HT3 := Lib.hid (HTF.out.keeps HK.out.2)
                      go_wp2_with fail
                      refine (truth_dec (B := false) (Q := SameD D1 D) (by simpa using HB.out) (dkSame_in HT3.out.one HT3.out.two (by have := HW1.out.1; omega))).mono ?_
                      rintro e w11 ⟨rfl, hk11⟩
                      have HT11 := Lib.hid (HT3.out.h.then_ hk11)
                      clear hk11
                      go_wp2_with fail
                      refine (known2_go HT11.out).mono ?_
                      rintro e w' ⟨rfl, hk⟩
                      have HK := Lib.hid hk
                      clear hk
                      go_wp2_with fail
                      go_ret
                      exact ⟨rfl, HK.out⟩
                    | true =>
                      have hjo : j < R.waits.length := by have := (HK.out.1.1 rfl).1.wl; omega
                      obtain ⟨b1, o1, rfl, hb1, hc1⟩ := HG.out.1.2.at_ hjl
                      obtain ⟨b2, o2, rfl, hb2, hc2⟩ := HG.out.2.2.at_ hjo
                      have c1 := hc1 0 (by omega)
                      have c2 := hc2 0 (by omega)
                      have d1 := hc1 1 (by omega)
                      have d2 := hc2 1 (by omega)
                      simp only [Nat.add_zero, waitV, List.getElem?_cons_zero, List.getElem?_cons_succ] at c1 c2 d1 d2
                      obtain ⟨⟨p1, l1⟩, hl1⟩ : ∃ l, R1.waits[j] = l := ⟨_, rfl⟩
                      obtain ⟨⟨p2, l2⟩, hl2⟩ : ∃ l, R.waits[j] = l := ⟨_, rfl⟩
                      rw [hl1] at c1 d1
                      rw [hl2] at c2 d2
                      obtain ⟨S1, hS1⟩ : ∃ S, ByteArray.mk l1.toArray = S := ⟨_, rfl⟩
                      obtain ⟨S2, hS2⟩ : ∃ S, ByteArray.mk l2.toArray = S := ⟨_, rfl⟩
                      simp only [hS1] at d1
                      simp only [hS2] at d2
                      have M1 := fun (W : World) (hW : Keeps wr W []) => ((HQ.out.2.keeps HK.out.2).keeps hW).cell 1
                      have N1 := fun (W : World) (hW : Keeps wr W []) => ((HQ.out.1.keeps HK.out.2).keeps hW).cell 1
                      simp only [List.getElem?_toArray, List.getElem?_cons_zero, List.getElem?_cons_succ] at M1 N1
                      obtain ⟨bt, hbt⟩ : ∃ b : Bool, (p1 == p2 && S1.toList == S2.toList) = b := ⟨_, rfl⟩
                      have C1 := fun (W : World) (hW : Keeps wr W []) => ((HK.out.2.then_ hW).cell (p := ⟨b1, o1 + j * 2, none⟩) hb1 (by simp)).trans c1
                      have C2 := fun (W : World) (hW : Keeps wr W []) => ((HK.out.2.then_ hW).cell (p := ⟨b2, o2 + j * 2, none⟩) hb2 (by simp)).trans c2
                      have E1 := fun (W : World) (hW : Keeps wr W []) => ((HK.out.2.then_ hW).cell (p := ⟨b1, o1 + j * 2 + 1, none⟩) hb1 (by simp)).trans d1
                      have E2 := fun (W : World) (hW : Keeps wr W []) => ((HK.out.2.then_ hW).cell (p := ⟨b2, o2 + j * 2 + 1, none⟩) hb2 (by simp)).trans d2
                      have HF := Lib.hid (show bt = true ↔ SameHead R1 R ∧ R1.lasts = R.lasts ∧ R1.waits.take (j + 1) = R.waits.take (j + 1) from by
                        have h1 := HK.out.1.1 rfl
                        rw [← hbt, ← hS1, ← hS2]
                        have e1 : ((p1 == p2 && (ByteArray.mk l1.toArray).toList == (ByteArray.mk l2.toArray).toList) = true) ↔ (p1, l1) = (p2, l2) := by
                          simp only [Lib.toList_data]
                          simp
                        rw [e1, List.take_succ_eq_append_getElem hjl, List.take_succ_eq_append_getElem hjo, h1.2.2, hl1, hl2]
                        constructor
                        · intro h; exact ⟨h1.1, h1.2.1, by rw [h]⟩
                        · intro h; simpa using h.2.2)
                      have HAI := Lib.hid (show ∀ W : World, (if p1 = p2 then (if S1.toList = S2.toList then Result.ok (Next.value (Value.bool true)) W else Result.ok (Next.value (Value.bool false)) W) else Result.ok (Next.value (Value.bool false)) W) = Result.ok (Next.value (Value.bool bt)) W from fun W => by
                        rw [← hbt]
                        by_cases e1 : p1 = p2
                        · by_cases e2 : S1.toList = S2.toList
                          · simp [e1, e2]
                          · simp [e1, e2]
                        · simp [e1])
                      clear hc1 hc2 c1 c2 d1 d2 hl1 hl2 hS1 hS2 hb1 hb2 hbt
                      go_wp2_with fail
                      refine wp_region_keeps _ (by kernel_rfl) rfl (by kernel_rfl) ?_
                      apply loose_is
                      · intro W vals hW hkn
                        clear hkn
                        refine ⟨?_⟩
                        simp only [fill]
                        go_simp
                        first | exact ⟨Keeps.refl _ _, rfl⟩ | exact ⟨Keeps.alloc _ _, rfl⟩
                      simp only [addEnt]
                      apply loose_is
                      · intro W vals hW hkn
                        clear hkn
                        refine ⟨?_⟩
                        simp only [fill]
                        go_simp
                        first | exact ⟨Keeps.refl _ _, rfl⟩ | exact ⟨Keeps.alloc _ _, rfl⟩
                      simp only [addEnt]
                      apply loose_is
                      · intro W vals hW hkn
                        clear hkn
                        refine ⟨?_⟩
                        simp only [fill]
                        go_simp
                        first | exact ⟨Keeps.refl _ _, rfl⟩ | exact ⟨Keeps.alloc _ _, rfl⟩
                      simp only [addEnt]
                      apply loose_is
                      · intro W vals hW hkn
                        clear hkn
                        refine ⟨?_⟩
                        simp only [fill]
                        go_simp
                        first | exact ⟨Keeps.refl _ _, rfl⟩ | exact ⟨Keeps.alloc _ _, rfl⟩
                      simp only [addEnt]
                      apply loose_is
                      · intro W vals hW hkn
                        clear hkn
                        refine ⟨?_⟩
                        simp only [fill]
                        go_simp
                        first | exact ⟨Keeps.refl _ _, rfl⟩ | exact ⟨Keeps.alloc _ _, rfl⟩
                      simp only [addEnt]
                      apply loose_is
                      · intro W vals hW hkn
                        clear hkn
                        refine ⟨?_⟩
                        simp only [fill]
                        go_simp
                        first | exact ⟨Keeps.refl _ _, rfl⟩ | exact ⟨Keeps.alloc _ _, rfl⟩
                      simp only [addEnt]
                      apply loose_is
                      · intro W vals hW hkn
                        clear hkn
                        refine ⟨?_⟩
                        simp only [fill]
                        go_simp
                        first | exact ⟨Keeps.refl _ _, rfl⟩ | exact ⟨Keeps.alloc _ _, rfl⟩
                      simp only [addEnt]
                      apply loose_is
                      · intro W vals hW hkn
                        clear hkn
                        refine ⟨?_⟩
                        simp only [fill]
                        go_simp
                        first | exact ⟨Keeps.refl _ _, rfl⟩ | exact ⟨Keeps.alloc _ _, rfl⟩
                      simp only [addEnt]
                      apply loose_is
                      · intro W vals hW hkn
                        clear hkn
                        refine ⟨?_⟩
                        simp only [fill]
                        go_simp
                        first | exact ⟨Keeps.refl _ _, rfl⟩ | exact ⟨Keeps.alloc _ _, rfl⟩
                      simp only [addEnt]
                      apply loose_is
                      · intro W vals hW hkn
                        clear hkn
                        refine ⟨?_⟩
                        simp only [fill]
                        go_simp
                        first | exact ⟨Keeps.refl _ _, rfl⟩ | exact ⟨Keeps.alloc _ _, rfl⟩
                      simp only [addEnt]
                      apply loose_is
                      · intro W vals hW hkn
                        clear hkn
                        refine ⟨?_⟩
                        simp only [fill]
                        go_simp
                        rw [HAI.out]
                        exact ⟨Keeps.refl _ _, rfl⟩
                      simp only [addEnt]
                      apply loose_is
                      · intro W vals hW hkn
                        clear hkn
                        refine ⟨?_⟩
                        simp only [fill]
                        go_simp
                        first | exact ⟨Keeps.refl _ _, rfl⟩ | exact ⟨Keeps.alloc _ _, rfl⟩
                      simp only [addEnt]
                      refine loose_nil (fun W vals hW hkn => ?_)
                      simp only [knowsAll] at hkn
                      try simp only [and_true] at hkn
                      simp only [fill, Act.put, List.setIfInBounds_toArray, List.set_cons_succ, List.set_cons_zero]
                      have HW := Lib.hid (show Keeps wc W [] from HK.out.2.then_ hW)
                      clear hkn hW M1 N1 C1 C2 E1 E2
                      go_wp2_with fail
                      exact ⟨⟨j + 1, bt, rfl, by go_num, by omega, Lib.hid ⟨HF.out, HW.out⟩⟩, by simp [intOf]; omega⟩
                  · obtain rfl : j = R1.waits.length := by omega
                    have HB0 := Lib.hid (show al = true ↔ SameD D1 D from by
                      rw [HSI.out, HK.out.1]
                      constructor
                      · rintro ⟨h1, h2, h3⟩
                        rw [List.take_length, h1.wl, List.take_length] at h3
                        exact ⟨h1.wl, h1.k, h1.dd, h1.lf, h2, h3⟩
                      · intro h
                        exact ⟨⟨h.wl, h.k, h.dd, h.lf⟩, h.l, by rw [h.w]⟩)
                    cases al with
                    | false =>
                      have HB := HB0
                      have HT3 := Lib.hid (HTF.out.keeps HK.out.2)
                      go_wp2_with fail
                      refine (truth_dec (B := false) (Q := SameD D1 D) (by simpa using HB.out) (dkSame_in HT3.out.one HT3.out.two (by have := HW1.out.1; omega))).mono ?_
                      rintro e w11 ⟨rfl, hk11⟩
                      have HT11 := Lib.hid (HT3.out.h.then_ hk11)
                      clear hk11
                      go_wp2_with fail
                      refine (known2_go HT11.out).mono ?_
                      rintro e w' ⟨rfl, hk⟩
                      have HK := Lib.hid hk
                      clear hk
                      go_wp2_with fail
                      go_ret
                      exact ⟨rfl, HK.out⟩
                    | true =>
                      have HB := HB0
                      have HT3 := Lib.hid (HTF.out.keeps HK.out.2)
                      go_wp2_with fail
                      refine (truth_dec (B := true) (Q := SameD D1 D) (by simpa using HB.out) (dkSame_in HT3.out.one HT3.out.two (by have := HW1.out.1; omega))).mono ?_
                      rintro e w11 ⟨rfl, hk11⟩
                      have HT11 := Lib.hid (HT3.out.h.then_ hk11)
                      clear hk11
                      go_wp2_with fail
                      refine (known2_go HT11.out).mono ?_
                      rintro e w' ⟨rfl, hk⟩
                      have HK := Lib.hid hk
                      clear hk
                      go_wp2_with fail
                      go_ret
                      exact ⟨rfl, HK.out⟩
set_option maxRecDepth 100000 in
theorem diskCopies_far (w : World) (x : Int) (A B : Option Addr) (c d n m : Nat) (hnm : n + m ≤ 4000000000000000000) (h : 40 < n + m ∨ (20 : Int) < x) :
    Calls Try.prog 7 #[.int .i64 x, .slice A n c, .slice B m d] w fun e w' => e = .returned (.bool true) ∧ Keeps w w' [] := by
  obtain ⟨z, hzz⟩ : ∃ z, IntKind.i64.wrap ((n : Int) + (m : Int)) = z := ⟨_, rfl⟩
  have hz0 : z = (n : Int) + (m : Int) := by rw [← hzz, IntWalk.i64_in _ (by omega)]
  by_cases h1 : (40 : Int) < z
  · clear h hz0 hnm
    go_enter Try.func7, Try.ntmps7
    go_wp2_with fail
    refine (known2_go (Keeps.refl w [])).mono ?_
    rintro e w' ⟨rfl, hk⟩
    have HK := Lib.hid hk
    clear hk
    go_wp2_with fail
    go_ret
    exact ⟨rfl, HK.out⟩
  · have h2 : (20 : Int) < x := by omega
    clear h hz0 hnm
    go_enter Try.func7, Try.ntmps7
    go_wp2_with fail
    refine (known2_go (Keeps.refl w [])).mono ?_
    rintro e w' ⟨rfl, hk⟩
    have HK := Lib.hid hk
    clear hk
    go_wp2_with fail
    go_ret
    exact ⟨rfl, HK.out⟩
set_option maxRecDepth 100000 in
set_option maxHeartbeats 4000000 in
theorem diskCopies_none (w : World) (x : Int) (A B : Option Addr) (c d n m : Nat) (hnm : n + m ≤ 40) (h3 : x < 2) :
    Calls Try.prog 7 #[.int .i64 x, .slice A n c, .slice B m d] w fun e w' => e = .returned (.bool true) ∧ Keeps w w' [] := by
  obtain ⟨z, hzz⟩ : ∃ z, IntKind.i64.wrap ((n : Int) + (m : Int)) = z := ⟨_, rfl⟩
  have h6 : ¬ (40 : Int) < z := by rw [IntWalk.i64_in _ (by omega)] at hzz; omega
  have HX := Lib.hid (show ¬ (2 ≤ x ∧ x ≤ 4096) by omega)
  have h5 : ¬ (20 : Int) < x := by omega
  clear hnm h3
  go_enter Try.func7, Try.ntmps7
  go_wp2_with fail
  refine (dkNew_bad w x HX.out).mono ?_
  rintro e w1 ⟨rfl, hk⟩
  have H1 := Lib.hid hk
  clear hk
  go_wp2_with fail
  refine (refNew2_any w1 x).mono ?_
  intro e w2 hm
  unfold RkMade at hm
  rw [if_neg HX.out] at hm
  obtain ⟨rfl, hk⟩ := hm
  have H2 := Lib.hid (H1.out.then_ hk)
  clear hk
  go_wp2_with fail
  refine (known2_go (H2.out.then_alloc _)).mono ?_
  rintro e w' ⟨rfl, hk⟩
  have HK := Lib.hid hk
  clear hk
  go_wp2_with fail
  go_ret
  exact ⟨rfl, HK.out⟩
end Go.Proofs.Ytehlabdbbbbopaa
