/- Layer 2: what a call of the law does, at a disk in whatever company. -/
import Derived.Test.YtehlabdbbbbopaaPa32
import Derived.Test.YtehlabdbbbbopaaPa35

namespace Go.Proofs.Ytehlabdbbbbopaa
open Go.RowKit Go.Maps Go.Shelf

/-- A disk in some company: what calls make of it. -/
structure DkSense (n0 : Nat) (P : World → Dk → Prop) (d : Nat) : Prop where
  size : ∀ {w D}, P w D → n0 ≤ w.heap.size
  box : ∀ {w w' D b t cs}, P w D → n0 ≤ b → Row w b t cs → t ≠ 67 → t ≠ 75 → Keeps w w' [b] → P w' D
  keeps : ∀ {w w' D}, P w D → Keeps w w' [] → P w' D
  row : ∀ {w D}, P w D → ∃ ss, Row w d 67 ss
  write : ∀ {w D}, P w D → ∀ (page : Int) (A : Option Addr) (n c : Nat) (bs : List UInt8), bs.length = n → Lies w w.heap.size A (bs.map byteV) → D.waits.length ≤ 1000000 → Calls Try.prog 13 #[.pointer (some ⟨d, 0, none⟩), .int .i64 page, .slice A n c] w fun e w' =>
    e = .returned (.int .i64 ((D.write page bs).1 : Nat)) ∧ P w' (D.write page bs).2 ∧ Apart w w' d
  flush : ∀ {w D}, P w D → Calls Try.prog 12 #[.pointer (some ⟨d, 0, none⟩)] w fun e w' =>
    e = .returned (.int .i64 (D.flush.1 : Nat)) ∧ P w' D.flush.2 ∧ Apart w w' d
  arm : ∀ {w D}, P w D → ∀ (kind steps : Int), -9223372036854775808 ≤ steps ∧ steps ≤ 9223372036854775807 → Calls Try.prog 11 #[.pointer (some ⟨d, 0, none⟩), .int .i64 kind, .int .i64 steps] w fun e w' =>
    e = .returned (.int .i64 ((D.arm kind steps).1 : Nat)) ∧ P w' (D.arm kind steps).2 ∧ Apart w w' d
theorem DkSense.one (w0 : World) (d : Nat) : DkSense w0.heap.size (fun w D => DkIn w0 w d D) d :=
  ⟨fun h => h.h.size, fun h hb hr ht ht' hk => h.box hb hr ht ht' hk, fun h k => h.keeps k, fun h => h.row, fun h page A n c bs hn hA hl => dkWrite_dk h page A n c bs hn hA hl, fun h => dkFlush_dk h, fun h k s hs => dkArm_dk h k s hs⟩
theorem rk_stored {W0 W : World} {b : Nat} {y0 y1 y2 y3 y4 y5 : Value} {R : Rk} {A1 B1 : Option Addr} {c1 d1 : Nat} (hr : Row W b 43 #[y0, y1, y2, y3, y4, y5]) (hg : RkAt W (.agg #[.slice A1 R.lasts.length c1, .slice B1 R.waits.length d1, .int .i64 R.kind, .int .i64 R.left, .bool R.dead, .int .i64 R.steps]) R)
    {φ' : Value → World → Prop} (hφ : Hid (∀ (u : Value) (w : World), (∃ A1 c1 B1 d1, Row w b 43 #[.slice A1 R.lasts.length c1, .slice B1 R.waits.length d1, .int .i64 R.kind, .int .i64 R.left, .bool R.dead, .int .i64 R.steps] ∧ RkAt w (.agg #[.slice A1 R.lasts.length c1, .slice B1 R.waits.length d1, .int .i64 R.kind, .int .i64 R.left, .bool R.dead, .int .i64 R.steps]) R) → φ' u w)) {pre aft : List Nat} :
    StpK [⟨9, pre, aft⟩] (OldBut W0 b) (oneA 9 KeepsAll) 9 W ((((((W.setCell ⟨b, 0, none⟩ (.slice A1 R.lasts.length c1)).setCell ⟨b, 1, none⟩ (.slice B1 R.waits.length d1)).setCell ⟨b, 2, none⟩ (.int .i64 R.kind)).setCell ⟨b, 3, none⟩ (.int .i64 R.left)).setCell ⟨b, 4, none⟩ (.bool R.dead)).setCell ⟨b, 5, none⟩ (.int .i64 R.steps)) ∧
    φ' undef ((((((W.setCell ⟨b, 0, none⟩ (.slice A1 R.lasts.length c1)).setCell ⟨b, 1, none⟩ (.slice B1 R.waits.length d1)).setCell ⟨b, 2, none⟩ (.int .i64 R.kind)).setCell ⟨b, 3, none⟩ (.int .i64 R.left)).setCell ⟨b, 4, none⟩ (.bool R.dead)).setCell ⟨b, 5, none⟩ (.int .i64 R.steps)) := by
  obtain ⟨p1, p2⟩ := rk_put hr (.slice A1 R.lasts.length c1) (.slice B1 R.waits.length d1) (.int .i64 R.kind) (.int .i64 R.left) (.bool R.dead) (.int .i64 R.steps)
  exact ⟨.one (fun h => h.trans p2 (fun _ hx _ => hx)) (fun h => absurd rfl h), hφ.out _ _ ⟨A1, c1, B1, d1, p1, hg.keep p2 (fun x hx => by obtain rfl := List.mem_singleton.1 hx; exact ⟨_, _, hr, by decide, by decide⟩)⟩⟩
/-- A call. -/
structure ActV where
  k : Int
  page : Int
  byte : UInt8
  arm : Int
def ActV.ok (x : ActV) : Prop := -9223372036854775808 ≤ x.page ∧ x.page ≤ 9223372036854775807
abbrev actV (x : ActV) : Value := .agg #[.int .i64 x.k, .int .i64 x.page, byteV x.byte, .int .i64 x.arm]
def Dk.act (D : Dk) (x : ActV) : Nat × Dk := if x.k = 1 then D.write x.page (actBytes x.page x.byte) else if x.k = 2 then D.flush else if x.k = 3 then D.arm x.arm x.page else (0, D)
def Rk.act (R : Rk) (x : ActV) : Nat × Rk := if x.k = 1 then R.write x.page (actBytes x.page x.byte) else if x.k = 2 then R.flush else if x.k = 3 then R.arm x.arm x.page else (0, R)
theorem RowsBut.fresh {s b : Nat} {w w1 w2 : World} (h : RowsBut s w w1) (k : Keeps w1 w2 [b]) (hb : w.heap.size ≤ b) : RowsBut s w w2 :=
  ⟨Nat.le_trans h.size k.size, fun hne hr => (h.row hne hr).keep k (by have := hr.lt; simp; omega)⟩
theorem does_door (W : World) (t : Array Value) (b : Nat) (x0 x1 x2 x3 x4 x5 y : Value) (h : t.getD 6 undef = .pointer (some ⟨b, 0, none⟩)) (h2 : t.getD 7 undef = y) (r : Row W b 43 #[x0, x1, x2, x3, x4, x5]) (R : Ending → World → Prop) (hR : R (.returned (.tuple #[.agg #[x0, x1, x2, x3, x4, x5], y])) W) :
    bodyPost Try.prog Try.f17 R Exit.ret { tmps := t, defers := [] } W := by
  have c0 := r.cell 0
  have c1 := r.cell 1
  have c2 := r.cell 2
  have c3 := r.cell 3
  have c4 := r.cell 4
  have c5 := r.cell 5
  rw [Array.getD_eq_getD_getElem?] at h h2
  simp at c0 c1 c2 c3 c4 c5
  refine bodyPost_ret (v := .tuple #[.agg #[x0, x1, x2, x3, x4, x5], y]) ?_ rfl hR
  simp [results, Try.results17, go_sem, h, h2, c0, c1, c2, c3, c4, c5]
structure RkFit (R : Rk) : Prop where
  w : R.waits.length ≤ 100000
  l : R.lasts.length ≤ 100000
  i : ∀ p ∈ R.waits, 0 ≤ p.1 ∧ p.1 < R.lasts.length
def DoesPost (w : World) (P : World → Dk → Prop) (d : Nat) (D : Dk) (R : Rk) (x : ActV) (e : Ending) (w' : World) : Prop :=
  ∃ g', e = .returned (.tuple #[g', .bool (((D.act x).1 : Int) == ((R.act x).1 : Int))]) ∧ RkAt w' g' (R.act x).2 ∧ P w' (D.act x).2 ∧ RowsBut d w w'
set_option maxRecDepth 100000 in
set_option maxHeartbeats 1000000 in
theorem does2_any {n0 d0 : Nat} {P : World → Dk → Prop} (hP : DkSense n0 P d0) (w : World) (D : Dk) (hPD : P w D) (g : Value) (R : Rk) (hg : RkAt w g R) (x : ActV) (hx : x.ok) (hD : D.waits.length ≤ 100000) (hR : RkFit R) :
    Calls Try.prog 17 #[.pointer (some ⟨d0, 0, none⟩), g, actV x] w (DoesPost w P d0 D R x) := by
  obtain ⟨k, page, byte, arm⟩ := x
  obtain ⟨A, c, B, d, rfl, hA, hB⟩ := hg.e
  have HH := Lib.hid (And.intro hPD (And.intro hg (And.intro hD (And.intro hR hx))))
  clear hA hB hPD hg hD hR hx
  unfold actV byteV
  obtain ⟨y, hy⟩ : ∃ y : Int, y = (byte.toNat : Int) := ⟨_, rfl⟩
  have HY := Lib.hid (show Value.int .u8 y = byteV byte by rw [hy]; rfl)
  simp only [← hy]
  clear hy
  by_cases h1 : k = 1
  · subst h1
    obtain ⟨RW, hRW⟩ : ∃ RW, R.write page (actBytes page byte) = RW := ⟨_, rfl⟩
    have HRW := Lib.hid hRW
    have HBY := Lib.hid (show ∀ W, Calls Try.prog 18 #[.agg #[.int .i64 1, .int .i64 page, .int .u8 y, .int .i64 arm]] W (ActPost W page byte) from fun W => by have := bytes_any W 1 page arm byte HH.out.2.2.2.2; rwa [← HY.out] at this)
    obtain ⟨k, hk1⟩ : ∃ k : Int, k = 1 := ⟨_, rfl⟩
    have HA := Lib.hid (show D.act ⟨k, page, byte, arm⟩ = D.write page (actBytes page byte) ∧ R.act ⟨k, page, byte, arm⟩ = RW from by subst hk1; exact ⟨rfl, hRW⟩)
    clear hRW
    rw [← hk1]
    have n1 : (k == 1) = true := by simpa using hk1
    have HK1 := Lib.hid hk1
    clear hk1
    go_enter Try.func17, Try.ntmps17
    go_upto_region 2 with fail
    obtain ⟨W0, hW0⟩ : ∃ W0, ((w.alloc (.cells (rkRow R A c B d) 43)).alloc (.cells #[.int .i64 k, .int .i64 page, .int .u8 y, .int .i64 arm] 39)).alloc (.cells rkZero 43) = W0 := ⟨_, rfl⟩
    have k0 : Keeps w W0 [] := by rw [← hW0]; exact ((Keeps.alloc _ _).then_alloc _).then_alloc _
    have r0 : Row W0 w.heap.size 43 (rkRow R A c B d) := by rw [← hW0]; exact ((Row.new _ _ _).alloc _).alloc _
    have r1 : Row W0 (w.heap.size + 1) 39 #[.int .i64 k, .int .i64 page, .int .u8 y, .int .i64 arm] := by
      rw [← hW0]
      have := (Row.new (w.alloc (.cells (rkRow R A c B d) 43)) 39 #[.int .i64 k, .int .i64 page, .int .u8 y, .int .i64 arm]).alloc (.cells rkZero 43)
      rwa [World.size_alloc] at this
    have r2 : Row W0 (w.heap.size + 1 + 1) 43 rkZero := by
      rw [← hW0]
      have := Row.new ((w.alloc (.cells (rkRow R A c B d) 43)).alloc (.cells #[.int .i64 k, .int .i64 page, .int .u8 y, .int .i64 arm] 39)) 43 rkZero
      rwa [World.size_alloc, World.size_alloc] at this
    rw [show ((w.alloc (.cells #[.slice A R.lasts.length c, .slice B R.waits.length d, .int .i64 R.kind, .int .i64 R.left, .bool R.dead, .int .i64 R.steps] 43)).alloc (.cells #[.int .i64 k, .int .i64 page, .int .u8 y, .int .i64 arm] 39)).alloc (.cells #[.slice none 0 0, .slice none 0 0, .int .i64 0, .int .i64 0, .bool false, .int .i64 0] 43) = W0 from hW0]
    have H0 := Lib.hid (And.intro k0 (And.intro r0 (And.intro r1 (And.intro r2 (And.intro (hP.keeps HH.out.1 k0) (HH.out.2.1.keeps k0))))))
    have y0 := r0.cell 0
    have y1 := r0.cell 1
    have y2 := r0.cell 2
    have y3 := r0.cell 3
    have y4 := r0.cell 4
    have y5 := r0.cell 5
    simp only [List.getElem?_toArray, List.getElem?_cons_zero, List.getElem?_cons_succ] at y0 y1 y2 y3 y4 y5
    have a0 := r1.cell 0
    have a1 := r1.cell 1
    have a2 := r1.cell 2
    have a3 := r1.cell 3
    simp only [List.getElem?_toArray, List.getElem?_cons_zero, List.getElem?_cons_succ] at a0 a1 a2 a3
    clear k0 r0 r1 r2 hW0
    rw [HK1.out] at a0 ⊢
    have e0 : Row W0 (w.heap.size + 1) 39 #[.int .i64 1, .int .i64 page, .int .u8 y, .int .i64 arm] := by have := H0.out.2.2.1; rwa [HK1.out] at this
    have HE0 := Lib.hid e0
    go_wp2_with fail
    have MB0 := fun (W' : World) (hW : Keeps W0 W' []) => (H0.out.2.1.keeps hW).cell 0
    have MB1 := fun (W' : World) (hW : Keeps W0 W' []) => (H0.out.2.1.keeps hW).cell 1
    have MB2 := fun (W' : World) (hW : Keeps W0 W' []) => (H0.out.2.1.keeps hW).cell 2
    have MB3 := fun (W' : World) (hW : Keeps W0 W' []) => (H0.out.2.1.keeps hW).cell 3
    have MB4 := fun (W' : World) (hW : Keeps W0 W' []) => (H0.out.2.1.keeps hW).cell 4
    have MB5 := fun (W' : World) (hW : Keeps W0 W' []) => (H0.out.2.1.keeps hW).cell 5
    have MA0 := fun (W' : World) (hW : Keeps W0 W' []) => (e0.keeps hW).cell 0
    have MA1 := fun (W' : World) (hW : Keeps W0 W' []) => (e0.keeps hW).cell 1
    have MA2 := fun (W' : World) (hW : Keeps W0 W' []) => (e0.keeps hW).cell 2
    have MA3 := fun (W' : World) (hW : Keeps W0 W' []) => (e0.keeps hW).cell 3
    simp only [List.getElem?_toArray, List.getElem?_cons_zero, List.getElem?_cons_succ] at MB0 MB1 MB2 MB3 MB4 MB5 MA0 MA1 MA2 MA3
    clear e0
    have HLK := Lib.hid (show LightK [⟨9, [0, 1, 2, 3, 4, 5, 6, 7], [10]⟩] (OldBut W0 w.heap.size) (oneA 9 KeepsAll) from .one (OldBut.ok W0 w.heap.size) keepsAll_ok)
    refine wp_region_writersL [⟨9, [0, 1, 2, 3, 4, 5, 6, 7], [10]⟩] (OldBut W0 w.heap.size) (oneA 9 KeepsAll) _ 11 HLK.out (by kernel_rfl) rfl (by kernel_rfl) ?_
    simp only [List.take_succ_cons, List.take_zero, List.drop_succ_cons, List.drop_zero]
    apply loosek_is 0 _ rfl
    · intro W vals hW hkn
      have hC := hW.c
      simp only [knowsK] at hkn
      try simp only [and_true] at hkn
      have hk : Keeps W0 W [] := PreK.one hW (.inr (by decide)); clear hC hW
      refine ⟨?_⟩
      simp only [fill]
      go_simp
      first | exact ⟨HLK.out.stp (Keeps.refl _ _), rfl⟩ | exact ⟨HLK.out.stp (Keeps.alloc _ _), rfl⟩
    simp only [addEnt]
    apply loosek_is 1 _ rfl
    · intro W vals hW hkn
      clear hkn
      have hC := hW.c
      refine ⟨?_⟩
      simp only [fill]
      go_simp
      first | exact ⟨HLK.out.stp (Keeps.refl _ _), rfl⟩ | exact ⟨HLK.out.stp (Keeps.alloc _ _), rfl⟩
    simp only [addEnt]
    apply loosek_is 2 _ rfl
    · intro W vals hW hkn
      have hC := hW.c
      simp only [knowsK] at hkn
      try simp only [and_true] at hkn
      have hk : Keeps W0 W [] := PreK.one hW (.inr (by decide)); clear hC hW
      refine ⟨?_⟩
      simp only [fill]
      go_simp
      first | exact ⟨HLK.out.stp (Keeps.refl _ _), rfl⟩ | exact ⟨HLK.out.stp (Keeps.alloc _ _), rfl⟩
    simp only [addEnt]
    apply loosek_is 3 _ rfl
    · intro W vals hW hkn
      have hC := hW.c
      simp only [knowsK] at hkn
      try simp only [and_true] at hkn
      have hk : Keeps W0 W [] := PreK.one hW (.inr (by decide)); clear hC hW
      refine ⟨?_⟩
      simp only [fill]
      go_simp
      first | exact ⟨HLK.out.stp (Keeps.refl _ _), rfl⟩ | exact ⟨HLK.out.stp (Keeps.alloc _ _), rfl⟩
    simp only [addEnt]
    refine loosek_has 4 (fun v W' => ∃ b n, v = .slice (some ⟨b, 0, none⟩) n n ∧ n = (actBytes page byte).length ∧ Row W' b 5 (leafC (actBytes page byte))) rfl (fun W vals hW hkn φ' hφ => ?_) ?_
    · have hC := hW.c
      simp only [knowsK] at hkn
      try simp only [and_true] at hkn
      clear hkn
      refine ⟨?_⟩
      simp only [fill]
      go_simp
      ((with_reducible refine loosek_calls_has HLK.out hφ ?_); refine (HBY.out W).mono ?_; intro e w5 hpo; unfold ActPost at hpo; obtain ⟨b, n, rfl, hn, hb, hr, hk⟩ := hpo; exact ⟨_, rfl, hk, b, n, rfl, hn, hr⟩)
    simp only [addEnt]
    refine loosek_has 5 (fun v W' => ∃ A1 c1 B1 d1, v = .tuple #[.agg #[.slice A1 RW.2.lasts.length c1, .slice B1 RW.2.waits.length d1, .int .i64 RW.2.kind, .int .i64 RW.2.left, .bool RW.2.dead, .int .i64 RW.2.steps], .int .i64 (RW.1 : Nat)] ∧ RkAt W' (.agg #[.slice A1 RW.2.lasts.length c1, .slice B1 RW.2.waits.length d1, .int .i64 RW.2.kind, .int .i64 RW.2.left, .bool RW.2.dead, .int .i64 RW.2.steps]) RW.2) rfl (fun W vals hW hkn φ' hφ => ?_) ?_
    · have hC := hW.c
      simp only [knowsK] at hkn
      try simp only [and_true] at hkn
      have hk5 : Keeps W0 W [] := PreK.one hW (.inr (by decide)); obtain ⟨W1, h0, h1, b, n, hv, hn, hr⟩ := hkn (by decide); have HR5 := Lib.hid (And.intro hn (And.intro (hr.keeps (BtwK.one h1 (.inr (.inr (.inr (by decide)))))) hk5)); clear hn hr h0 h1 hC hW hk5 hkn
      refine ⟨?_⟩
      simp only [fill]
      go_simp
      ((with_reducible refine loosek_calls_has HLK.out hφ ?_); refine (refWrite_any W _ R (H0.out.2.2.2.2.2.keeps HR5.out.2.2) page (some ⟨b, 0, none⟩) n n (actBytes page byte) HR5.out.1.symm (lies_page HR5.out.2.1) HH.out.2.2.2.1.w).mono ?_; rw [HRW.out]; rintro e w5 ⟨g', rfl, hg', hk'⟩; obtain ⟨A1, c1, B1, d1, rfl, hA1, hB1⟩ := hg'.e; exact ⟨_, rfl, hk', A1, c1, B1, d1, rfl, hg'⟩)
    simp only [addEnt]
    refine loosek_has 6 (fun v W' => ∃ A1 c1 B1 d1, v = .tuple #[.agg #[.slice A1 RW.2.lasts.length c1, .slice B1 RW.2.waits.length d1, .int .i64 RW.2.kind, .int .i64 RW.2.left, .bool RW.2.dead, .int .i64 RW.2.steps], .int .i64 (RW.1 : Nat)] ∧ RkAt W' (.agg #[.slice A1 RW.2.lasts.length c1, .slice B1 RW.2.waits.length d1, .int .i64 RW.2.kind, .int .i64 RW.2.left, .bool RW.2.dead, .int .i64 RW.2.steps]) RW.2) rfl (fun W vals hW hkn φ' hφ => ?_) ?_
    · have hC := hW.c
      simp only [knowsK] at hkn
      try simp only [and_true] at hkn
      obtain ⟨W1, h0, h1, A1, c1, B1, d1, hv, hr⟩ := hkn.1 (by decide); have HR5 := Lib.hid (hr.keeps (BtwK.one h1 (.inr (.inr (.inr (by decide)))))); clear hr h0 h1 hkn hC hW
      refine ⟨?_⟩
      simp only [fill]
      go_simp
      exact ⟨HLK.out.stp (Keeps.refl _ _), hφ.out _ _ ⟨A1, c1, B1, d1, rfl, HR5.out⟩⟩
    simp only [addEnt]
    refine loosek_has 7 (fun v W' => ∃ A1 c1 B1 d1, v = .agg #[.slice A1 RW.2.lasts.length c1, .slice B1 RW.2.waits.length d1, .int .i64 RW.2.kind, .int .i64 RW.2.left, .bool RW.2.dead, .int .i64 RW.2.steps] ∧ RkAt W' (.agg #[.slice A1 RW.2.lasts.length c1, .slice B1 RW.2.waits.length d1, .int .i64 RW.2.kind, .int .i64 RW.2.left, .bool RW.2.dead, .int .i64 RW.2.steps]) RW.2) rfl (fun W vals hW hkn φ' hφ => ?_) ?_
    · have hC := hW.c
      simp only [knowsK] at hkn
      try simp only [and_true] at hkn
      obtain ⟨W1, h0, h1, A1, c1, B1, d1, hv, hr⟩ := hkn.1 (by decide); have HR5 := Lib.hid (hr.keeps (BtwK.one h1 (.inr (.inr (.inr (by decide)))))); clear hr h0 h1 hkn hC hW
      refine ⟨?_⟩
      simp only [fill]
      go_simp
      exact ⟨HLK.out.stp (Keeps.refl _ _), hφ.out _ _ ⟨A1, c1, B1, d1, rfl, HR5.out⟩⟩
    simp only [addEnt]
    apply loosek_is 8 _ rfl
    · intro W vals hW hkn
      have hC := hW.c
      simp only [knowsK] at hkn
      try simp only [and_true] at hkn
      obtain ⟨W1, h0, h1, A1, c1, B1, d1, hv, hr⟩ := hkn.2.1 (by decide); clear hr h0 h1 hkn hC hW
      refine ⟨?_⟩
      simp only [fill]
      go_simp
      first | exact ⟨HLK.out.stp (Keeps.refl _ _), rfl⟩ | exact ⟨HLK.out.stp (Keeps.alloc _ _), rfl⟩
    simp only [addEnt]
    refine loosek_has 9 (fun _ W' => ∃ A1 c1 B1 d1, Row W' w.heap.size 43 #[.slice A1 RW.2.lasts.length c1, .slice B1 RW.2.waits.length d1, .int .i64 RW.2.kind, .int .i64 RW.2.left, .bool RW.2.dead, .int .i64 RW.2.steps] ∧ RkAt W' (.agg #[.slice A1 RW.2.lasts.length c1, .slice B1 RW.2.waits.length d1, .int .i64 RW.2.kind, .int .i64 RW.2.left, .bool RW.2.dead, .int .i64 RW.2.steps]) RW.2) rfl (fun W vals hW hkn φ' hφ => ?_) ?_
    · have hC := hW.c
      simp only [knowsK] at hkn
      try simp only [and_true] at hkn
      have hk9 : Keeps W0 W [] := PreK.one hW (.inl rfl); obtain ⟨W1, h0, h1, A1, c1, B1, d1, hv, hr⟩ := hkn.1 (by decide); have q0 := H0.out.2.1.keeps hk9; have HR9 := Lib.hid (And.intro q0 (hr.keeps (BtwK.one h1 (.inr (.inr (.inl rfl)))))); have g0 := q0.cell 0; have g1 := q0.cell 1; have g2 := q0.cell 2; have g3 := q0.cell 3; have g4 := q0.cell 4; have g5 := q0.cell 5; have f0 := q0.frozen 0; have f1 := q0.frozen 1; have f2 := q0.frozen 2; have f3 := q0.frozen 3; have f4 := q0.frozen 4; have f5 := q0.frozen 5; simp only [List.getElem?_toArray, List.getElem?_cons_zero, List.getElem?_cons_succ] at g0 g1 g2 g3 g4 g5; clear hr h0 h1 hkn hC hW hk9 q0
      refine ⟨?_⟩
      simp only [fill]
      go_simp
      exact rk_stored HR9.out.1 HR9.out.2 hφ
    simp only [addEnt]
    apply loosek_is 10 _ rfl
    · intro W vals hW hkn
      clear hkn
      have hC := hW.c
      refine ⟨?_⟩
      simp only [fill]
      go_simp
      first | exact ⟨HLK.out.stp (Keeps.refl _ _), rfl⟩ | exact ⟨HLK.out.stp (Keeps.alloc _ _), rfl⟩
    simp only [addEnt]
    refine loosek_nil (fun W9 vals hW hkn => ?_)
    simp only [knowsAllK] at hkn
    try simp only [and_true] at hkn
    simp only [fill, Act.put, List.setIfInBounds_toArray, List.set_cons_succ, List.set_cons_zero]
    obtain ⟨⟨_, W7, g1, g2, A1, c1, B1, d1, hr7, hg7⟩, -⟩ := hkn
    obtain ⟨W2, rfl⟩ : ∃ x, x = W9 := ⟨_, rfl⟩
    have hk2 : Keeps W0 W2 [w.heap.size] := OldBut.out hW
    have hka : Keeps W7 W2 [] := PostK.one g2 (.inl rfl)
    have n2 : n0 ≤ w.heap.size := hP.size HH.out.1
    have H2 := Lib.hid (And.intro (hr7.keeps hka) (And.intro (HE0.out.keep hk2 (by simp)) (And.intro (H0.out.2.2.2.1.keep hk2 (by simp; omega)) (And.intro (hg7.keeps hka) (And.intro (hP.box H0.out.2.2.2.2.1 n2 H0.out.2.1 (by decide) (by decide) hk2) (RowsBut.fresh (RowsBut.of_keeps (s := d0) H0.out.1) hk2 (Nat.le_refl _)))))))
    have b0 := H2.out.2.1.cell 0
    have b1 := H2.out.2.1.cell 1
    have b2 := H2.out.2.1.cell 2
    have b3 := H2.out.2.1.cell 3
    simp only [List.getElem?_toArray, List.getElem?_cons_zero, List.getElem?_cons_succ] at b0 b1 b2 b3
    clear g1 g2 hr7 hg7 hk2 hka n2 hW MB0 MB1 MB2 MB3 MB4 MB5 MA0 MA1 MA2 MA3 y0 y1 y2 y3 y4 y5 a0 a1 a2 a3
    go_upto_region 5 with fail
    have MA0 := fun (W' : World) (hW : Keeps W2 W' []) => (H2.out.2.1.keeps hW).cell 0
    have MA1 := fun (W' : World) (hW : Keeps W2 W' []) => (H2.out.2.1.keeps hW).cell 1
    have MA2 := fun (W' : World) (hW : Keeps W2 W' []) => (H2.out.2.1.keeps hW).cell 2
    have MA3 := fun (W' : World) (hW : Keeps W2 W' []) => (H2.out.2.1.keeps hW).cell 3
    simp only [List.getElem?_toArray, List.getElem?_cons_zero, List.getElem?_cons_succ] at MA0 MA1 MA2 MA3
    go_wp2_with fail
    refine wp_region_tail KeepsAll _ 5 (by kernel_rfl) rfl (by kernel_rfl) (fun _ => Keeps.refl _ _) (fun _ _ _ h k => h.trans k (by simp)) (Keeps.drew _) ?_
    simp only [List.take_succ_cons, List.take_zero, List.drop_succ_cons, List.drop_zero]
    apply loose_is
    · intro W vals hW hkn
      clear hkn
      refine ⟨?_⟩
      simp only [fill]
      go_simp
      first | exact ⟨Keeps.refl _ _, rfl⟩ | exact ⟨Keeps.alloc _ _, rfl⟩
    simp only [addEnt]
    apply loose_is
    · intro W vals hW hkn
      clear hkn
      refine ⟨?_⟩
      simp only [fill]
      go_simp
      first | exact ⟨Keeps.refl _ _, rfl⟩ | exact ⟨Keeps.alloc _ _, rfl⟩
    simp only [addEnt]
    apply loose_is
    · intro W vals hW hkn
      clear hkn
      refine ⟨?_⟩
      simp only [fill]
      go_simp
      first | exact ⟨Keeps.refl _ _, rfl⟩ | exact ⟨Keeps.alloc _ _, rfl⟩
    simp only [addEnt]
    apply loose_is
    · intro W vals hW hkn
      clear hkn
      refine ⟨?_⟩
      simp only [fill]
      go_simp
      first | exact ⟨Keeps.refl _ _, rfl⟩ | exact ⟨Keeps.alloc _ _, rfl⟩
    simp only [addEnt]
    refine loose_has (fun v W' => ∃ b n, v = .slice (some ⟨b, 0, none⟩) n n ∧ n = (actBytes page byte).length ∧ Row W' b 5 (leafC (actBytes page byte))) (fun W vals hW hkn φ' hφ => ?_) ?_
    · simp only [knows] at hkn
      try simp only [and_true] at hkn
      clear hkn
      refine ⟨?_⟩
      simp only [fill]
      go_simp
      (with_reducible refine looseUpon_has hφ ?_; refine (HBY.out W).mono ?_; intro e w5 hpo; unfold ActPost at hpo; obtain ⟨b, n, rfl, hn, hb, hr, hk⟩ := hpo; exact ⟨_, rfl, hk, b, n, rfl, hn, hr⟩)
    simp only [addEnt]
    refine loose_nil (fun W vals hW hkn => ?_)
    simp only [knowsAll] at hkn
    try simp only [and_true] at hkn
    simp only [fill, Act.put, List.setIfInBounds_toArray, List.set_cons_succ, List.set_cons_zero]
    obtain ⟨W7, g1, g2, b7, n7, hv7, hn7, hr7⟩ := hkn
    rw [hv7]
    have HB7 := Lib.hid (And.intro hn7 (hr7.keeps g2))
    have H2 := Lib.hid (And.intro (H2.out.1.keeps hW) (And.intro (H2.out.2.1.keeps hW) (And.intro (H2.out.2.2.1.keeps hW) (And.intro (H2.out.2.2.2.1.keeps hW) (And.intro (hP.keeps H2.out.2.2.2.2.1 hW) (H2.out.2.2.2.2.2.keeps hW))))))
    obtain ⟨W2, rfl⟩ : ∃ x, x = W := ⟨_, rfl⟩
    clear g1 g2 hv7 hn7 hr7 hW MA0 MA1 MA2 MA3
    go_wp2_with fail
    refine (hP.write H2.out.2.2.2.2.1 page (some ⟨b7, 0, none⟩) n7 n7 (actBytes page byte) HB7.out.1.symm (lies_page HB7.out.2) (by have := HH.out.2.2.1; omega)).mono ?_
    rintro e w3 ⟨rfl, hp3, hap⟩
    obtain ⟨ss, hss⟩ := hP.row H2.out.2.2.2.2.1
    have hbd : w.heap.size + 1 + 1 < W2.heap.size := H2.out.2.2.1.lt
    have ha' := RowsBut.of_apart hap
    have nb := Row.ne_type H2.out.1 hss (by decide)
    have nb2 := Row.ne_type H2.out.2.2.1 hss (by decide)
    have q9 := ha'.row nb H2.out.1
    have q6 := ha'.row nb2 H2.out.2.2.1
    have H3 := Lib.hid (And.intro q9 (And.intro q6 (And.intro (H2.out.2.2.2.1.rows ha' hss) (And.intro hp3 (H2.out.2.2.2.2.2.trans ha')))))
    have y0 := q9.cell 0
    have y1 := q9.cell 1
    have y2 := q9.cell 2
    have y3 := q9.cell 3
    have y4 := q9.cell 4
    have y5 := q9.cell 5
    simp only [List.getElem?_toArray, List.getElem?_cons_zero, List.getElem?_cons_succ] at y0 y1 y2 y3 y4 y5
    have v0 := q6.cell 0
    have v1 := q6.cell 1
    have v2 := q6.cell 2
    have v3 := q6.cell 3
    have v4 := q6.cell 4
    have v5 := q6.cell 5
    simp only [List.getElem?_toArray, List.getElem?_cons_zero, List.getElem?_cons_succ] at v0 v1 v2 v3 v4 v5
    have u0 := q6.frozen 0
    have u1 := q6.frozen 1
    have u2 := q6.frozen 2
    have u3 := q6.frozen 3
    have u4 := q6.frozen 4
    have u5 := q6.frozen 5
    clear q9 q6 ha' hap hss nb nb2 hbd hp3 b0 b1 b2 b3
    go_wp2_with fail
    obtain ⟨p1, p2⟩ := rk_put H3.out.2.1 (.slice A1 RW.2.lasts.length c1) (.slice B1 RW.2.waits.length d1) (.int .i64 RW.2.kind) (.int .i64 RW.2.left) (.bool RW.2.dead) (.int .i64 RW.2.steps)
    have n2 : n0 ≤ w.heap.size := hP.size HH.out.1
    refine does_door _ _ _ _ _ _ _ _ _ _ rfl rfl p1 _ ?_
    refine ⟨_, by rw [HA.out.1, HA.out.2]; rfl, ?_, ?_, RowsBut.fresh H3.out.2.2.2.2 p2 (by omega)⟩
    · rw [HA.out.2]
      exact H3.out.2.2.1.keep p2 (fun x hx => by obtain rfl := List.mem_singleton.1 hx; exact ⟨_, _, H3.out.2.1, by decide, by decide⟩)
    · rw [HA.out.1]
      exact hP.box H3.out.2.2.2.1 (by omega) H3.out.2.1 (by decide) (by decide) p2
  · by_cases h2 : k = 2
    · subst h2
      obtain ⟨k, hk1⟩ : ∃ k : Int, k = 2 := ⟨_, rfl⟩
      have HA := Lib.hid (show D.act ⟨k, page, byte, arm⟩ = D.flush ∧ R.act ⟨k, page, byte, arm⟩ = R.flush from by subst hk1; exact ⟨rfl, rfl⟩)
      rw [← hk1]
      have n1 : (k == 1) = false := by rw [hk1]; rfl
      have n2 : (k == 2) = true := by rw [hk1]; rfl
      have HK1 := Lib.hid hk1
      clear hk1 h1
      go_enter Try.func17, Try.ntmps17
      go_upto_region 2 with fail
      obtain ⟨W0, hW0⟩ : ∃ W0, ((w.alloc (.cells (rkRow R A c B d) 43)).alloc (.cells #[.int .i64 k, .int .i64 page, .int .u8 y, .int .i64 arm] 39)).alloc (.cells rkZero 43) = W0 := ⟨_, rfl⟩
      have k0 : Keeps w W0 [] := by rw [← hW0]; exact ((Keeps.alloc _ _).then_alloc _).then_alloc _
      have r0 : Row W0 w.heap.size 43 (rkRow R A c B d) := by rw [← hW0]; exact ((Row.new _ _ _).alloc _).alloc _
      have r1 : Row W0 (w.heap.size + 1) 39 #[.int .i64 k, .int .i64 page, .int .u8 y, .int .i64 arm] := by
        rw [← hW0]
        have := (Row.new (w.alloc (.cells (rkRow R A c B d) 43)) 39 #[.int .i64 k, .int .i64 page, .int .u8 y, .int .i64 arm]).alloc (.cells rkZero 43)
        rwa [World.size_alloc] at this
      have r2 : Row W0 (w.heap.size + 1 + 1) 43 rkZero := by
        rw [← hW0]
        have := Row.new ((w.alloc (.cells (rkRow R A c B d) 43)).alloc (.cells #[.int .i64 k, .int .i64 page, .int .u8 y, .int .i64 arm] 39)) 43 rkZero
        rwa [World.size_alloc, World.size_alloc] at this
      rw [show ((w.alloc (.cells #[.slice A R.lasts.length c, .slice B R.waits.length d, .int .i64 R.kind, .int .i64 R.left, .bool R.dead, .int .i64 R.steps] 43)).alloc (.cells #[.int .i64 k, .int .i64 page, .int .u8 y, .int .i64 arm] 39)).alloc (.cells #[.slice none 0 0, .slice none 0 0, .int .i64 0, .int .i64 0, .bool false, .int .i64 0] 43) = W0 from hW0]
      have H0 := Lib.hid (And.intro k0 (And.intro r0 (And.intro r1 (And.intro r2 (And.intro (hP.keeps HH.out.1 k0) (HH.out.2.1.keeps k0))))))
      have y0 := r0.cell 0
      have y1 := r0.cell 1
      have y2 := r0.cell 2
      have y3 := r0.cell 3
      have y4 := r0.cell 4
      have y5 := r0.cell 5
      simp only [List.getElem?_toArray, List.getElem?_cons_zero, List.getElem?_cons_succ] at y0 y1 y2 y3 y4 y5
      have a0 := r1.cell 0
      have a1 := r1.cell 1
      have a2 := r1.cell 2
      have a3 := r1.cell 3
      simp only [List.getElem?_toArray, List.getElem?_cons_zero, List.getElem?_cons_succ] at a0 a1 a2 a3
      clear k0 r0 r1 r2 hW0
      rw [HK1.out]
      go_wp2_with fail
      refine (refFlush_any W0 _ R H0.out.2.2.2.2.2 HH.out.2.2.2.1.w HH.out.2.2.2.1.l HH.out.2.2.2.1.i).mono ?_
      rintro e w1 ⟨g', rfl, hg', hk'⟩
      obtain ⟨A1, c1, B1, d1, rfl, hA1, hB1⟩ := hg'.e
      have q0 := H0.out.2.1.keeps hk'
      have y0 := q0.cell 0
      have y1 := q0.cell 1
      have y2 := q0.cell 2
      have y3 := q0.cell 3
      have y4 := q0.cell 4
      have y5 := q0.cell 5
      simp only [List.getElem?_toArray, List.getElem?_cons_zero, List.getElem?_cons_succ] at y0 y1 y2 y3 y4 y5
      have z0 := q0.frozen 0
      have z1 := q0.frozen 1
      have z2 := q0.frozen 2
      have z3 := q0.frozen 3
      have z4 := q0.frozen 4
      have z5 := q0.frozen 5
      have H1 := Lib.hid (And.intro (H0.out.1.then_ hk') (And.intro q0 (And.intro (H0.out.2.2.1.keeps hk') (And.intro (H0.out.2.2.2.1.keeps hk') (And.intro hg' (hP.keeps H0.out.2.2.2.2.1 hk'))))))
      clear q0 hk' hg' hA1 hB1
      go_upto_region 8 with fail
      obtain ⟨W2, hW2⟩ : ∃ W2, (((((w1.setCell ⟨w.heap.size, 0, none⟩ (.slice A1 R.flush.2.lasts.length c1)).setCell ⟨w.heap.size, 1, none⟩ (.slice B1 R.flush.2.waits.length d1)).setCell ⟨w.heap.size, 2, none⟩ (.int .i64 R.flush.2.kind)).setCell ⟨w.heap.size, 3, none⟩ (.int .i64 R.flush.2.left)).setCell ⟨w.heap.size, 4, none⟩ (.bool R.flush.2.dead)).setCell ⟨w.heap.size, 5, none⟩ (.int .i64 R.flush.2.steps) = W2 := ⟨_, rfl⟩
      obtain ⟨q2, k2⟩ := rk_put H1.out.2.1 (.slice A1 R.flush.2.lasts.length c1) (.slice B1 R.flush.2.waits.length d1) (.int .i64 R.flush.2.kind) (.int .i64 R.flush.2.left) (.bool R.flush.2.dead) (.int .i64 R.flush.2.steps)
      rw [hW2] at q2 k2 ⊢
      have n2 : n0 ≤ w.heap.size := hP.size HH.out.1
      have H2 := Lib.hid (And.intro q2 (And.intro (H1.out.2.2.1.keep k2 (by simp)) (And.intro (H1.out.2.2.2.1.keep k2 (by simp; omega)) (And.intro (H1.out.2.2.2.2.1.keep k2 (fun x hx => by obtain rfl := List.mem_singleton.1 hx; exact ⟨_, _, H1.out.2.1, by decide, by decide⟩)) (And.intro (hP.box H1.out.2.2.2.2.2 n2 H1.out.2.1 (by decide) (by decide) k2) (RowsBut.fresh (RowsBut.of_keeps (s := d0) H1.out.1) k2 (Nat.le_refl _)))))))
      have b0 := H2.out.2.1.cell 0
      have b1 := H2.out.2.1.cell 1
      have b2 := H2.out.2.1.cell 2
      have b3 := H2.out.2.1.cell 3
      simp only [List.getElem?_toArray, List.getElem?_cons_zero, List.getElem?_cons_succ] at b0 b1 b2 b3
      clear q2 k2 hW2 n2 y0 y1 y2 y3 y4 y5 z0 z1 z2 z3 z4 z5 a0 a1 a2 a3
      go_wp2_with fail
      refine (hP.flush H2.out.2.2.2.2.1).mono ?_
      rintro e w3 ⟨rfl, hp3, hap⟩
      obtain ⟨ss, hss⟩ := hP.row H2.out.2.2.2.2.1
      have hbd : w.heap.size + 1 + 1 < W2.heap.size := H2.out.2.2.1.lt
      have ha' := RowsBut.of_apart hap
      have nb := Row.ne_type H2.out.1 hss (by decide)
      have nb2 := Row.ne_type H2.out.2.2.1 hss (by decide)
      have q9 := ha'.row nb H2.out.1
      have q6 := ha'.row nb2 H2.out.2.2.1
      have H3 := Lib.hid (And.intro q9 (And.intro q6 (And.intro (H2.out.2.2.2.1.rows ha' hss) (And.intro hp3 (H2.out.2.2.2.2.2.trans ha')))))
      have y0 := q9.cell 0
      have y1 := q9.cell 1
      have y2 := q9.cell 2
      have y3 := q9.cell 3
      have y4 := q9.cell 4
      have y5 := q9.cell 5
      simp only [List.getElem?_toArray, List.getElem?_cons_zero, List.getElem?_cons_succ] at y0 y1 y2 y3 y4 y5
      have v0 := q6.cell 0
      have v1 := q6.cell 1
      have v2 := q6.cell 2
      have v3 := q6.cell 3
      have v4 := q6.cell 4
      have v5 := q6.cell 5
      simp only [List.getElem?_toArray, List.getElem?_cons_zero, List.getElem?_cons_succ] at v0 v1 v2 v3 v4 v5
      have u0 := q6.frozen 0
      have u1 := q6.frozen 1
      have u2 := q6.frozen 2
      have u3 := q6.frozen 3
      have u4 := q6.frozen 4
      have u5 := q6.frozen 5
      clear q9 q6 ha' hap hss nb nb2 hbd hp3 b0 b1 b2 b3
      go_wp2_with fail
      obtain ⟨p1, p2⟩ := rk_put H3.out.2.1 (.slice A1 R.flush.2.lasts.length c1) (.slice B1 R.flush.2.waits.length d1) (.int .i64 R.flush.2.kind) (.int .i64 R.flush.2.left) (.bool R.flush.2.dead) (.int .i64 R.flush.2.steps)
      have n2 : n0 ≤ w.heap.size := hP.size HH.out.1
      refine does_door _ _ _ _ _ _ _ _ _ _ rfl rfl p1 _ ?_
      refine ⟨_, by rw [HA.out.1, HA.out.2]; rfl, ?_, ?_, RowsBut.fresh H3.out.2.2.2.2 p2 (by omega)⟩
      · rw [HA.out.2]
        exact H3.out.2.2.1.keep p2 (fun x hx => by obtain rfl := List.mem_singleton.1 hx; exact ⟨_, _, H3.out.2.1, by decide, by decide⟩)
      · rw [HA.out.1]
        exact hP.box H3.out.2.2.2.1 (by omega) H3.out.2.1 (by decide) (by decide) p2
    · by_cases h3 : k = 3
      · subst h3
        obtain ⟨k, hk1⟩ : ∃ k : Int, k = 3 := ⟨_, rfl⟩
        have HA := Lib.hid (show D.act ⟨k, page, byte, arm⟩ = D.arm arm page ∧ R.act ⟨k, page, byte, arm⟩ = R.arm arm page from by subst hk1; exact ⟨rfl, rfl⟩)
        rw [← hk1]
        have n1 : (k == 1) = false := by rw [hk1]; rfl
        have n2 : (k == 2) = false := by rw [hk1]; rfl
        have n3 : (k == 3) = true := by rw [hk1]; rfl
        have HK1 := Lib.hid hk1
        clear hk1 h1 h2
        go_enter Try.func17, Try.ntmps17
        go_upto_region 2 with fail
        obtain ⟨W0, hW0⟩ : ∃ W0, ((w.alloc (.cells (rkRow R A c B d) 43)).alloc (.cells #[.int .i64 k, .int .i64 page, .int .u8 y, .int .i64 arm] 39)).alloc (.cells rkZero 43) = W0 := ⟨_, rfl⟩
        have k0 : Keeps w W0 [] := by rw [← hW0]; exact ((Keeps.alloc _ _).then_alloc _).then_alloc _
        have r0 : Row W0 w.heap.size 43 (rkRow R A c B d) := by rw [← hW0]; exact ((Row.new _ _ _).alloc _).alloc _
        have r1 : Row W0 (w.heap.size + 1) 39 #[.int .i64 k, .int .i64 page, .int .u8 y, .int .i64 arm] := by
          rw [← hW0]
          have := (Row.new (w.alloc (.cells (rkRow R A c B d) 43)) 39 #[.int .i64 k, .int .i64 page, .int .u8 y, .int .i64 arm]).alloc (.cells rkZero 43)
          rwa [World.size_alloc] at this
        have r2 : Row W0 (w.heap.size + 1 + 1) 43 rkZero := by
          rw [← hW0]
          have := Row.new ((w.alloc (.cells (rkRow R A c B d) 43)).alloc (.cells #[.int .i64 k, .int .i64 page, .int .u8 y, .int .i64 arm] 39)) 43 rkZero
          rwa [World.size_alloc, World.size_alloc] at this
        rw [show ((w.alloc (.cells #[.slice A R.lasts.length c, .slice B R.waits.length d, .int .i64 R.kind, .int .i64 R.left, .bool R.dead, .int .i64 R.steps] 43)).alloc (.cells #[.int .i64 k, .int .i64 page, .int .u8 y, .int .i64 arm] 39)).alloc (.cells #[.slice none 0 0, .slice none 0 0, .int .i64 0, .int .i64 0, .bool false, .int .i64 0] 43) = W0 from hW0]
        have H0 := Lib.hid (And.intro k0 (And.intro r0 (And.intro r1 (And.intro r2 (And.intro (hP.keeps HH.out.1 k0) (HH.out.2.1.keeps k0))))))
        have y0 := r0.cell 0
        have y1 := r0.cell 1
        have y2 := r0.cell 2
        have y3 := r0.cell 3
        have y4 := r0.cell 4
        have y5 := r0.cell 5
        simp only [List.getElem?_toArray, List.getElem?_cons_zero, List.getElem?_cons_succ] at y0 y1 y2 y3 y4 y5
        have a0 := r1.cell 0
        have a1 := r1.cell 1
        have a2 := r1.cell 2
        have a3 := r1.cell 3
        simp only [List.getElem?_toArray, List.getElem?_cons_zero, List.getElem?_cons_succ] at a0 a1 a2 a3
        clear k0 r0 r1 r2 hW0
        rw [HK1.out]
        go_wp2_with fail
        refine (refArm_any W0 _ R H0.out.2.2.2.2.2 arm page).mono ?_
        rintro e w1 ⟨g', rfl, hg', hk'⟩
        have aa1 := ((H0.out.2.2.1.keeps hk').cell 1)
        have aa3 := ((H0.out.2.2.1.keeps hk').cell 3)
        simp only [List.getElem?_toArray, List.getElem?_cons_zero, List.getElem?_cons_succ] at aa1 aa3
        obtain ⟨A1, c1, B1, d1, rfl, hA1, hB1⟩ := hg'.e
        have q0 := H0.out.2.1.keeps hk'
        have y0 := q0.cell 0
        have y1 := q0.cell 1
        have y2 := q0.cell 2
        have y3 := q0.cell 3
        have y4 := q0.cell 4
        have y5 := q0.cell 5
        simp only [List.getElem?_toArray, List.getElem?_cons_zero, List.getElem?_cons_succ] at y0 y1 y2 y3 y4 y5
        have z0 := q0.frozen 0
        have z1 := q0.frozen 1
        have z2 := q0.frozen 2
        have z3 := q0.frozen 3
        have z4 := q0.frozen 4
        have z5 := q0.frozen 5
        have H1 := Lib.hid (And.intro (H0.out.1.then_ hk') (And.intro q0 (And.intro (H0.out.2.2.1.keeps hk') (And.intro (H0.out.2.2.2.1.keeps hk') (And.intro hg' (hP.keeps H0.out.2.2.2.2.1 hk'))))))
        clear q0 hk' hg' hA1 hB1
        go_upto_region 11 with fail
        clear aa1 aa3
        obtain ⟨W2, hW2⟩ : ∃ W2, (((((w1.setCell ⟨w.heap.size, 0, none⟩ (.slice A1 (R.arm arm page).2.lasts.length c1)).setCell ⟨w.heap.size, 1, none⟩ (.slice B1 (R.arm arm page).2.waits.length d1)).setCell ⟨w.heap.size, 2, none⟩ (.int .i64 (R.arm arm page).2.kind)).setCell ⟨w.heap.size, 3, none⟩ (.int .i64 (R.arm arm page).2.left)).setCell ⟨w.heap.size, 4, none⟩ (.bool (R.arm arm page).2.dead)).setCell ⟨w.heap.size, 5, none⟩ (.int .i64 (R.arm arm page).2.steps) = W2 := ⟨_, rfl⟩
        obtain ⟨q2, k2⟩ := rk_put H1.out.2.1 (.slice A1 (R.arm arm page).2.lasts.length c1) (.slice B1 (R.arm arm page).2.waits.length d1) (.int .i64 (R.arm arm page).2.kind) (.int .i64 (R.arm arm page).2.left) (.bool (R.arm arm page).2.dead) (.int .i64 (R.arm arm page).2.steps)
        rw [hW2] at q2 k2 ⊢
        have n2 : n0 ≤ w.heap.size := hP.size HH.out.1
        have H2 := Lib.hid (And.intro q2 (And.intro (H1.out.2.2.1.keep k2 (by simp)) (And.intro (H1.out.2.2.2.1.keep k2 (by simp; omega)) (And.intro (H1.out.2.2.2.2.1.keep k2 (fun x hx => by obtain rfl := List.mem_singleton.1 hx; exact ⟨_, _, H1.out.2.1, by decide, by decide⟩)) (And.intro (hP.box H1.out.2.2.2.2.2 n2 H1.out.2.1 (by decide) (by decide) k2) (RowsBut.fresh (RowsBut.of_keeps (s := d0) H1.out.1) k2 (Nat.le_refl _)))))))
        have b0 := H2.out.2.1.cell 0
        have b1 := H2.out.2.1.cell 1
        have b2 := H2.out.2.1.cell 2
        have b3 := H2.out.2.1.cell 3
        simp only [List.getElem?_toArray, List.getElem?_cons_zero, List.getElem?_cons_succ] at b0 b1 b2 b3
        clear q2 k2 hW2 n2 y0 y1 y2 y3 y4 y5 z0 z1 z2 z3 z4 z5 a0 a1 a2 a3
        go_wp2_with fail
        refine (hP.arm H2.out.2.2.2.2.1 arm page HH.out.2.2.2.2).mono ?_
        rintro e w3 ⟨rfl, hp3, hap⟩
        obtain ⟨ss, hss⟩ := hP.row H2.out.2.2.2.2.1
        have hbd : w.heap.size + 1 + 1 < W2.heap.size := H2.out.2.2.1.lt
        have ha' := RowsBut.of_apart hap
        have nb := Row.ne_type H2.out.1 hss (by decide)
        have nb2 := Row.ne_type H2.out.2.2.1 hss (by decide)
        have q9 := ha'.row nb H2.out.1
        have q6 := ha'.row nb2 H2.out.2.2.1
        have H3 := Lib.hid (And.intro q9 (And.intro q6 (And.intro (H2.out.2.2.2.1.rows ha' hss) (And.intro hp3 (H2.out.2.2.2.2.2.trans ha')))))
        have y0 := q9.cell 0
        have y1 := q9.cell 1
        have y2 := q9.cell 2
        have y3 := q9.cell 3
        have y4 := q9.cell 4
        have y5 := q9.cell 5
        simp only [List.getElem?_toArray, List.getElem?_cons_zero, List.getElem?_cons_succ] at y0 y1 y2 y3 y4 y5
        have v0 := q6.cell 0
        have v1 := q6.cell 1
        have v2 := q6.cell 2
        have v3 := q6.cell 3
        have v4 := q6.cell 4
        have v5 := q6.cell 5
        simp only [List.getElem?_toArray, List.getElem?_cons_zero, List.getElem?_cons_succ] at v0 v1 v2 v3 v4 v5
        have u0 := q6.frozen 0
        have u1 := q6.frozen 1
        have u2 := q6.frozen 2
        have u3 := q6.frozen 3
        have u4 := q6.frozen 4
        have u5 := q6.frozen 5
        clear q9 q6 ha' hap hss nb nb2 hbd hp3 b0 b1 b2 b3
        go_wp2_with fail
        obtain ⟨p1, p2⟩ := rk_put H3.out.2.1 (.slice A1 (R.arm arm page).2.lasts.length c1) (.slice B1 (R.arm arm page).2.waits.length d1) (.int .i64 (R.arm arm page).2.kind) (.int .i64 (R.arm arm page).2.left) (.bool (R.arm arm page).2.dead) (.int .i64 (R.arm arm page).2.steps)
        have n2 : n0 ≤ w.heap.size := hP.size HH.out.1
        refine does_door _ _ _ _ _ _ _ _ _ _ rfl rfl p1 _ ?_
        refine ⟨_, by rw [HA.out.1, HA.out.2]; rfl, ?_, ?_, RowsBut.fresh H3.out.2.2.2.2 p2 (by omega)⟩
        · rw [HA.out.2]
          exact H3.out.2.2.1.keep p2 (fun x hx => by obtain rfl := List.mem_singleton.1 hx; exact ⟨_, _, H3.out.2.1, by decide, by decide⟩)
        · rw [HA.out.1]
          exact hP.box H3.out.2.2.2.1 (by omega) H3.out.2.1 (by decide) (by decide) p2
      · have n1 : (k == 1) = false := by simpa using h1
        have n2 : (k == 2) = false := by simpa using h2
        have n3 : (k == 3) = false := by simpa using h3
        have HA := Lib.hid (show D.act ⟨k, page, byte, arm⟩ = (0, D) ∧ R.act ⟨k, page, byte, arm⟩ = (0, R) by unfold Dk.act Rk.act; simp [h1, h2, h3])
        clear h1 h2 h3
        go_enter Try.func17, Try.ntmps17
        go_upto_region 2 with fail
        obtain ⟨W0, hW0⟩ : ∃ W0, ((w.alloc (.cells (rkRow R A c B d) 43)).alloc (.cells #[.int .i64 k, .int .i64 page, .int .u8 y, .int .i64 arm] 39)).alloc (.cells rkZero 43) = W0 := ⟨_, rfl⟩
        have k0 : Keeps w W0 [] := by rw [← hW0]; exact ((Keeps.alloc _ _).then_alloc _).then_alloc _
        have r0 : Row W0 w.heap.size 43 (rkRow R A c B d) := by rw [← hW0]; exact ((Row.new _ _ _).alloc _).alloc _
        have r1 : Row W0 (w.heap.size + 1) 39 #[.int .i64 k, .int .i64 page, .int .u8 y, .int .i64 arm] := by
          rw [← hW0]
          have := (Row.new (w.alloc (.cells (rkRow R A c B d) 43)) 39 #[.int .i64 k, .int .i64 page, .int .u8 y, .int .i64 arm]).alloc (.cells rkZero 43)
          rwa [World.size_alloc] at this
        have r2 : Row W0 (w.heap.size + 1 + 1) 43 rkZero := by
          rw [← hW0]
          have := Row.new ((w.alloc (.cells (rkRow R A c B d) 43)).alloc (.cells #[.int .i64 k, .int .i64 page, .int .u8 y, .int .i64 arm] 39)) 43 rkZero
          rwa [World.size_alloc, World.size_alloc] at this
        rw [show ((w.alloc (.cells #[.slice A R.lasts.length c, .slice B R.waits.length d, .int .i64 R.kind, .int .i64 R.left, .bool R.dead, .int .i64 R.steps] 43)).alloc (.cells #[.int .i64 k, .int .i64 page, .int .u8 y, .int .i64 arm] 39)).alloc (.cells #[.slice none 0 0, .slice none 0 0, .int .i64 0, .int .i64 0, .bool false, .int .i64 0] 43) = W0 from hW0]
        have H0 := Lib.hid (And.intro k0 (And.intro r0 (And.intro r1 (And.intro r2 (And.intro (hP.keeps HH.out.1 k0) (HH.out.2.1.keeps k0))))))
        have y0 := r0.cell 0
        have y1 := r0.cell 1
        have y2 := r0.cell 2
        have y3 := r0.cell 3
        have y4 := r0.cell 4
        have y5 := r0.cell 5
        simp only [List.getElem?_toArray, List.getElem?_cons_zero, List.getElem?_cons_succ] at y0 y1 y2 y3 y4 y5
        have a0 := r1.cell 0
        have a1 := r1.cell 1
        have a2 := r1.cell 2
        have a3 := r1.cell 3
        simp only [List.getElem?_toArray, List.getElem?_cons_zero, List.getElem?_cons_succ] at a0 a1 a2 a3
        clear k0 r0 r1 r2 hW0
        have HQ := Lib.hid (And.intro H0.out.2.1 (And.intro H0.out.2.2.2.1 (And.intro H0.out.2.2.2.2.2 (And.intro H0.out.2.2.2.2.1 (RowsBut.of_keeps (s := d0) H0.out.1)))))
        have q6 := H0.out.2.2.2.1
        have v0 := q6.cell 0
        have v1 := q6.cell 1
        have v2 := q6.cell 2
        have v3 := q6.cell 3
        have v4 := q6.cell 4
        have v5 := q6.cell 5
        simp only [List.getElem?_toArray, List.getElem?_cons_zero, List.getElem?_cons_succ] at v0 v1 v2 v3 v4 v5
        have u0 := q6.frozen 0
        have u1 := q6.frozen 1
        have u2 := q6.frozen 2
        have u3 := q6.frozen 3
        have u4 := q6.frozen 4
        have u5 := q6.frozen 5
        clear q6
        obtain ⟨A1, rfl⟩ : ∃ A1, A1 = A := ⟨_, rfl⟩
        obtain ⟨c1, rfl⟩ : ∃ c1, c1 = c := ⟨_, rfl⟩
        obtain ⟨B1, rfl⟩ : ∃ B1, B1 = B := ⟨_, rfl⟩
        obtain ⟨d1, rfl⟩ : ∃ d1, d1 = d := ⟨_, rfl⟩
        go_wp2_with fail
        obtain ⟨p1, p2⟩ := rk_put HQ.out.2.1 (.slice A1 R.lasts.length c1) (.slice B1 R.waits.length d1) (.int .i64 R.kind) (.int .i64 R.left) (.bool R.dead) (.int .i64 R.steps)
        have n2 : n0 ≤ w.heap.size := hP.size HH.out.1
        refine does_door _ _ _ _ _ _ _ _ _ _ rfl rfl p1 _ ?_
        refine ⟨_, by rw [HA.out.1, HA.out.2]; rfl, ?_, ?_, RowsBut.fresh HQ.out.2.2.2.2 p2 (by omega)⟩
        · rw [HA.out.2]
          exact HQ.out.2.2.1.keep p2 (fun x hx => by obtain rfl := List.mem_singleton.1 hx; exact ⟨_, _, HQ.out.2.1, by decide, by decide⟩)
        · rw [HA.out.1]
          exact hP.box HQ.out.2.2.2.1 (by omega) HQ.out.2.1 (by decide) (by decide) p2
end Go.Proofs.Ytehlabdbbbbopaa
