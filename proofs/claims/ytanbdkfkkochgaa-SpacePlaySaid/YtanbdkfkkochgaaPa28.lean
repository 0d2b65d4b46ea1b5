/- The statement SpacePlay (layer 7): its walk. -/
import Derived.Test.YtanbdkfkkochgaaPa27
import Derived.Test.YtanbdkfkkochgaaPa19
import Derived.Test.YtanbdkfkkochgaaPa26

namespace Go.Proofs.Ytanbdkfkkochgaa
open Go.RowKit Go.Maps Go.Shelf

theorem known7_go {w w' : World} (h : Keeps w w' []) : Calls Try.prog 9 #[] w' fun e w'' => e = .returned (.bool true) ∧ Keeps w w'' [] :=
  (known7_any w').mono fun _ _ ⟨a, b⟩ => ⟨a, h.then_ b⟩
set_option maxRecDepth 100000 in
set_option maxHeartbeats 4000000 in
theorem spacePlay_far (w : World) (x0 x1 : Int) (A B : Option Addr) (c d n m : Nat) (h : (60 : Int) < m ∨ (60 : Int) < n ∨ (60 < x0 ∧ x0 ≤ 4096)) :
    Calls Try.prog 4 #[.agg #[.int .i64 x0, .int .i64 x1], .slice A n c, .slice B m d] w fun e w' => e = .returned (.bool true) ∧ Keeps w w' [] := by
  by_cases h1 : (60 : Int) < m
  · clear h
    go_enter Try.func4, Try.ntmps4
    go_wp2_with fail
    refine (known7_go (Keeps.alloc w _)).mono ?_
    rintro e w' ⟨rfl, hk⟩
    have HK := Lib.hid hk
    clear hk
    go_wp2_with fail
    go_ret
    exact ⟨rfl, HK.out⟩
  · by_cases h2 : (60 : Int) < n
    · clear h
      go_enter Try.func4, Try.ntmps4
      go_wp2_with fail
      refine (known7_go (Keeps.alloc w _)).mono ?_
      rintro e w' ⟨rfl, hk⟩
      have HK := Lib.hid hk
      clear hk
      go_wp2_with fail
      go_ret
      exact ⟨rfl, HK.out⟩
    · obtain ⟨h3, h4⟩ : 60 < x0 ∧ x0 ≤ 4096 := by omega
      clear h
      go_enter Try.func4, Try.ntmps4
      go_wp2_with fail
      refine (known7_go (Keeps.alloc w _)).mono ?_
      rintro e w' ⟨rfl, hk⟩
      have HK := Lib.hid hk
      clear hk
      go_wp2_with fail
      go_ret
      exact ⟨rfl, HK.out⟩
/-- What stands while calls are played. -/
structure PlayAt (W0 wr : World) (s gb most : Nat) (L M : List Nat) (v1 v2 : Value) : Prop where
  sp : SpIn W0 wr s most L M
  row : Row wr gb 39 #[.int .i64 (most : Int), v1, v2]
  ref : RefAt wr (.agg #[.int .i64 (most : Int), v1, v2]) most L M
  f : W0.heap.size ≤ gb ∧ s < gb
def SpY (W0 : World) (s : Nat) (w : World) : Prop := Keeps W0 w [] ∧ ∃ ss, Row w s 59 ss
theorem SpIn.y {W0 w : World} {s most : Nat} {L M : List Nat} (h : SpIn W0 w s most L M) : SpY W0 s w := ⟨h.h, (SpSense.one W0 s most).row h⟩
theorem RefL.fresh {W0 wr w w' : World} {s n : Nat} {G : Array Value → World → Prop} {A : Option Addr} {L : List Nat} (h : RefL w A L) (hf : FreshR (SpY W0 s) wr (fun c => c = s) 39 n G w w') (hy : SpY W0 s w) : RefL w' A L := fun hp => by
  obtain ⟨b, o, cs, e, hr, hc⟩ := h hp
  obtain ⟨_, ss, hs⟩ := hy
  exact ⟨b, o, cs, e, hf.row (Row.ne_type hr hs (by decide)) (.inl (by decide)) hr, hc⟩
theorem RefAt.fresh {W0 wr w w' : World} {s n : Nat} {G : Array Value → World → Prop} {g : Value} {most : Int} {L M : List Nat} (h : RefAt w g most L M) (hf : FreshR (SpY W0 s) wr (fun c => c = s) 39 n G w w') (hy : SpY W0 s w) : RefAt w' g most L M := by
  obtain ⟨A, c, B, d, e, h1, h2⟩ := h.e
  exact ⟨A, c, B, d, e, h1.fresh hf hy, h2.fresh hf hy⟩
theorem freshR_of_rows {W0 wr w w' : World} {s n m : Nat} {L1 M1 : List Nat} {G : Array Value → World → Prop} (hG : G = fun cs w => RefAt w (.agg cs) m L1 M1) (hy : SpY W0 s w) (hy' : SpY W0 s w') (h : RowsBut s w w') : FreshR (SpY W0 s) wr (fun c => c = s) 39 n G w w' :=
  ⟨h.size, fun a _ hr => h.row a hr, fun a ⟨cs, hs, hr⟩ => ⟨cs, hs, h.row a hr⟩, fun a ⟨cs, hr, hg⟩ => ⟨cs, h.row a hr, by obtain ⟨_, ss, hs⟩ := hy; subst hG; exact RefAt.rows hg h hs⟩, fun _ => hy'⟩
theorem cs_three {cs : Array Value} (h : cs.size = 3) : ∃ u0 u1 u2, cs = #[u0, u1, u2] := by
  obtain ⟨l⟩ := cs
  match l, h with
  | [a, b, c], _ => exact ⟨a, b, c, rfl⟩
theorem refbox_form {W : World} {m : Nat} {L1 M1 : List Nat} {G : Array Value → World → Prop} {a0 a1 a2 : Value} (hG : G = fun cs w => RefAt w (.agg cs) m L1 M1) (hg : G #[a0, a1, a2] W) : ∃ A n c B l d, a0 = .int .i64 m ∧ a1 = .slice A n c ∧ a2 = .slice B l d := by
  subst hG
  obtain ⟨A, c, B, d, e, _⟩ := RefAt.e hg
  injection e with e
  have e := congrArg Array.toList e
  simp only [List.cons.injEq, and_true] at e
  exact ⟨_, _, _, _, _, _, e.1, e.2.1, e.2.2⟩
theorem refbox_put {W0 wr W : World} {s m b : Nat} {L1 M1 : List Nat} {G : Array Value → World → Prop} {u0 u1 u2 a0 a1 a2 : Value} (hG : G = fun cs w => RefAt w (.agg cs) m L1 M1) (hw : SpY W0 s W ∧ wr.heap.size ≤ b ∧ W0.heap.size ≤ b ∧ b ≠ s) (hg : G #[a0, a1, a2] W)
    {rd : List Value} {φ' : Value → World → Prop} (hφ : Hid (∀ (u : Value) (w : World), (∃ b, rd = [.pointer (some ⟨b, 0, none⟩)] ∧ wr.heap.size ≤ b ∧ b ≠ s ∧ ∃ cs : Array Value, Row w b 39 cs ∧ G cs w) → φ' u w)) (hr : Row W b 39 #[u0, u1, u2]) (hrd : rd = [.pointer (some ⟨b, 0, none⟩)]) :
    FreshR1 (fun (i : List Nat × List Nat) w => SpIn W0 w s m i.1 i.2) (SpY W0 s) wr (fun c => c = s) 39 3 G W (((W.setCell ⟨b, 0, none⟩ a0).setCell ⟨b, 1, none⟩ a1).setCell ⟨b, 2, none⟩ a2) ∧
    φ' undef (((W.setCell ⟨b, 0, none⟩ a0).setCell ⟨b, 1, none⟩ a1).setCell ⟨b, 2, none⟩ a2) := by
  obtain ⟨hy, hb1, hb2, hb3⟩ := hw
  obtain ⟨p1, p2⟩ := ref_put hr a0 a1 a2
  have hm : ∀ ds, G ds W → G ds (((W.setCell ⟨b, 0, none⟩ a0).setCell ⟨b, 1, none⟩ a1).setCell ⟨b, 2, none⟩ a2) := fun ds h => by
    subst hG
    exact RefAt.box h p2 fun y hy => by obtain rfl := List.mem_singleton.1 hy; exact ⟨_, hr⟩
  have hy' : SpY W0 s (((W.setCell ⟨b, 0, none⟩ a0).setCell ⟨b, 1, none⟩ a1).setCell ⟨b, 2, none⟩ a2) := ⟨hy.1.trans p2 (fun y hy hlt => by simp at hy; omega), hy.2.imp fun ss h => h.keep p2 (by simpa using hb3.symm)⟩
  exact ⟨⟨.put hb1 (fun _ => hy') hr p1 rfl p2 (hm _ hg) hm, fun i h => SpIn.box h hb2 hr p2⟩, hφ.out _ _ ⟨b, hrd, hb1, hb3, _, p1, hm _ hg⟩⟩
set_option maxRecDepth 100000 in
set_option maxHeartbeats 2000000 in
theorem spacePlay_none (w : World) (x0 x1 : Int) (A B : Option Addr) (c d : Nat) (free : List Int) (acts : List (Int × Int)) (hf : CameI w A c free) (ha : CameA w B d acts) (h1 : ¬ (60 : Int) < acts.length) (h2 : ¬ (60 : Int) < free.length) (h3 : ¬ 60 < x0 ∨ ¬ x0 ≤ 4096) (hO : spNewL x0 x1 free = none) :
    Calls Try.prog 4 #[.agg #[.int .i64 x0, .int .i64 x1], .slice A free.length c, .slice B acts.length d] w fun e w' => e = .returned (.bool true) ∧ Keeps w w' [] := by
  by_cases h4 : 60 < x0
  · have h5 : ¬ x0 ≤ 4096 := by omega
    clear h3
    have HF := Lib.hid hf
    have HA := Lib.hid ha
    have HL := Lib.hid (And.intro h1 h2)
    clear hf ha
    go_enter Try.func4, Try.ntmps4
    go_wp2_with fail
    obtain ⟨W0, hW0⟩ : ∃ W0, w.alloc (.cells #[.int .i64 x0, .int .i64 x1] 22) = W0 := ⟨_, rfl⟩
    have r0 := Row.new w 22 #[.int .i64 x0, .int .i64 x1]
    have k0 := Keeps.alloc w (.cells #[.int .i64 x0, .int .i64 x1] 22)
    rw [hW0] at r0 k0 ⊢
    have H0 := Lib.hid (And.intro r0 k0)
    clear r0 k0 hW0 h1 h2
    refine (spMake_any W0 x0 x1 A c free (HF.out.lies.keep H0.out.2 (Nat.le_refl _) (by simp) |>.mono H0.out.2.size) (by have := HL.out.2; omega)).mono ?_
    rw [hO]
    rintro e w1 ⟨rfl, hk⟩
    have q0 := H0.out.1.keeps hk
    have c0 := q0.cell 0
    have c1 := q0.cell 1
    simp only [List.getElem?_toArray, List.getElem?_cons_zero, List.getElem?_cons_succ] at c0 c1
    have H1 := Lib.hid (H0.out.2.then_ hk)
    clear q0 hk
    go_wp2_with fail
    refine (refNew_any w1 x0 x1 A c free (HF.out.lies.keep H1.out (Nat.le_refl _) (by simp) |>.mono H1.out.size) (by have := HL.out.2; omega)).mono ?_
    rw [hO]
    rintro e w2 ⟨hk, rfl⟩
    have H2 := Lib.hid (H1.out.then_ hk)
    clear hk
    go_wp2_with fail
    refine (known7_go (H2.out.then_ (Keeps.alloc _ _))).mono ?_
    rintro e w' ⟨rfl, hk⟩
    have HK := Lib.hid hk
    clear hk
    go_wp2_with fail
    go_ret
    exact ⟨rfl, HK.out⟩
  · clear h3
    have HF := Lib.hid hf
    have HA := Lib.hid ha
    have HL := Lib.hid (And.intro h1 h2)
    clear hf ha
    go_enter Try.func4, Try.ntmps4
    go_wp2_with fail
    obtain ⟨W0, hW0⟩ : ∃ W0, w.alloc (.cells #[.int .i64 x0, .int .i64 x1] 22) = W0 := ⟨_, rfl⟩
    have r0 := Row.new w 22 #[.int .i64 x0, .int .i64 x1]
    have k0 := Keeps.alloc w (.cells #[.int .i64 x0, .int .i64 x1] 22)
    rw [hW0] at r0 k0 ⊢
    have H0 := Lib.hid (And.intro r0 k0)
    clear r0 k0 hW0 h1 h2
    refine (spMake_any W0 x0 x1 A c free (HF.out.lies.keep H0.out.2 (Nat.le_refl _) (by simp) |>.mono H0.out.2.size) (by have := HL.out.2; omega)).mono ?_
    rw [hO]
    rintro e w1 ⟨rfl, hk⟩
    have q0 := H0.out.1.keeps hk
    have c0 := q0.cell 0
    have c1 := q0.cell 1
    simp only [List.getElem?_toArray, List.getElem?_cons_zero, List.getElem?_cons_succ] at c0 c1
    have H1 := Lib.hid (H0.out.2.then_ hk)
    clear q0 hk
    go_wp2_with fail
    refine (refNew_any w1 x0 x1 A c free (HF.out.lies.keep H1.out (Nat.le_refl _) (by simp) |>.mono H1.out.size) (by have := HL.out.2; omega)).mono ?_
    rw [hO]
    rintro e w2 ⟨hk, rfl⟩
    have H2 := Lib.hid (H1.out.then_ hk)
    clear hk
    go_wp2_with fail
    refine (known7_go (H2.out.then_ (Keeps.alloc _ _))).mono ?_
    rintro e w' ⟨rfl, hk⟩
    have HK := Lib.hid hk
    clear hk
    go_wp2_with fail
    go_ret
    exact ⟨rfl, HK.out⟩
set_option maxRecDepth 100000 in
set_option maxHeartbeats 4000000 in
theorem spacePlay_some (w : World) (x0 x1 : Int) (A B : Option Addr) (c d : Nat) (free : List Int) (acts : List (Int × Int)) (hf : CameI w A c free) (ha : CameA w B d acts) (h1 : ¬ (60 : Int) < acts.length) (h2 : ¬ (60 : Int) < free.length) (h3 : ¬ 60 < x0) (L0 : List Nat) (hO : spNewL x0 x1 free = some L0) :
    Calls Try.prog 4 #[.agg #[.int .i64 x0, .int .i64 x1], .slice A free.length c, .slice B acts.length d] w fun e w' => e = .returned (.bool true) ∧ Keeps w w' [] := by
  have HF := Lib.hid hf
  have HA := Lib.hid ha
  have HL := Lib.hid (And.intro h1 h2)
  clear hf ha
  go_enter Try.func4, Try.ntmps4
  go_wp2_with fail
  obtain ⟨W0, hW0⟩ : ∃ W0, w.alloc (.cells #[.int .i64 x0, .int .i64 x1] 22) = W0 := ⟨_, rfl⟩
  have r0 := Row.new w 22 #[.int .i64 x0, .int .i64 x1]
  have k0 := Keeps.alloc w (.cells #[.int .i64 x0, .int .i64 x1] 22)
  rw [hW0] at r0 k0 ⊢
  have H0 := Lib.hid (And.intro r0 k0)
  clear r0 k0 hW0 h1 h2
  refine (spMake_any W0 x0 x1 A c free (HF.out.lies.keep H0.out.2 (Nat.le_refl _) (by simp) |>.mono H0.out.2.size) (by have := HL.out.2; omega)).mono ?_
  rw [hO]
  rintro e w1 ⟨s, n1, n2, rfl, hN⟩
  have hk := hN.h
  have HS := Lib.hid (SpIn.new hN)
  have q0 := H0.out.1.keeps hk
  have c0 := q0.cell 0
  have c1 := q0.cell 1
  simp only [List.getElem?_toArray, List.getElem?_cons_zero, List.getElem?_cons_succ] at c0 c1
  have H1 := Lib.hid (H0.out.2.then_ hk)
  clear q0 hk
  go_wp2_with fail
  refine (refNew_any w1 x0 x1 A c free (HF.out.lies.keep H1.out (Nat.le_refl _) (by simp) |>.mono H1.out.size) (by have := HL.out.2; omega)).mono ?_
  rw [hO]
  rintro e w2 ⟨hk, g, rfl, hg⟩
  have HC := Lib.hid (new_codes hO)
  obtain ⟨m, rfl⟩ : ∃ m : Nat, x0 = m := ⟨x0.toNat, by have := HC.out.2; omega⟩
  have HS2 := Lib.hid (HS.out.keeps hk)
  obtain ⟨Ag, cg, Bg, dg, rfl, hAg, hBg⟩ := hg.e
  have HG := Lib.hid hg
  have H2 := Lib.hid (H1.out.then_ hk)
  clear hk hAg hBg hg hN
  go_wp2_with fail
  obtain ⟨W3, hW3⟩ : ∃ W', w2.alloc (.cells #[.int .i64 (m : Int), .slice Ag L0.length cg, .slice Bg L0.length dg] 39) = W' := ⟨_, rfl⟩
  have k3 : Keeps w2 W3 [] := by rw [← hW3]; exact Keeps.alloc _ _
  have r3 : Row W3 w2.heap.size 39 #[.int .i64 (m : Int), .slice Ag L0.length cg, .slice Bg L0.length dg] := by rw [← hW3]; exact Row.new _ _ _
  rw [hW3]
  have HP := Lib.hid (show PlayAt W0 W3 s w2.heap.size m L0 L0 (.slice Ag L0.length cg) (.slice Bg L0.length dg) from ⟨HS2.out.keeps k3, r3, HG.out.keeps k3, HS2.out.h.size, HS2.out.lt⟩)
  clear k3 r3 hW3
  go_loopw [11] (fun i wr => ∃ (k : Nat) (L M : List Nat) (v1 v2 : Value), k ≤ acts.length ∧ i = .int .i64 k ∧ Hid (PlayAt W0 wr s w2.heap.size m L M v1 v2)) (fun i _ => acts.length - (intOf i).toNat)
  case atStart => exact ⟨0, L0, L0, _, _, by omega, rfl, HP⟩
  case round =>
    clear HP
    obtain ⟨k, L, M, v1, v2, hk, rfl, HR⟩ := hrel
    have hkm : (acts.length : Int) ≤ 60 := by have := HL.out.1; omega
    by_cases hkl : k < acts.length
    · obtain ⟨b, o, rfl, hb, hcell⟩ := HA.out.lies (by omega)
      have hc := hcell k hkl
      have hr := HA.out.r _ (List.getElem_mem hkl)
      obtain ⟨x, y, hxy⟩ : ∃ x y, acts[k] = (x, y) := ⟨_, _, rfl⟩
      rw [hxy] at hc hr
      have HY := Lib.hid hr
      have HZ := Lib.hid (show (L.getD 0 0 = 0 ∧ L.getD 1 0 = 0) ∧ L.length ≤ 100000 from ⟨⟨HR.out.sp.ok.1.z0, HR.out.sp.ok.1.z1⟩, by have := HR.out.sp.ok.1.le; omega⟩)
      have hne : w2.heap.size ≠ s := by have := HR.out.f.2; omega
      have rr := HR.out.row
      have HS9 := Lib.hid HR.out.sp.lt
      have HY0 := Lib.hid HR.out.sp.y
      obtain ⟨⟨L1, M1⟩, hLM⟩ : ∃ LM, spAct x y m L M = LM := ⟨_, rfl⟩
      have HLM := Lib.hid hLM
      obtain ⟨G, hG⟩ : ∃ G : Array Value → World → Prop, G = fun cs w => RefAt w (.agg cs) m L1 M1 := ⟨_, rfl⟩
      have HG1 := Lib.hid hG
      have HGL := Lib.hid (show Lasting (SpY W0 s) (fun (i : List Nat × List Nat) w => SpIn W0 w s m i.1 i.2) G by subst hG; exact ⟨fun h k => ⟨h.1.then_ k, h.2.imp fun ss r => r.keeps k⟩, fun h k => SpIn.keeps h k, fun h k => RefAt.keeps h k⟩)
      have GFresh := Lib.hid (show ∀ (w w' : World) (cs : Array Value), FreshR (SpY W0 s) wr (fun c => c = s) 39 3 G w w' → SpY W0 s w → G cs w → G cs w' from fun w w' cs hf hy hg => by have e := HG1.out; subst e; exact RefAt.fresh hg hf hy)
      have MB0 := fun (W' : World) (hW : FreshR (SpY W0 s) wr (fun c => c = s) 39 3 G wr W') => (hW.row hne (.inr rr.lt) rr).cell 0
      have MB1 := fun (W' : World) (hW : FreshR (SpY W0 s) wr (fun c => c = s) 39 3 G wr W') => (hW.row hne (.inr rr.lt) rr).cell 1
      have MB2 := fun (W' : World) (hW : FreshR (SpY W0 s) wr (fun c => c = s) 39 3 G wr W') => (hW.row hne (.inr rr.lt) rr).cell 2
      have MC0 := fun (W' : World) (hW : FreshR (SpY W0 s) wr (fun c => c = s) 39 3 G wr W') => ((H0.out.2.then_ (hW.k HY0.out).1).cell (p := ⟨b, o + k * 2, none⟩) hb (by simp)).trans hc.1
      have MC1 := fun (W' : World) (hW : FreshR (SpY W0 s) wr (fun c => c = s) 39 3 G wr W') => ((H0.out.2.then_ (hW.k HY0.out).1).cell (p := ⟨b, o + k * 2 + 1, none⟩) hb (by simp)).trans hc.2
      simp only [List.getElem?_toArray, List.getElem?_cons_zero, List.getElem?_cons_succ] at MB0 MB1 MB2
      have HB := Lib.hid (And.intro hne rr)
      clear rr hc hr hb hcell hxy hne hLM hG
      go_wp2_with fail
      refine wp_region_box HGL.out (fun c => c = s) 39 3 75 _ 12 (by kernel_rfl) rfl (by kernel_rfl) ?_
      simp only [List.take_succ_cons, List.take_zero, List.drop_succ_cons, List.drop_zero]
      apply looses_is _ rfl
      · intro W vals hW hkn
        clear hkn
        refine ⟨?_⟩
        simp only [fill]
        go_simp
        exact ⟨FreshR1.refl HGL.out, rfl⟩
      simp only [addEnt]
      apply looses_is _ rfl
      · intro W vals hW hkn
        clear hkn
        refine ⟨?_⟩
        simp only [fill]
        go_simp
        exact ⟨FreshR1.refl HGL.out, rfl⟩
      simp only [addEnt]
      apply looses_is _ rfl
      · intro W vals hW hkn
        clear hkn
        refine ⟨?_⟩
        simp only [fill]
        go_simp
        exact ⟨FreshR1.refl HGL.out, rfl⟩
      simp only [addEnt]
      apply looses_is _ rfl
      · intro W vals hW hkn
        clear hkn
        refine ⟨?_⟩
        simp only [fill]
        go_simp
        exact ⟨FreshR1.refl HGL.out, rfl⟩
      simp only [addEnt]
      apply looses_is _ rfl
      · intro W vals hW hkn
        clear hkn
        refine ⟨?_⟩
        simp only [fill]
        go_simp
        exact ⟨FreshR1.refl HGL.out, rfl⟩
      simp only [addEnt]
      apply looses_is _ rfl
      · intro W vals hW hkn
        clear hkn
        refine ⟨?_⟩
        simp only [fill]
        go_simp
        exact ⟨FreshR1.refl HGL.out, rfl⟩
      simp only [addEnt]
      refine looses_at (fun v W' => ∃ a0 a1 a2, v = .tuple #[.agg #[a0, a1, a2], .bool true] ∧ G #[a0, a1, a2] W' ∧ SpIn W0 W' s m L1 M1) rfl (fun W' vals hW hkn φ' hφ => ?_) ?_
      · simp only [knowsS] at hkn
        try simp only [and_true] at hkn
        clear hkn
        refine ⟨?_⟩
        simp only [fill]
        go_simp
        ((with_reducible refine looseUponG_has HGL.out hφ ?_); refine (does_any (SpSense.one W0 s m) W' L M (hW.p (L, M) HR.out.sp) _ m L M (RefAt.fresh HR.out.ref hW.r HY0.out) HZ.out.1 HZ.out.2 x y HY.out).mono ?_; rintro e w5 ⟨g', b, rfl, h1, h2, h3, h4⟩; rw [HLM.out] at h1 h2; obtain ⟨A5, c5, B5, d5, rfl, hA5, hB5⟩ := h1.e; exact ⟨_, rfl, freshR_of_rows HG1.out (hW.r.k HY0.out) h2.y h3, _, _, _, by rw [h4 rfl rfl], by rw [HG1.out]; exact h1, h2⟩)
      simp only [addEnt]
      refine looses_has (fun v W' => ∃ a0 a1 a2, v = .tuple #[.agg #[a0, a1, a2], .bool true] ∧ G #[a0, a1, a2] W') rfl (fun W' vals hW hkn φ' hφ => ?_) ?_
      · simp only [knowsS] at hkn
        try simp only [and_true] at hkn
        obtain ⟨W1, h0, h1, a0, a1, a2, hv, hg, _⟩ := hkn (by decide); clear hkn; have hgW := GFresh.out _ _ _ (relS_to (fun h => FreshR1.r h) h1) (h0.k HY0.out) hg
        refine ⟨?_⟩
        simp only [fill]
        go_simp
        exact ⟨FreshR1.refl HGL.out, hφ.out _ _ ⟨_, _, _, rfl, hgW⟩⟩
      simp only [addEnt]
      refine looses_has (fun v W' => ∃ a0 a1 a2, v = .agg #[a0, a1, a2] ∧ G #[a0, a1, a2] W') rfl (fun W' vals hW hkn φ' hφ => ?_) ?_
      · simp only [knowsS] at hkn
        try simp only [and_true] at hkn
        obtain ⟨W1, h0, h1, a0, a1, a2, hv, hg⟩ := hkn.1 (by decide); clear hkn; have hgW := GFresh.out _ _ _ (relS_to (fun h => FreshR1.r h) h1) (h0.k HY0.out) hg
        refine ⟨?_⟩
        simp only [fill]
        go_simp
        exact ⟨FreshR1.refl HGL.out, hφ.out _ _ ⟨_, _, _, rfl, hgW⟩⟩
      simp only [addEnt]
      apply looses_is _ rfl
      · intro W vals hW hkn
        simp only [knowsS] at hkn
        try simp only [and_true] at hkn
        obtain ⟨W1, h0, h1, a0, a1, a2, hv, hg⟩ := hkn.2.1 (by decide)
        refine ⟨?_⟩
        simp only [fill]
        go_simp
        exact ⟨FreshR1.refl HGL.out, rfl⟩
      simp only [addEnt]
      refine looses_has (fun v W' => ∃ b, v = .pointer (some ⟨b, 0, none⟩) ∧ wr.heap.size ≤ b ∧ b ≠ s ∧ ∃ cs : Array Value, cs.size = 3 ∧ Row W' b 39 cs) rfl (fun W' vals hW hkn φ' hφ => ?_) ?_
      · simp only [knowsS] at hkn
        try simp only [and_true] at hkn
        clear hkn
        refine ⟨?_⟩
        simp only [fill]
        go_simp
        exact ⟨.of_keeps HGL.out (Keeps.alloc _ _), hφ.out _ _ ⟨_, rfl, hW.size, by have := hW.size; have := HS9.out; omega, _, rfl, Row.new _ _ _⟩⟩
      simp only [addEnt]
      refine looses_had [12] (fun rd _ W' => ∃ b, rd = [.pointer (some ⟨b, 0, none⟩)] ∧ wr.heap.size ≤ b ∧ b ≠ s ∧ ∃ cs : Array Value, Row W' b 39 cs ∧ G cs W') rfl (by kernel_rfl) (fun W' vals hW hkn φ' hφ => ?_) ?_
      · simp only [knowsS] at hkn
        try simp only [and_true] at hkn
        obtain ⟨W1, h0, h1, b9, hv, hb1, hb2, cs, hs, hr⟩ := hkn.1 (by decide); obtain ⟨W2, k0, k1, a0, a1, a2, hv2, hg⟩ := hkn.2.1 (by decide); clear hkn; obtain ⟨cs', hs', hr'⟩ := (relS_to (fun h => FreshR1.r h) h1).box hb2 ⟨cs, hs, hr⟩; obtain ⟨u0, u1, u2, rfl⟩ := cs_three hs'; have HR9 := Lib.hid hr'; have HGW := Lib.hid (GFresh.out _ _ _ (relS_to (fun h => FreshR1.r h) k1) (k0.k HY0.out) hg); obtain ⟨A5, n5, c5, B5, l5, d5, rfl, rfl, rfl⟩ := refbox_form HG1.out HGW.out; have HW9 := Lib.hid (And.intro (hW.k HY0.out) (And.intro hb1 (And.intro (Nat.le_trans HY0.out.1.size hb1) hb2))); have f0 := hr'.cell 0; have f1 := hr'.cell 1; have f2 := hr'.cell 2; have f3 := hr'.frozen 0; have f4 := hr'.frozen 1; have f5 := hr'.frozen 2; simp only [List.getElem?_toArray, List.getElem?_cons_zero, List.getElem?_cons_succ] at f0 f1 f2; clear h0 h1 hb1 hs hr k0 k1 hg hs' hr'
        refine ⟨?_⟩
        simp only [fill]
        go_simp
        exact refbox_put HG1.out HW9.out HGW.out hφ HR9.out (by simp [hv])
      simp only [addEnt]
      refine looses_nil (fun W9 vals hW hkn => ?_)
      simp only [knowsAllS] at hkn
      try simp only [and_true] at hkn
      simp only [fill, Act.put, List.setIfInBounds_toArray, List.set_cons_succ, List.set_cons_zero]
      obtain ⟨⟨_, Wa, -, k2, b9, hv9, hb9, hs9, cs9, hr8, hg8⟩, -, -, -, Wc, -, c2, _, _, _, -, -, hsc⟩ := hkn
      have c2 : FreshR1 (fun (i : List Nat × List Nat) w => SpIn W0 w s m i.1 i.2) (SpY W0 s) wr (fun c => c = s) 39 3 G Wc W9 := by simpa [relS] using c2
      have k2 : FreshR (SpY W0 s) wr (fun c => c = s) 39 3 G Wa W9 := by simpa [relS] using k2
      have hv9 : vals 12 = .pointer (some ⟨b9, 0, none⟩) := by simpa using hv9
      obtain ⟨cs, hr9, hg9⟩ := k2.good hs9 ⟨cs9, hr8, hg8⟩
      replace hg9 : RefAt W9 (.agg cs) m L1 M1 := by have e := HG1.out; subst e; exact hg9
      obtain ⟨A9, c9, B9, d9, e9, hA9, hB9⟩ := hg9.e
      injection e9 with e9
      subst e9
      have HQ := Lib.hid (And.intro (c2.p (L1, M1) hsc) (And.intro (hW.row HB.out.1 (.inr HB.out.2.lt) HB.out.2) (And.intro hr9 hg9)))
      have hnb : b9 ≠ w2.heap.size := by have := HB.out.2.lt; omega
      have HNB := Lib.hid (And.intro hnb HS9.out)
      clear hA9 hB9 hr9 hg9 hr8 hg8 hsc c2 k2 hb9 hs9 cs9 hW MB0 MB1 MB2 MC0 MC1
      rw [hv9]
      have q9 := HQ.out.2.2.1
      have p0 := q9.cell 0
      have p1 := q9.cell 1
      have p2 := q9.cell 2
      simp only [List.getElem?_toArray, List.getElem?_cons_zero, List.getElem?_cons_succ] at p0 p1 p2
      clear q9
      go_wp2_with fail
      refine (same_any HQ.out.1 _ m M1 HQ.out.2.2.2).mono ?_
      rintro e w6 ⟨rfl, hk6⟩
      have q9 := HQ.out.2.2.1.keeps hk6
      have q3 := HQ.out.2.1.keeps hk6
      have p0 := q9.cell 0
      have p1 := q9.cell 1
      have p2 := q9.cell 2
      simp only [List.getElem?_toArray, List.getElem?_cons_zero, List.getElem?_cons_succ] at p0 p1 p2
      have r0 := q3.cell 0
      have r1 := q3.cell 1
      have r2 := q3.cell 2
      simp only [List.getElem?_toArray, List.getElem?_cons_zero, List.getElem?_cons_succ] at r0 r1 r2
      have z0 := q3.frozen 0
      have z1 := q3.frozen 1
      have z2 := q3.frozen 2
      have HQ6 := Lib.hid (And.intro (HQ.out.1.keeps hk6) (And.intro q3 (HQ.out.2.2.2.keeps hk6)))
      clear q9 q3 hk6 HQ
      go_wp2_with fail
      obtain ⟨p1', p2'⟩ := ref_put HQ6.out.2.1 (.int .i64 (m : Int)) (.slice A9 L1.length c9) (.slice B9 M1.length d9)
      exact ⟨⟨k + 1, L1, M1, _, _, by omega, by go_num, Lib.hid ⟨SpIn.box HQ6.out.1 HR.out.f.1 HQ6.out.2.1 p2', p1', RefAt.box HQ6.out.2.2 p2' (fun y hy => by obtain rfl := List.mem_singleton.1 hy; exact ⟨_, HQ6.out.2.1⟩), HR.out.f⟩⟩, by simp [intOf]; omega⟩
    · obtain rfl : k = acts.length := by omega
      have rr := HR.out.row
      have b0 := rr.cell 0
      have b1 := rr.cell 1
      have b2 := rr.cell 2
      simp only [List.getElem?_toArray, List.getElem?_cons_zero, List.getElem?_cons_succ] at b0 b1 b2
      clear rr
      go_wp2_with fail
      refine (same_any HR.out.sp _ m M HR.out.ref).mono ?_
      rintro e w4 ⟨rfl, hk⟩
      have H4 := Lib.hid (HR.out.sp.h.then_ hk)
      clear hk
      go_wp2_with fail
      refine (known7_go (H0.out.2.then_ H4.out)).mono ?_
      rintro e w' ⟨rfl, hk⟩
      have HK := Lib.hid hk
      clear hk
      go_wp2_with fail
      go_ret
      exact ⟨rfl, HK.out⟩
set_option maxRecDepth 100000 in
theorem spacePlay_any (w : World) (x0 x1 : Int) (A B : Option Addr) (c d : Nat) (free : List Int) (acts : List (Int × Int)) (hf : CameI w A c free) (ha : CameA w B d acts) :
    Calls Try.prog 4 #[.agg #[.int .i64 x0, .int .i64 x1], .slice A free.length c, .slice B acts.length d] w fun e w' => e = .returned (.bool true) ∧ Keeps w w' [] := by
  by_cases h : (60 : Int) < acts.length ∨ (60 : Int) < free.length ∨ (60 < x0 ∧ x0 ≤ 4096)
  · exact spacePlay_far w x0 x1 A B c d _ _ h
  · cases hO : spNewL x0 x1 free with
    | none => exact spacePlay_none w x0 x1 A B c d free acts hf ha (by omega) (by omega) (by omega) hO
    | some L0 =>
      have := (new_codes hO).2.2.2.2.1
      exact spacePlay_some w x0 x1 A B c d free acts hf ha (by omega) (by omega) (by omega) L0 hO
end Go.Proofs.Ytanbdkfkkochgaa
