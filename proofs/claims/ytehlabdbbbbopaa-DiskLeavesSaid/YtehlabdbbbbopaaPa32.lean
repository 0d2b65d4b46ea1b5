/- The reference of layer 2: Write. The reference of layer 2: Flush. The reference of layer 2: Page, New. -/
import Derived.Test.YtehlabdbbbbopaaPa31
import Derived.Test.YtehlabdbbbbopaaPa27

namespace Go.Proofs.Ytehlabdbbbbopaa
open Go.RowKit Go.Maps Go.Shelf

def Rk.write (R : Rk) (page : Int) (b : List UInt8) : Nat × Rk :=
  if b.length ≠ 256 then (2, R) else if page < 0 ∨ (R.lasts.length : Int) ≤ page then (4, R) else if R.code ≠ 0 then (R.code, R.stepped) else (0, { R.stepped with waits := R.stepped.waits ++ [(page, b)] })
theorem Rk.stepped_same (R : Rk) : R.stepped.lasts = R.lasts ∧ R.stepped.waits = R.waits := by
  unfold Rk.stepped
  split
  · exact ⟨rfl, rfl⟩
  · split <;> exact ⟨rfl, rfl⟩
theorem rk_put {W : World} {b : Nat} {y0 y1 y2 y3 y4 y5 : Value} (hr : Row W b 43 #[y0, y1, y2, y3, y4, y5]) (x0 x1 x2 x3 x4 x5 : Value) :
    Row ((((((W.setCell ⟨b, 0, none⟩ x0).setCell ⟨b, 1, none⟩ x1).setCell ⟨b, 2, none⟩ x2).setCell ⟨b, 3, none⟩ x3).setCell ⟨b, 4, none⟩ x4).setCell ⟨b, 5, none⟩ x5) b 43 #[x0, x1, x2, x3, x4, x5] ∧
    Keeps W ((((((W.setCell ⟨b, 0, none⟩ x0).setCell ⟨b, 1, none⟩ x1).setCell ⟨b, 2, none⟩ x2).setCell ⟨b, 3, none⟩ x3).setCell ⟨b, 4, none⟩ x4).setCell ⟨b, 5, none⟩ x5) [b] := by
  refine ⟨?_, ((((((Keeps.refl W [b]).put 0 x0).put 1 x1).put 2 x2).put 3 x3).put 4 x4).put 5 x5⟩
  have h := (((((hr.store 0 x0).store 1 x1).store 2 x2).store 3 x3).store 4 x4).store 5 x5
  simpa using h
/-- What was there stays, but for a block. -/
def OldBut (w0 : World) (b : Nat) (w w' : World) : Prop := Keeps w0 w [b] → Keeps w0 w' [b]
theorem OldBut.ok (w0 : World) (b : Nat) : RelOk (OldBut w0 b) := ⟨fun h k => k.trans h (by simp), fun h k x => k (h x)⟩
theorem OldBut.out {w0 w : World} {b : Nat} (h : OldBut w0 b w0 w) : Keeps w0 w [b] := h (Keeps.refl _ _)
/-- A block stays as it is. -/
def SameB (b : Nat) (w w' : World) : Prop := b < w.heap.size → b < w'.heap.size ∧ w'.heap[b]? = w.heap[b]?
theorem SameB.ok (b : Nat) : RelOk (SameB b) := ⟨fun h hb => ⟨Nat.lt_of_lt_of_le hb h.size, h.block b hb (by simp)⟩, fun h k hb => by
  obtain ⟨h1, h2⟩ := h hb
  obtain ⟨h3, h4⟩ := k h1
  exact ⟨h3, h4.trans h2⟩⟩
theorem SameB.row {b : Nat} {w w' : World} {t : TypeId} {cs : Array Value} (h : SameB b w w') (hr : Row w b t cs) : Row w' b t cs := ((h hr.lt).2).trans hr
theorem SameB.of_keeps {b : Nat} {w w' : World} {S : List Nat} (h : Keeps w w' S) (hS : b ∉ S) : SameB b w w' := fun hb => ⟨Nat.lt_of_lt_of_le hb h.size, h.block b hb hS⟩
set_option maxRecDepth 100000 in
set_option maxHeartbeats 1000000 in
theorem refWrite_any (w : World) (g : Value) (R : Rk) (h : RkAt w g R) (page : Int) (A0 : Option Addr) (n0 c0 : Nat) (bs : List UInt8) (hn : bs.length = n0) (hL : Lies w w.heap.size A0 (bs.map byteV)) (hw : R.waits.length ≤ 100000) :
    Calls Try.prog 34 #[g, .int .i64 page, .slice A0 n0 c0] w fun e w' => ∃ g', e = .returned (.tuple #[g', .int .i64 ((R.write page bs).1 : Nat)]) ∧ RkAt w' g' (R.write page bs).2 ∧ Keeps w w' [] := by
  have HH := Lib.hid (And.intro h (And.intro hL (And.intro hw hn)))
  obtain ⟨A, c, B, d, rfl, hA, hB⟩ := h.e
  clear hA hB h hL hw
  by_cases h256 : (n0 : Int) = 256
  · obtain rfl : n0 = 256 := by omega
    clear h256
    by_cases hp0 : page < 0
    · have HC := Lib.hid (show R.write page bs = (4, R) by unfold Rk.write; rw [if_neg (by omega), if_pos (.inl hp0)])
      clear hn
      go_enter Try.func34, Try.ntmps34
      go_wp2_with fail
      have kk := (Keeps.alloc w (.cells (rkRow R A c B d) 43)).then_alloc (.cells (rkRow R A c B d) 43)
      have rr := Row.new (w.alloc (.cells (rkRow R A c B d) 43)) 43 (rkRow R A c B d)
      rw [World.size_alloc] at rr
      refine write_door _ _ _ _ _ _ _ _ _ _ rfl rfl rr _ ⟨_, by rw [HC.out]; rfl, ?_, kk⟩
      rw [HC.out]
      exact HH.out.1.keeps kk
    · by_cases hp1 : (R.lasts.length : Int) ≤ page
      · have HC := Lib.hid (show R.write page bs = (4, R) by unfold Rk.write; rw [if_neg (by omega), if_pos (.inr hp1)])
        clear hn
        go_enter Try.func34, Try.ntmps34
        go_wp2_with fail
        have kk := (Keeps.alloc w (.cells (rkRow R A c B d) 43)).then_alloc (.cells (rkRow R A c B d) 43)
        have rr := Row.new (w.alloc (.cells (rkRow R A c B d) 43)) 43 (rkRow R A c B d)
        rw [World.size_alloc] at rr
        refine write_door _ _ _ _ _ _ _ _ _ _ rfl rfl rr _ ⟨_, by rw [HC.out]; rfl, ?_, kk⟩
        rw [HC.out]
        exact HH.out.1.keeps kk
      · have HR := Lib.hid (show R.write page bs = if R.code ≠ 0 then (R.code, R.stepped) else (0, { R.stepped with waits := R.stepped.waits ++ [(page, bs)] }) by unfold Rk.write; rw [if_neg (by omega), if_neg (by omega)])
        clear hn
        by_cases hc : R.code = 0
        · have hc1 : ((R.code : Int) == 0) = true := by simpa using hc
          go_enter Try.func34, Try.ntmps34
          go_wp2_with fail
          obtain ⟨W0, hW0⟩ : ∃ W0, (w.alloc (.cells (rkRow R A c B d) 43)).alloc (.cells rkZero 43) = W0 := ⟨_, rfl⟩
          have k0 : Keeps w W0 [] := by rw [← hW0]; exact (Keeps.alloc _ _).then_alloc _
          have r0 : Row W0 w.heap.size 43 (rkRow R A c B d) := by rw [← hW0]; exact (Row.new _ _ _).alloc _
          have r1 : Row W0 (w.heap.size + 1) 43 rkZero := by
            rw [← hW0]
            have := Row.new (w.alloc (.cells (rkRow R A c B d) 43)) 43 rkZero
            rwa [World.size_alloc] at this
          rw [show (w.alloc (.cells #[.slice A R.lasts.length c, .slice B R.waits.length d, .int .i64 R.kind, .int .i64 R.left, .bool R.dead, .int .i64 R.steps] 43)).alloc (.cells #[.slice none 0 0, .slice none 0 0, .int .i64 0, .int .i64 0, .bool false, .int .i64 0] 43) = W0 from hW0]
          have H0 := Lib.hid (And.intro k0 (And.intro r0 r1))
          clear k0 r0 r1 hW0
          refine (refStep_any W0 _ R (HH.out.1.keeps H0.out.1)).mono ?_
          rintro e w1 ⟨g', rfl, hg', hk'⟩
          obtain ⟨A1, c1, B1, d1, rfl, hA1, hB1⟩ := hg'.e
          have q0 := H0.out.2.1.keeps hk'
          have y0 := q0.cell 0
          have y1 := q0.cell 1
          have y2 := q0.cell 2
          have y3 := q0.cell 3
          have y4 := q0.cell 4
          have y5 := q0.cell 5
          simp only [List.getElem?_toArray, List.getElem?_cons_zero, List.getElem?_cons_succ] at y0 y1 y2 y3 y4 y5
          have z0 := q0.frozen 0
          have z1 := q0.frozen 1
          have z2 := q0.frozen 2
          have z3 := q0.frozen 3
          have z4 := q0.frozen 4
          have z5 := q0.frozen 5
          have H1 := Lib.hid (And.intro (H0.out.1.then_ hk') (And.intro q0 (And.intro (H0.out.2.2.keeps hk') (And.intro hg' (And.intro hA1 hB1)))))
          clear q0 hk' hg' hA1 hB1
          go_upto_region 6 with fail
          obtain ⟨W2, hW2⟩ : ∃ W2, (((((w1.setCell ⟨w.heap.size, 0, none⟩ (.slice A1 R.stepped.lasts.length c1)).setCell ⟨w.heap.size, 1, none⟩ (.slice B1 R.stepped.waits.length d1)).setCell ⟨w.heap.size, 2, none⟩ (.int .i64 R.stepped.kind)).setCell ⟨w.heap.size, 3, none⟩ (.int .i64 R.stepped.left)).setCell ⟨w.heap.size, 4, none⟩ (.bool R.stepped.dead)).setCell ⟨w.heap.size, 5, none⟩ (.int .i64 R.stepped.steps) = W2 := ⟨_, rfl⟩
          obtain ⟨q2, k2⟩ := rk_put H1.out.2.1 (.slice A1 R.stepped.lasts.length c1) (.slice B1 R.stepped.waits.length d1) (.int .i64 R.stepped.kind) (.int .i64 R.stepped.left) (.bool R.stepped.dead) (.int .i64 R.stepped.steps)
          rw [hW2] at q2 k2 ⊢
          have s2 := H1.out.1.size
          have n2 := H1.out.2.2.1.lt
          have H2 := Lib.hid (And.intro q2 (And.intro (H1.out.2.2.1.keep k2 (by simp)) (And.intro (H1.out.2.2.2.1.keep k2 (fun x hx => by obtain rfl := List.mem_singleton.1 hx; exact ⟨_, _, H1.out.2.1, by decide, by decide⟩)) (And.intro (H1.out.1.trans k2 (fun y hy hlt => by simp at hy; omega)) (And.intro (H1.out.2.2.2.2.1.box k2 H1.out.2.1 (by decide)) (H1.out.2.2.2.2.2.box k2 H1.out.2.1 (by decide)))))))
          clear q2 k2 hW2 s2
          go_wp2_with fail
          have M1 := fun (W' : World) (hW : Keeps W2 W' []) => (H2.out.1.keeps hW).cell 1
          simp only [List.getElem?_toArray, List.getElem?_cons_zero, List.getElem?_cons_succ] at M1
          have HCV := Lib.hid (show ∀ W : World, Keeps W2 W [] → (convert 32 9 (.slice A0 256 c0)).run Try.prog W = .ok (.string ⟨bs.toArray⟩) W from fun W hk => by
            have := conv_str W _ A0 c0 bs (HH.out.2.1.keep (H2.out.2.2.2.1.then_ hk) (Nat.le_refl _) (by simp))
            rwa [HH.out.2.2.2] at this)
          have HSW := Lib.hid (show R.stepped.waits.length ≤ 100000 by rw [R.stepped_same.2]; exact HH.out.2.2.1)
          refine wp_region_tail KeepsAll _ 8 (by kernel_rfl) rfl (by kernel_rfl) (fun _ => Keeps.refl _ _) (fun _ _ _ h k => h.trans k (by simp)) (Keeps.drew _) ?_
          simp only [List.take_succ_cons, List.take_zero, List.drop_succ_cons, List.drop_zero]
          apply loose_is
          · intro W vals hW hkn
            clear hkn
            refine ⟨?_⟩
            simp only [fill]
            go_simp
            first | exact ⟨Keeps.refl _ _, rfl⟩ | exact ⟨Keeps.alloc _ _, rfl⟩
          simp only [addEnt]
          apply loose_is
          · intro W vals hW hkn
            clear hkn
            refine ⟨?_⟩
            simp only [fill]
            go_simp
            first | exact ⟨Keeps.refl _ _, rfl⟩ | exact ⟨Keeps.alloc _ _, rfl⟩
          simp only [addEnt]
          refine loose_has (fun v W' => ∃ A' c', v = .slice A' R.stepped.waits.length c' ∧ OwnN W' W2.heap.size 60 2 waitV v R.stepped.waits) (fun W vals hW hkn φ' hφ => ?_) ?_
          · clear hkn
            simp only [fill]
            exact opOk_append_N elemWait encWait rfl (Operand.const (.slice none 0 0)) (.tmp 31) rfl W2.heap.size (.slice none 0 0) B1 R.stepped.waits.length d1 [] R.stepped.waits rfl rfl rfl (OwnN.nil _ _ _ _ _) ((H2.out.2.2.2.2.2.keeps hW).lies encWait) (by have := HSW.out; simp; omega) hW.size (fun A' c' w' ho hk _ => ⟨hk, hφ.out _ _ ⟨A', c', rfl, ho⟩⟩)
          simp only [addEnt]
          apply loose_is
          · intro W vals hW hkn
            clear hkn
            refine ⟨?_⟩
            simp only [fill]
            go_simp
            first | exact ⟨Keeps.refl _ _, rfl⟩ | exact ⟨Keeps.alloc _ _, rfl⟩
          simp only [addEnt]
          apply loose_is
          · intro W vals hW hkn
            clear hkn
            refine ⟨?_⟩
            simp only [fill]
            go_simp
            first | exact ⟨Keeps.refl _ _, rfl⟩ | exact ⟨Keeps.alloc _ _, rfl⟩
          simp only [addEnt]
          apply loose_is
          · intro W vals hW hkn
            simp only [knows] at hkn
            try simp only [and_true] at hkn
            have hcv := HCV.out W hW
            refine ⟨?_⟩
            simp only [fill]
            go_simp
            first | exact ⟨Keeps.refl _ _, rfl⟩ | exact ⟨Keeps.alloc _ _, rfl⟩
          simp only [addEnt]
          apply loose_is
          · intro W vals hW hkn
            clear hkn
            refine ⟨?_⟩
            simp only [fill]
            go_simp
            first | exact ⟨Keeps.refl _ _, rfl⟩ | exact ⟨Keeps.alloc _ _, rfl⟩
          simp only [addEnt]
          refine loose_has (fun v W' => ∃ b7, v = .slice (some ⟨b7, 0, none⟩) 1 1 ∧ Row W' b7 60 #[.int .i64 page, .string ⟨bs.toArray⟩]) (fun W vals hW hkn φ' hφ => ?_) ?_
          · simp only [knows] at hkn
            try simp only [and_true] at hkn
            clear hkn
            refine ⟨?_⟩
            simp only [fill]
            go_simp
            exact ⟨Keeps.alloc _ _, hφ.out _ _ ⟨_, rfl, Row.new _ _ _⟩⟩
          simp only [addEnt]
          refine loose_nil (fun W vals hW hkn => ?_)
          simp only [knowsAll] at hkn
          try simp only [and_true] at hkn
          simp only [fill, Act.put, List.setIfInBounds_toArray, List.set_cons_succ, List.set_cons_zero]
          obtain ⟨⟨Wa, a1, a2, b7, hv7, hr7⟩, ⟨Wb, b1, b2, A8, c8, hv8, ho8⟩⟩ := hkn
          rw [hv7, hv8]
          rw [hv8] at ho8
          have H8 := Lib.hid (And.intro (ho8.keeps b2) (And.intro (hr7.keeps a2) (And.intro (H2.out.1.keeps hW) (And.intro (H2.out.2.1.keeps hW) (show Keeps W2 W [] from hW)))))
          clear a1 a2 b1 b2 hv7 hv8 hr7 ho8 hW M1
          refine wpList_append_N elemWait encWait rfl (.tmp 32) (.tmp 37) rfl W2.heap.size (.slice A8 R.stepped.waits.length c8) (some ⟨b7, 0, none⟩) 1 1 R.stepped.waits [(page, bs)] rfl rfl rfl H8.out.1 (lies_of_row H8.out.2.1 rfl) (by have := HSW.out; simp; omega) H8.out.2.2.2.2.size ?_
          intro A9 c9 w9 l9 hl9 hlen9 ho9 hk9 _
          have hbl : w.heap.size + 1 < W2.heap.size := H2.out.2.1.lt
          have hfar : ∀ g ∈ (Value.slice A8 R.stepped.waits.length c8).ownBlock.toList, W2.heap.size ≤ g := fun g hg => (OwnN.rows H8.out.1 g hg).1
          have q9 := H8.out.2.2.1.keep hk9 (fun hm => by have := hfar _ hm; omega)
          have q10 := H8.out.2.2.2.1.keep hk9 (fun hm => by have := hfar _ hm; omega)
          have k9 : Keeps W2 w9 [] := H8.out.2.2.2.2.trans hk9 (fun y hy hlt => by have := hfar _ hy; omega)
          have H9 := Lib.hid (And.intro hl9.out (And.intro ho9 (And.intro q9 (And.intro q10 k9))))
          have y0 := q9.cell 0
          have y1 := q9.cell 1
          have y2 := q9.cell 2
          have y3 := q9.cell 3
          have y4 := q9.cell 4
          have y5 := q9.cell 5
          simp only [List.getElem?_toArray, List.getElem?_cons_zero, List.getElem?_cons_succ] at y0 y1 y2 y3 y4 y5
          have z0 := q9.frozen 0
          have z1 := q9.frozen 1
          have z2 := q9.frozen 2
          have z3 := q9.frozen 3
          have z4 := q9.frozen 4
          have z5 := q9.frozen 5
          clear hl9 hlen9 ho9 hk9 hfar q9 q10 k9
          go_upto_region 8 with fail
          obtain ⟨W9, hW9⟩ : ∃ W9, w9.setCell ⟨w.heap.size, 1, none⟩ (.slice A9 l9.length c9) = W9 := ⟨_, rfl⟩
          have q9 : Row W9 w.heap.size 43 #[.slice A1 R.stepped.lasts.length c1, .slice A9 l9.length c9, .int .i64 R.stepped.kind, .int .i64 R.stepped.left, .bool R.stepped.dead, .int .i64 R.stepped.steps] := by
            rw [← hW9]
            simpa using H9.out.2.2.1.store 1 (.slice A9 l9.length c9)
          have q10 : Row W9 (w.heap.size + 1) 43 rkZero := by rw [← hW9]; exact H9.out.2.2.2.1.far (by simp) _
          have k9 : Keeps w9 W9 [w.heap.size] := by rw [← hW9]; exact Keeps.setCell _ _ _
          rw [hW9]
          have e9 := H9.out.1
          have hlA : ListAt W9 9 1 txtV A1 R.stepped.lasts := (H2.out.2.2.2.2.1.keeps H9.out.2.2.2.2).box k9 H9.out.2.2.1 (by decide)
          have hlB : ListAt W9 60 2 waitV A9 l9 := (OwnN.at_ H9.out.2.1 encWait).box k9 H9.out.2.2.1 (by decide)
          have HF := Lib.hid (And.intro q10 (And.intro hlA (And.intro hlB (And.intro e9 ((H2.out.2.2.2.1.then_ H9.out.2.2.2.2).trans k9 (fun y hy hlt => by simp at hy; omega))))))
          have y0 := q9.cell 0
          have y1 := q9.cell 1
          have y2 := q9.cell 2
          have y3 := q9.cell 3
          have y4 := q9.cell 4
          have y5 := q9.cell 5
          simp only [List.getElem?_toArray, List.getElem?_cons_zero, List.getElem?_cons_succ] at y0 y1 y2 y3 y4 y5
          have x0 := q10.cell 0
          have x1 := q10.cell 1
          have x2 := q10.cell 2
          have x3 := q10.cell 3
          have x4 := q10.cell 4
          have x5 := q10.cell 5
          simp only [List.getElem?_toArray, List.getElem?_cons_zero, List.getElem?_cons_succ] at x0 x1 x2 x3 x4 x5
          have u0 := q10.frozen 0
          have u1 := q10.frozen 1
          have u2 := q10.frozen 2
          have u3 := q10.frozen 3
          have u4 := q10.frozen 4
          have u5 := q10.frozen 5
          clear q9 q10 k9 hW9 e9 hlA hlB z0 z1 z2 z3 z4 z5
          go_wp2_with fail
          obtain ⟨p1, p2⟩ := rk_put HF.out.1 (.slice A1 R.stepped.lasts.length c1) (.slice A9 l9.length c9) (.int .i64 R.stepped.kind) (.int .i64 R.stepped.left) (.bool R.stepped.dead) (.int .i64 R.stepped.steps)
          refine write_door _ _ _ _ _ _ _ _ _ _ rfl rfl p1 _ ⟨_, by rw [HR.out, if_neg (by simp [hc])]; rfl, ?_, HF.out.2.2.2.2.trans p2 (fun y hy hlt => by simp at hy; omega)⟩
          rw [HR.out, if_neg (by simp [hc])]
          have e9 := HF.out.2.2.2.1
          subst e9
          exact ⟨A1, c1, A9, c9, rfl, HF.out.2.1.box p2 HF.out.1 (by decide), HF.out.2.2.1.box p2 HF.out.1 (by decide)⟩
        · have hc1 : ((R.code : Int) == 0) = false := by simpa using hc
          go_enter Try.func34, Try.ntmps34
          go_wp2_with fail
          obtain ⟨W0, hW0⟩ : ∃ W0, (w.alloc (.cells (rkRow R A c B d) 43)).alloc (.cells rkZero 43) = W0 := ⟨_, rfl⟩
          have k0 : Keeps w W0 [] := by rw [← hW0]; exact (Keeps.alloc _ _).then_alloc _
          have r0 : Row W0 w.heap.size 43 (rkRow R A c B d) := by rw [← hW0]; exact (Row.new _ _ _).alloc _
          have r1 : Row W0 (w.heap.size + 1) 43 rkZero := by
            rw [← hW0]
            have := Row.new (w.alloc (.cells (rkRow R A c B d) 43)) 43 rkZero
            rwa [World.size_alloc] at this
          rw [show (w.alloc (.cells #[.slice A R.lasts.length c, .slice B R.waits.length d, .int .i64 R.kind, .int .i64 R.left, .bool R.dead, .int .i64 R.steps] 43)).alloc (.cells #[.slice none 0 0, .slice none 0 0, .int .i64 0, .int .i64 0, .bool false, .int .i64 0] 43) = W0 from hW0]
          have H0 := Lib.hid (And.intro k0 (And.intro r0 r1))
          clear k0 r0 r1 hW0
          refine (refStep_any W0 _ R (HH.out.1.keeps H0.out.1)).mono ?_
          rintro e w1 ⟨g', rfl, hg', hk'⟩
          obtain ⟨A1, c1, B1, d1, rfl, hA1, hB1⟩ := hg'.e
          have q0 := H0.out.2.1.keeps hk'
          have y0 := q0.cell 0
          have y1 := q0.cell 1
          have y2 := q0.cell 2
          have y3 := q0.cell 3
          have y4 := q0.cell 4
          have y5 := q0.cell 5
          simp only [List.getElem?_toArray, List.getElem?_cons_zero, List.getElem?_cons_succ] at y0 y1 y2 y3 y4 y5
          have z0 := q0.frozen 0
          have z1 := q0.frozen 1
          have z2 := q0.frozen 2
          have z3 := q0.frozen 3
          have z4 := q0.frozen 4
          have z5 := q0.frozen 5
          have H1 := Lib.hid (And.intro (H0.out.1.then_ hk') (And.intro q0 (And.intro (H0.out.2.2.keeps hk') (And.intro hg' (And.intro hA1 hB1)))))
          clear q0 hk' hg' hA1 hB1
          go_upto_region 6 with fail
          obtain ⟨W2, hW2⟩ : ∃ W2, (((((w1.setCell ⟨w.heap.size, 0, none⟩ (.slice A1 R.stepped.lasts.length c1)).setCell ⟨w.heap.size, 1, none⟩ (.slice B1 R.stepped.waits.length d1)).setCell ⟨w.heap.size, 2, none⟩ (.int .i64 R.stepped.kind)).setCell ⟨w.heap.size, 3, none⟩ (.int .i64 R.stepped.left)).setCell ⟨w.heap.size, 4, none⟩ (.bool R.stepped.dead)).setCell ⟨w.heap.size, 5, none⟩ (.int .i64 R.stepped.steps) = W2 := ⟨_, rfl⟩
          obtain ⟨q2, k2⟩ := rk_put H1.out.2.1 (.slice A1 R.stepped.lasts.length c1) (.slice B1 R.stepped.waits.length d1) (.int .i64 R.stepped.kind) (.int .i64 R.stepped.left) (.bool R.stepped.dead) (.int .i64 R.stepped.steps)
          rw [hW2] at q2 k2 ⊢
          have s2 := H1.out.1.size
          have n2 := H1.out.2.2.1.lt
          have H2 := Lib.hid (And.intro q2 (And.intro (H1.out.2.2.1.keep k2 (by simp)) (And.intro (H1.out.2.2.2.1.keep k2 (fun x hx => by obtain rfl := List.mem_singleton.1 hx; exact ⟨_, _, H1.out.2.1, by decide, by decide⟩)) (And.intro (H1.out.1.trans k2 (fun y hy hlt => by simp at hy; omega)) (And.intro (H1.out.2.2.2.2.1.box k2 H1.out.2.1 (by decide)) (H1.out.2.2.2.2.2.box k2 H1.out.2.1 (by decide)))))))
          clear q2 k2 hW2 s2
          have q2 := H2.out.1
          have y0 := q2.cell 0
          have y1 := q2.cell 1
          have y2 := q2.cell 2
          have y3 := q2.cell 3
          have y4 := q2.cell 4
          have y5 := q2.cell 5
          simp only [List.getElem?_toArray, List.getElem?_cons_zero, List.getElem?_cons_succ] at y0 y1 y2 y3 y4 y5
          clear q2
          have q3 := H2.out.2.1
          have x0 := q3.cell 0
          have x1 := q3.cell 1
          have x2 := q3.cell 2
          have x3 := q3.cell 3
          have x4 := q3.cell 4
          have x5 := q3.cell 5
          simp only [List.getElem?_toArray, List.getElem?_cons_zero, List.getElem?_cons_succ] at x0 x1 x2 x3 x4 x5
          have u0 := q3.frozen 0
          have u1 := q3.frozen 1
          have u2 := q3.frozen 2
          have u3 := q3.frozen 3
          have u4 := q3.frozen 4
          have u5 := q3.frozen 5
          clear q3 z0 z1 z2 z3 z4 z5
          go_wp2_with fail
          obtain ⟨p1, p2⟩ := rk_put H2.out.2.1 (.slice A1 R.stepped.lasts.length c1) (.slice B1 R.stepped.waits.length d1) (.int .i64 R.stepped.kind) (.int .i64 R.stepped.left) (.bool R.stepped.dead) (.int .i64 R.stepped.steps)
          refine write_door _ _ _ _ _ _ _ _ _ _ rfl rfl p1 _ ⟨_, by rw [HR.out, if_pos hc]; rfl, ?_, H2.out.2.2.2.1.trans p2 (fun y hy hlt => by simp at hy; omega)⟩
          rw [HR.out, if_pos hc]
          exact H2.out.2.2.1.keep p2 (fun x hx => by obtain rfl := List.mem_singleton.1 hx; exact ⟨_, _, H2.out.2.1, by decide, by decide⟩)
  · have HC := Lib.hid (show R.write page bs = (2, R) by unfold Rk.write; rw [if_pos (by omega)])
    clear hn
    go_enter Try.func34, Try.ntmps34
    go_wp2_with fail
    have kk := (Keeps.alloc w (.cells (rkRow R A c B d) 43)).then_alloc (.cells (rkRow R A c B d) 43)
    have rr := Row.new (w.alloc (.cells (rkRow R A c B d) 43)) 43 (rkRow R A c B d)
    rw [World.size_alloc] at rr
    refine write_door _ _ _ _ _ _ _ _ _ _ rfl rfl rr _ ⟨_, by rw [HC.out]; rfl, ?_, kk⟩
    rw [HC.out]
    exact HH.out.1.keeps kk
end Go.Proofs.Ytehlabdbbbbopaa

namespace Go.Proofs.Ytehlabdbbbbopaa
open Go.RowKit Go.Maps Go.Shelf

/-- Pages written over, one behind the other. -/
def applied (lasts : List (List UInt8)) (ws : List (Int × List UInt8)) : List (List UInt8) := ws.foldl (fun l p => l.set p.1.toNat p.2) lasts
theorem applied_length (lasts : List (List UInt8)) (ws : List (Int × List UInt8)) : (applied lasts ws).length = lasts.length := by
  unfold applied
  induction ws generalizing lasts with
  | nil => rfl
  | cons p ws ih => rw [List.foldl_cons, ih, List.length_set]
theorem applied_snoc (lasts : List (List UInt8)) (ws : List (Int × List UInt8)) (p : Int × List UInt8) : applied lasts (ws ++ [p]) = (applied lasts ws).set p.1.toNat p.2 := by
  unfold applied
  rw [List.foldl_append]
  rfl
def Rk.flush (R : Rk) : Nat × Rk := if R.code ≠ 0 then (R.code, R.stepped) else (0, { R.stepped with lasts := applied R.stepped.lasts R.stepped.waits, waits := [] })
set_option maxRecDepth 100000 in
set_option maxHeartbeats 1000000 in
theorem refFlush_any (w : World) (g : Value) (R : Rk) (h : RkAt w g R) (hw : R.waits.length ≤ 100000) (hls : R.lasts.length ≤ 100000) (hin : ∀ p ∈ R.waits, 0 ≤ p.1 ∧ p.1 < R.lasts.length) :
    Calls Try.prog 35 #[g] w fun e w' => ∃ g', e = .returned (.tuple #[g', .int .i64 (R.flush.1 : Nat)]) ∧ RkAt w' g' R.flush.2 ∧ Keeps w w' [] := by
  have HH := Lib.hid (And.intro h (And.intro hw (And.intro hls hin)))
  obtain ⟨A, c, B, d, rfl, hA, hB⟩ := h.e
  clear hA hB h hw hls hin
  by_cases hc : R.code = 0
  · have hc1 : ((R.code : Int) == 0) = true := by simpa using hc
    go_enter Try.func35, Try.ntmps35
    go_wp2_with fail
    obtain ⟨W0, hW0⟩ : ∃ W0, (w.alloc (.cells (rkRow R A c B d) 43)).alloc (.cells rkZero 43) = W0 := ⟨_, rfl⟩
    have k0 : Keeps w W0 [] := by rw [← hW0]; exact (Keeps.alloc _ _).then_alloc _
    have r0 : Row W0 w.heap.size 43 (rkRow R A c B d) := by rw [← hW0]; exact (Row.new _ _ _).alloc _
    have r1 : Row W0 (w.heap.size + 1) 43 rkZero := by
      rw [← hW0]
      have := Row.new (w.alloc (.cells (rkRow R A c B d) 43)) 43 rkZero
      rwa [World.size_alloc] at this
    rw [show (w.alloc (.cells #[.slice A R.lasts.length c, .slice B R.waits.length d, .int .i64 R.kind, .int .i64 R.left, .bool R.dead, .int .i64 R.steps] 43)).alloc (.cells #[.slice none 0 0, .slice none 0 0, .int .i64 0, .int .i64 0, .bool false, .int .i64 0] 43) = W0 from hW0]
    have H0 := Lib.hid (And.intro k0 (And.intro r0 r1))
    clear k0 r0 r1 hW0
    refine (refStep_any W0 _ R (HH.out.1.keeps H0.out.1)).mono ?_
    rintro e w1 ⟨g', rfl, hg', hk'⟩
    obtain ⟨A1, c1, B1, d1, rfl, hA1, hB1⟩ := hg'.e
    have q0 := H0.out.2.1.keeps hk'
    have y0 := q0.cell 0
    have y1 := q0.cell 1
    have y2 := q0.cell 2
    have y3 := q0.cell 3
    have y4 := q0.cell 4
    have y5 := q0.cell 5
    simp only [List.getElem?_toArray, List.getElem?_cons_zero, List.getElem?_cons_succ] at y0 y1 y2 y3 y4 y5
    have z0 := q0.frozen 0
    have z1 := q0.frozen 1
    have z2 := q0.frozen 2
    have z3 := q0.frozen 3
    have z4 := q0.frozen 4
    have z5 := q0.frozen 5
    have H1 := Lib.hid (And.intro (H0.out.1.then_ hk') (And.intro q0 (And.intro (H0.out.2.2.keeps hk') (And.intro hg' (And.intro hA1 hB1)))))
    clear q0 hk' hg' hA1 hB1
    go_upto_region 2 with fail
    obtain ⟨W2, hW2⟩ : ∃ W2, (((((w1.setCell ⟨w.heap.size, 0, none⟩ (.slice A1 R.stepped.lasts.length c1)).setCell ⟨w.heap.size, 1, none⟩ (.slice B1 R.stepped.waits.length d1)).setCell ⟨w.heap.size, 2, none⟩ (.int .i64 R.stepped.kind)).setCell ⟨w.heap.size, 3, none⟩ (.int .i64 R.stepped.left)).setCell ⟨w.heap.size, 4, none⟩ (.bool R.stepped.dead)).setCell ⟨w.heap.size, 5, none⟩ (.int .i64 R.stepped.steps) = W2 := ⟨_, rfl⟩
    obtain ⟨q2, k2⟩ := rk_put H1.out.2.1 (.slice A1 R.stepped.lasts.length c1) (.slice B1 R.stepped.waits.length d1) (.int .i64 R.stepped.kind) (.int .i64 R.stepped.left) (.bool R.stepped.dead) (.int .i64 R.stepped.steps)
    rw [hW2] at q2 k2 ⊢
    have s2 := H1.out.1.size
    have n2 := H1.out.2.2.1.lt
    have H2 := Lib.hid (And.intro q2 (And.intro (H1.out.2.2.1.keep k2 (by simp)) (And.intro (H1.out.2.2.2.1.keep k2 (fun x hx => by obtain rfl := List.mem_singleton.1 hx; exact ⟨_, _, H1.out.2.1, by decide, by decide⟩)) (And.intro (H1.out.1.trans k2 (fun y hy hlt => by simp at hy; omega)) (And.intro (H1.out.2.2.2.2.1.box k2 H1.out.2.1 (by decide)) (H1.out.2.2.2.2.2.box k2 H1.out.2.1 (by decide)))))))
    clear q2 k2 hW2 s2
    have q2 := H2.out.1
    have y0 := q2.cell 0
    have y1 := q2.cell 1
    have y2 := q2.cell 2
    have y3 := q2.cell 3
    have y4 := q2.cell 4
    have y5 := q2.cell 5
    simp only [List.getElem?_toArray, List.getElem?_cons_zero, List.getElem?_cons_succ] at y0 y1 y2 y3 y4 y5
    clear q2 z0 z1 z2 z3 z4 z5
    have HSN := Lib.hid (show R.stepped.lasts.length ≤ 100000 ∧ R.stepped.waits.length ≤ 100000 ∧ ∀ p ∈ R.stepped.waits, 0 ≤ p.1 ∧ p.1 < R.stepped.lasts.length from by rw [R.stepped_same.1, R.stepped_same.2]; exact ⟨HH.out.2.2.1, HH.out.2.1, HH.out.2.2.2⟩)
    go_wp2_with (at_builtin; refine wpList_append_N elemTxt encTxt rfl (Operand.const (.slice none 0 0)) (.tmp 15) rfl W2.heap.size (.slice none 0 0) A1 R.stepped.lasts.length c1 [] R.stepped.lasts rfl rfl rfl (OwnN.nil _ _ _ _ _) (H2.out.2.2.2.2.1.lies encTxt) (by have := HSN.out.1; simp; omega) (Nat.le_refl _) ?_; intro A5 c5 w5 l5 hl5 hlen5 ho5 hk5 _)
    obtain ⟨n5, hn5⟩ : ∃ n5, l5.length = n5 := ⟨_, rfl⟩
    have e5 : l5 = R.stepped.lasts := by have := hl5.out; simpa using this
    rw [hn5] at ho5 ⊢
    have HP := Lib.hid (show OwnN w5 W2.heap.size 9 1 txtV (.slice A5 n5 c5) (applied R.stepped.lasts (R.stepped.waits.take 0)) ∧ Keeps W2 w5 [] from ⟨by subst e5; exact ho5, hk5⟩)
    have HN5 := Lib.hid (show n5 = R.stepped.lasts.length by rw [← hn5, e5])
    clear hl5 hlen5 ho5 hk5 hn5 e5 y0 y1 y2 y3 y4 y5
    go_wp2_with fail
    go_loopw [6] (fun i wr => ∃ k : Nat, k ≤ R.stepped.waits.length ∧ i = .int .i64 k ∧ Hid (OwnN wr W2.heap.size 9 1 txtV (.slice A5 n5 c5) (applied R.stepped.lasts (R.stepped.waits.take k)) ∧ Keeps W2 wr [])) (fun i _ => R.stepped.waits.length - (intOf i).toNat)
    case atStart => exact ⟨0, by omega, rfl, HP⟩
    case round =>
      clear HP
      obtain ⟨k, hk, rfl, HR⟩ := hrel
      have hsw := HSN.out.2.1
      have qb := H2.out.1.keeps HR.out.2
      have y0 := qb.cell 0
      have y1 := qb.cell 1
      have y2 := qb.cell 2
      have y3 := qb.cell 3
      have y4 := qb.cell 4
      have y5 := qb.cell 5
      simp only [List.getElem?_toArray, List.getElem?_cons_zero, List.getElem?_cons_succ] at y0 y1 y2 y3 y4 y5
      by_cases hkl : k < R.stepped.waits.length
      · obtain ⟨bw, ow, rfl, hbw, hcw⟩ := (H2.out.2.2.2.2.2.keeps HR.out.2).at_ hkl
        obtain ⟨⟨p, x⟩, hpx⟩ : ∃ px, R.stepped.waits[k] = px := ⟨_, rfl⟩
        have hpin := HSN.out.2.2 _ (List.getElem_mem hkl)
        rw [hpx] at hcw hpin
        simp only at hpin
        obtain ⟨m, rfl⟩ : ∃ m : Nat, p = m := ⟨p.toNat, by omega⟩
        have hmn : m < (applied R.stepped.lasts (R.stepped.waits.take k)).length := by rw [applied_length]; omega
        obtain ⟨g5, cur, rfl, hn, hg5, hr5, hc5, hput⟩ := OwnN.one (q := fun l : List UInt8 => Value.string ⟨l.toArray⟩) (fun _ => rfl) HR.out.1 hmn
        have hmn5 : m < n5 := by rw [hn]; exact hmn
        have w0 := hcw 0 (by omega)
        have w1' := hcw 1 (by omega)
        simp only [waitV, List.getElem?_cons_zero, List.getElem?_cons_succ, Nat.add_zero] at w0 w1'
        have MB := fun (W' : World) (hW : Keeps wr W' []) => (qb.keeps hW).cell 1
        have MW0 := fun (W' : World) (hW : Keeps wr W' []) => (hW.cell (p := ⟨bw, ow + k * 2, none⟩) hbw (by simp)).trans w0
        have MW1 := fun (W' : World) (hW : Keeps wr W' []) => (hW.cell (p := ⟨bw, ow + k * 2 + 1, none⟩) hbw (by simp)).trans w1'
        simp only [List.getElem?_toArray, List.getElem?_cons_zero, List.getElem?_cons_succ] at MB
        have HQ := Lib.hid (And.intro hpx (And.intro hr5 (And.intro hc5 (And.intro hg5 hput))))
        clear hcw hpin hpx hr5 hc5 hput w0 w1' hn
        go_wp2_with fail
        refine wp_region_tail KeepsAll _ 14 (by kernel_rfl) rfl (by kernel_rfl) (fun _ => Keeps.refl _ _) (fun _ _ _ h k => h.trans k (by simp)) (Keeps.drew _) ?_
        simp only [List.take_succ_cons, List.take_zero, List.drop_succ_cons, List.drop_zero]
        apply loose_is
        · intro W vals hW hkn
          clear hkn
          refine ⟨?_⟩
          simp only [fill]
          go_simp
          first | exact ⟨Keeps.refl _ _, rfl⟩ | exact ⟨Keeps.alloc _ _, rfl⟩
        simp only [addEnt]
        apply loose_is
        · intro W vals hW hkn
          clear hkn
          refine ⟨?_⟩
          simp only [fill]
          go_simp
          first | exact ⟨Keeps.refl _ _, rfl⟩ | exact ⟨Keeps.alloc _ _, rfl⟩
        simp only [addEnt]
        apply loose_is
        · intro W vals hW hkn
          clear hkn
          refine ⟨?_⟩
          simp only [fill]
          go_simp
          first | exact ⟨Keeps.refl _ _, rfl⟩ | exact ⟨Keeps.alloc _ _, rfl⟩
        simp only [addEnt]
        apply loose_is
        · intro W vals hW hkn
          clear hkn
          refine ⟨?_⟩
          simp only [fill]
          go_simp
          first | exact ⟨Keeps.refl _ _, rfl⟩ | exact ⟨Keeps.alloc _ _, rfl⟩
        simp only [addEnt]
        apply loose_is
        · intro W vals hW hkn
          clear hkn
          refine ⟨?_⟩
          simp only [fill]
          go_simp
          first | exact ⟨Keeps.refl _ _, rfl⟩ | exact ⟨Keeps.alloc _ _, rfl⟩
        simp only [addEnt]
        apply loose_is
        · intro W vals hW hkn
          clear hkn
          refine ⟨?_⟩
          simp only [fill]
          go_simp
          first | exact ⟨Keeps.refl _ _, rfl⟩ | exact ⟨Keeps.alloc _ _, rfl⟩
        simp only [addEnt]
        apply loose_is
        · intro W vals hW hkn
          clear hkn
          refine ⟨?_⟩
          simp only [fill]
          go_simp
          first | exact ⟨Keeps.refl _ _, rfl⟩ | exact ⟨Keeps.alloc _ _, rfl⟩
        simp only [addEnt]
        apply loose_is
        · intro W vals hW hkn
          clear hkn
          refine ⟨?_⟩
          simp only [fill]
          go_simp
          first | exact ⟨Keeps.refl _ _, rfl⟩ | exact ⟨Keeps.alloc _ _, rfl⟩
        simp only [addEnt]
        apply loose_is
        · intro W vals hW hkn
          clear hkn
          refine ⟨?_⟩
          simp only [fill]
          go_simp
          first | exact ⟨Keeps.refl _ _, rfl⟩ | exact ⟨Keeps.alloc _ _, rfl⟩
        simp only [addEnt]
        apply loose_is
        · intro W vals hW hkn
          clear hkn
          refine ⟨?_⟩
          simp only [fill]
          go_simp
          first | exact ⟨Keeps.refl _ _, rfl⟩ | exact ⟨Keeps.alloc _ _, rfl⟩
        simp only [addEnt]
        apply loose_is
        · intro W vals hW hkn
          clear hkn
          refine ⟨?_⟩
          simp only [fill]
          go_simp
          first | exact ⟨Keeps.refl _ _, rfl⟩ | exact ⟨Keeps.alloc _ _, rfl⟩
        simp only [addEnt]
        apply loose_is
        · intro W vals hW hkn
          clear hkn
          refine ⟨?_⟩
          simp only [fill]
          go_simp
          first | exact ⟨Keeps.refl _ _, rfl⟩ | exact ⟨Keeps.alloc _ _, rfl⟩
        simp only [addEnt]
        apply loose_is
        · intro W vals hW hkn
          clear hkn
          refine ⟨?_⟩
          simp only [fill]
          go_simp
          first | exact ⟨Keeps.refl _ _, rfl⟩ | exact ⟨Keeps.alloc _ _, rfl⟩
        simp only [addEnt]
        apply loose_is
        · intro W vals hW hkn
          clear hkn
          refine ⟨?_⟩
          simp only [fill]
          go_simp
          first | exact ⟨Keeps.refl _ _, rfl⟩ | exact ⟨Keeps.alloc _ _, rfl⟩
        simp only [addEnt]
        refine loose_nil (fun W vals hW hkn => ?_)
        simp only [knowsAll] at hkn
        try simp only [and_true] at hkn
        simp only [fill, Act.put, List.setIfInBounds_toArray, List.set_cons_succ, List.set_cons_zero]
        obtain ⟨g6, cur6, e6, -, hg6, hr6, hc6, hput6⟩ := OwnN.one (q := fun l : List UInt8 => Value.string ⟨l.toArray⟩) (fun _ => rfl) (HR.out.1.keeps hW) hmn
        injection e6 with e6
        injection e6 with e6
        subst e6
        have hcs := (hr6.cell m).trans hc6
        have hfz := hr6.frozen m
        have HW := Lib.hid (And.intro (hput6 x) (And.intro hg6 (HR.out.2.then_ hW)))
        have hst : applied R.stepped.lasts (R.stepped.waits.take (k + 1)) = (applied R.stepped.lasts (R.stepped.waits.take k)).set m x := by
          rw [List.take_succ_eq_append_getElem hkl, applied_snoc, HQ.out.1, Int.toNat_natCast]
        have HST := Lib.hid hst
        clear hkn hg6 hr6 hc6 hput6 hW MB MW0 MW1 hst
        go_wp2_with fail
        refine ⟨⟨k + 1, by omega, by go_num, Lib.hid ⟨by rw [HST.out]; exact HW.out.1, HW.out.2.2.trans (Keeps.setCell _ _ _) (fun y hy hlt => by simp at hy; have := HW.out.2.1; omega)⟩⟩, by simp [intOf]; omega⟩
      · obtain rfl : k = R.stepped.waits.length := by omega
        have qz := H2.out.2.1.keeps HR.out.2
        have z0 := qb.frozen 0
        have z1 := qb.frozen 1
        have z2 := qb.frozen 2
        have z3 := qb.frozen 3
        have z4 := qb.frozen 4
        have z5 := qb.frozen 5
        have HR2 := Lib.hid (And.intro qb qz)
        clear qb qz
        go_upto_region 9 with fail
        obtain ⟨W9, hW9⟩ : ∃ W9, (wr.setCell ⟨w.heap.size, 0, none⟩ (.slice A5 n5 c5)).setCell ⟨w.heap.size, 1, none⟩ (.slice none 0 0) = W9 := ⟨_, rfl⟩
        have q9 : Row W9 w.heap.size 43 #[.slice A5 n5 c5, .slice none 0 0, .int .i64 R.stepped.kind, .int .i64 R.stepped.left, .bool R.stepped.dead, .int .i64 R.stepped.steps] := by
          rw [← hW9]
          simpa using (HR2.out.1.store 0 (.slice A5 n5 c5)).store 1 (.slice none 0 0)
        have k9 : Keeps wr W9 [w.heap.size] := by rw [← hW9]; exact ((Keeps.refl _ _).put 0 _).put 1 _
        have q10 : Row W9 (w.heap.size + 1) 43 rkZero := HR2.out.2.keep k9 (by simp)
        rw [hW9]
        have hbl : w.heap.size < W2.heap.size := H2.out.1.lt
        have hlA : ListAt W9 9 1 txtV A5 (applied R.stepped.lasts R.stepped.waits) := by
          have ho := HR.out.1
          rw [List.take_length] at ho
          have hn : n5 = (applied R.stepped.lasts R.stepped.waits).length := by rw [HN5.out, applied_length]
          rw [hn] at ho
          exact (OwnN.at_ ho encTxt).box k9 HR2.out.1 (by decide)
        have HF := Lib.hid (And.intro q10 (And.intro hlA ((H2.out.2.2.2.1.then_ HR.out.2).trans k9 (fun y hy hlt => by simp at hy; omega))))
        have y0 := q9.cell 0
        have y1 := q9.cell 1
        have y2 := q9.cell 2
        have y3 := q9.cell 3
        have y4 := q9.cell 4
        have y5 := q9.cell 5
        simp only [List.getElem?_toArray, List.getElem?_cons_zero, List.getElem?_cons_succ] at y0 y1 y2 y3 y4 y5
        have x0 := q10.cell 0
        have x1 := q10.cell 1
        have x2 := q10.cell 2
        have x3 := q10.cell 3
        have x4 := q10.cell 4
        have x5 := q10.cell 5
        simp only [List.getElem?_toArray, List.getElem?_cons_zero, List.getElem?_cons_succ] at x0 x1 x2 x3 x4 x5
        have u0 := q10.frozen 0
        have u1 := q10.frozen 1
        have u2 := q10.frozen 2
        have u3 := q10.frozen 3
        have u4 := q10.frozen 4
        have u5 := q10.frozen 5
        clear q9 q10 k9 hW9 hlA hbl z0 z1 z2 z3 z4 z5
        go_wp2_with fail
        obtain ⟨p1, p2⟩ := rk_put HF.out.1 (.slice A5 n5 c5) (.slice none 0 0) (.int .i64 R.stepped.kind) (.int .i64 R.stepped.left) (.bool R.stepped.dead) (.int .i64 R.stepped.steps)
        refine flush_door _ _ _ _ _ _ _ _ _ _ rfl rfl p1 _ ⟨_, by unfold Rk.flush; rw [if_neg (by simp [hc])]; rfl, ?_, HF.out.2.2.trans p2 (fun y hy hlt => by simp at hy; omega)⟩
        unfold Rk.flush
        rw [if_neg (by simp [hc])]
        exact ⟨A5, c5, none, 0, by rw [applied_length, ← HN5.out]; rfl, HF.out.2.1.box p2 HF.out.1 (by decide), ListAt.nil _ _ _ _ _⟩
  · have hc1 : ((R.code : Int) == 0) = false := by simpa using hc
    go_enter Try.func35, Try.ntmps35
    go_wp2_with fail
    obtain ⟨W0, hW0⟩ : ∃ W0, (w.alloc (.cells (rkRow R A c B d) 43)).alloc (.cells rkZero 43) = W0 := ⟨_, rfl⟩
    have k0 : Keeps w W0 [] := by rw [← hW0]; exact (Keeps.alloc _ _).then_alloc _
    have r0 : Row W0 w.heap.size 43 (rkRow R A c B d) := by rw [← hW0]; exact (Row.new _ _ _).alloc _
    have r1 : Row W0 (w.heap.size + 1) 43 rkZero := by
      rw [← hW0]
      have := Row.new (w.alloc (.cells (rkRow R A c B d) 43)) 43 rkZero
      rwa [World.size_alloc] at this
    rw [show (w.alloc (.cells #[.slice A R.lasts.length c, .slice B R.waits.length d, .int .i64 R.kind, .int .i64 R.left, .bool R.dead, .int .i64 R.steps] 43)).alloc (.cells #[.slice none 0 0, .slice none 0 0, .int .i64 0, .int .i64 0, .bool false, .int .i64 0] 43) = W0 from hW0]
    have H0 := Lib.hid (And.intro k0 (And.intro r0 r1))
    clear k0 r0 r1 hW0
    refine (refStep_any W0 _ R (HH.out.1.keeps H0.out.1)).mono ?_
    rintro e w1 ⟨g', rfl, hg', hk'⟩
    obtain ⟨A1, c1, B1, d1, rfl, hA1, hB1⟩ := hg'.e
    have q0 := H0.out.2.1.keeps hk'
    have y0 := q0.cell 0
    have y1 := q0.cell 1
    have y2 := q0.cell 2
    have y3 := q0.cell 3
    have y4 := q0.cell 4
    have y5 := q0.cell 5
    simp only [List.getElem?_toArray, List.getElem?_cons_zero, List.getElem?_cons_succ] at y0 y1 y2 y3 y4 y5
    have z0 := q0.frozen 0
    have z1 := q0.frozen 1
    have z2 := q0.frozen 2
    have z3 := q0.frozen 3
    have z4 := q0.frozen 4
    have z5 := q0.frozen 5
    have H1 := Lib.hid (And.intro (H0.out.1.then_ hk') (And.intro q0 (And.intro (H0.out.2.2.keeps hk') (And.intro hg' (And.intro hA1 hB1)))))
    clear q0 hk' hg' hA1 hB1
    go_upto_region 2 with fail
    obtain ⟨W2, hW2⟩ : ∃ W2, (((((w1.setCell ⟨w.heap.size, 0, none⟩ (.slice A1 R.stepped.lasts.length c1)).setCell ⟨w.heap.size, 1, none⟩ (.slice B1 R.stepped.waits.length d1)).setCell ⟨w.heap.size, 2, none⟩ (.int .i64 R.stepped.kind)).setCell ⟨w.heap.size, 3, none⟩ (.int .i64 R.stepped.left)).setCell ⟨w.heap.size, 4, none⟩ (.bool R.stepped.dead)).setCell ⟨w.heap.size, 5, none⟩ (.int .i64 R.stepped.steps) = W2 := ⟨_, rfl⟩
    obtain ⟨q2, k2⟩ := rk_put H1.out.2.1 (.slice A1 R.stepped.lasts.length c1) (.slice B1 R.stepped.waits.length d1) (.int .i64 R.stepped.kind) (.int .i64 R.stepped.left) (.bool R.stepped.dead) (.int .i64 R.stepped.steps)
    rw [hW2] at q2 k2 ⊢
    have s2 := H1.out.1.size
    have n2 := H1.out.2.2.1.lt
    have H2 := Lib.hid (And.intro q2 (And.intro (H1.out.2.2.1.keep k2 (by simp)) (And.intro (H1.out.2.2.2.1.keep k2 (fun x hx => by obtain rfl := List.mem_singleton.1 hx; exact ⟨_, _, H1.out.2.1, by decide, by decide⟩)) (And.intro (H1.out.1.trans k2 (fun y hy hlt => by simp at hy; omega)) (And.intro (H1.out.2.2.2.2.1.box k2 H1.out.2.1 (by decide)) (H1.out.2.2.2.2.2.box k2 H1.out.2.1 (by decide)))))))
    clear q2 k2 hW2 s2
    have q2 := H2.out.1
    have y0 := q2.cell 0
    have y1 := q2.cell 1
    have y2 := q2.cell 2
    have y3 := q2.cell 3
    have y4 := q2.cell 4
    have y5 := q2.cell 5
    simp only [List.getElem?_toArray, List.getElem?_cons_zero, List.getElem?_cons_succ] at y0 y1 y2 y3 y4 y5
    clear q2
    have q3 := H2.out.2.1
    have x0 := q3.cell 0
    have x1 := q3.cell 1
    have x2 := q3.cell 2
    have x3 := q3.cell 3
    have x4 := q3.cell 4
    have x5 := q3.cell 5
    simp only [List.getElem?_toArray, List.getElem?_cons_zero, List.getElem?_cons_succ] at x0 x1 x2 x3 x4 x5
    have u0 := q3.frozen 0
    have u1 := q3.frozen 1
    have u2 := q3.frozen 2
    have u3 := q3.frozen 3
    have u4 := q3.frozen 4
    have u5 := q3.frozen 5
    clear q3 z0 z1 z2 z3 z4 z5
    go_wp2_with fail
    obtain ⟨p1, p2⟩ := rk_put H2.out.2.1 (.slice A1 R.stepped.lasts.length c1) (.slice B1 R.stepped.waits.length d1) (.int .i64 R.stepped.kind) (.int .i64 R.stepped.left) (.bool R.stepped.dead) (.int .i64 R.stepped.steps)
    refine flush_door _ _ _ _ _ _ _ _ _ _ rfl rfl p1 _ ⟨_, by unfold Rk.flush; rw [if_pos hc]; rfl, ?_, H2.out.2.2.2.1.trans p2 (fun y hy hlt => by simp at hy; omega)⟩
    unfold Rk.flush
    rw [if_pos hc]
    exact H2.out.2.2.1.keep p2 (fun x hx => by obtain rfl := List.mem_singleton.1 hx; exact ⟨_, _, H2.out.2.1, by decide, by decide⟩)
end Go.Proofs.Ytehlabdbbbbopaa

namespace Go.Proofs.Ytehlabdbbbbopaa
open Go.RowKit Go.Maps Go.Shelf

/-- What was written last. -/
def lastOf (ws : List (Int × List UInt8)) (x : Int) (o : List UInt8) : List UInt8 := ws.foldl (fun out q => if q.1 = x then q.2 else out) o
theorem lastOf_snoc (ws : List (Int × List UInt8)) (p : Int × List UInt8) (x : Int) (o : List UInt8) : lastOf (ws ++ [p]) x o = if p.1 = x then p.2 else lastOf ws x o := by
  unfold lastOf
  rw [List.foldl_append]
  rfl
def Rk.page (R : Rk) (n : Nat) : List UInt8 := lastOf R.waits n (R.lasts.getD n [])
def Rk.fresh (n : Nat) : Rk := ⟨List.replicate n nought, [], 0, 0, false, 0⟩
set_option maxRecDepth 100000 in
set_option maxHeartbeats 1000000 in
theorem refPage_any (w : World) (g : Value) (R : Rk) (h : RkAt w g R) (n : Nat) (hn : n < R.lasts.length) (hw : R.waits.length ≤ 100000) (_hl : R.lasts.length ≤ 100000) :
    Calls Try.prog 40 #[g, .int .i64 (n : Int)] w fun e w' => e = .returned (.string ⟨(R.page n).toArray⟩) ∧ Keeps w w' [] := by
  obtain ⟨A, c, B, d, rfl, hA, hB⟩ := h.e
  obtain ⟨bl, ol, rfl, hbl, hcl⟩ := hA.at_ hn
  have hc0 := hcl 0 (by omega)
  simp only [txtV, List.getElem?_cons_zero, Nat.add_zero, Nat.mul_one] at hc0
  obtain ⟨W0, hW0⟩ : ∃ W0, w.alloc (.cells (rkRow R (some ⟨bl, ol, none⟩) c B d) 43) = W0 := ⟨_, rfl⟩
  have k0 : Keeps w W0 [] := by rw [← hW0]; exact Keeps.alloc _ _
  have r0 : Row W0 w.heap.size 43 (rkRow R (some ⟨bl, ol, none⟩) c B d) := by rw [← hW0]; exact Row.new _ _ _
  have hc0' := (k0.cell (p := ⟨bl, ol + n, none⟩) hbl (by simp)).trans hc0
  have H0 := Lib.hid (And.intro k0 (And.intro r0 (hB.keeps k0)))
  have HP := Lib.hid (show R.page n = lastOf R.waits n R.lasts[n] by unfold Rk.page; rw [List.getD_eq_getElem?_getD, List.getElem?_eq_getElem hn]; rfl)
  clear hA hB h hcl hc0 hbl k0
  go_enter Try.func40, Try.ntmps40
  go_upto_region 1 with fail
  clear hW0
  have y0 := r0.cell 0
  have y1 := r0.cell 1
  have y2 := r0.cell 2
  have y3 := r0.cell 3
  have y4 := r0.cell 4
  have y5 := r0.cell 5
  simp only [List.getElem?_toArray, List.getElem?_cons_zero, List.getElem?_cons_succ] at y0 y1 y2 y3 y4 y5
  clear r0
  go_wp2_with fail
  have HL := Lib.hid (show lastOf (R.waits.take 0) n R.lasts[n] = R.lasts[n] from rfl)
  go_loopw [5, 6] (fun o i wr => ∃ (k : Nat) (x : List UInt8), k ≤ R.waits.length ∧ o = .string ⟨x.toArray⟩ ∧ i = .int .i64 k ∧ Hid (lastOf (R.waits.take k) n R.lasts[n] = x) ∧ wr = W0) (fun _ i _ => R.waits.length - (intOf i).toNat)
  case atStart => exact ⟨0, _, by omega, rfl, rfl, HL, rfl⟩
  case round =>
    clear HL
    obtain ⟨k, x, hk, rfl, rfl, HR, rfl⟩ := hrel
    by_cases hkl : k < R.waits.length
    · obtain ⟨bw, ow, rfl, hbw, hcw⟩ := H0.out.2.2.at_ hkl
      obtain ⟨⟨p, z⟩, hpx⟩ : ∃ px, R.waits[k] = px := ⟨_, rfl⟩
      rw [hpx] at hcw
      have w0 := hcw 0 (by omega)
      have w1' := hcw 1 (by omega)
      simp only [waitV, List.getElem?_cons_zero, List.getElem?_cons_succ, Nat.add_zero] at w0 w1'
      have hst : lastOf (R.waits.take (k + 1)) n R.lasts[n] = if p = (n : Int) then z else x := by
        rw [List.take_succ_eq_append_getElem hkl, lastOf_snoc, hpx, HR.out]
      have HST := Lib.hid hst
      clear hcw hpx hst hbw
      by_cases hpn : p = (n : Int)
      · have hpn' : (p == (n : Int)) = true := by simpa using hpn
        go_wp2_with fail
        exact ⟨⟨k + 1, z, by omega, rfl, by go_num, Lib.hid (by rw [HST.out, if_pos hpn]), trivial⟩, by simp [intOf]; omega⟩
      · have hpn' : (p == (n : Int)) = false := by simpa using hpn
        go_wp2_with fail
        exact ⟨⟨k + 1, x, by omega, rfl, by go_num, Lib.hid (by rw [HST.out, if_neg hpn]), trivial⟩, by simp [intOf]; omega⟩
    · obtain rfl : k = R.waits.length := by omega
      have HX := Lib.hid (show R.page n = x by rw [HP.out, ← HR.out, List.take_length])
      go_wp2_with fail
      go_ret
      exact ⟨by rw [HX.out]; rfl, H0.out.1⟩
theorem new_door (W : World) (t : Array Value) (b : Nat) (x0 x1 x2 x3 x4 x5 y : Value) (h : t.getD 2 undef = .pointer (some ⟨b, 0, none⟩)) (h2 : t.getD 3 undef = y) (r : Row W b 43 #[x0, x1, x2, x3, x4, x5]) (R : Ending → World → Prop) (hR : R (.returned (.tuple #[.agg #[x0, x1, x2, x3, x4, x5], y])) W) :
    bodyPost Try.prog Try.f22 R Exit.ret { tmps := t, defers := [] } W := by
  have c0 := r.cell 0
  have c1 := r.cell 1
  have c2 := r.cell 2
  have c3 := r.cell 3
  have c4 := r.cell 4
  have c5 := r.cell 5
  rw [Array.getD_eq_getD_getElem?] at h h2
  simp at c0 c1 c2 c3 c4 c5
  refine bodyPost_ret (v := .tuple #[.agg #[x0, x1, x2, x3, x4, x5], y]) ?_ rfl hR
  simp [results, Try.results22, go_sem, h, h2, c0, c1, c2, c3, c4, c5]
/-- What New hands back. -/
def RkMade (w : World) (pages : Int) (e : Ending) (w' : World) : Prop :=
  if 2 ≤ pages ∧ pages ≤ 4096 then ∃ g, e = .returned (.tuple #[g, .bool true]) ∧ RkAt w' g (Rk.fresh pages.toNat) ∧ Keeps w w' []
  else e = .returned (.tuple #[.agg rkZero, .bool false]) ∧ Keeps w w' []
set_option maxRecDepth 100000 in
set_option maxHeartbeats 1000000 in
theorem refNew2_any (w : World) (pages : Int) : Calls Try.prog 22 #[.int .i64 pages] w (RkMade w pages) := by
  by_cases h1 : pages < 2
  · have HN := Lib.hid (show ¬ (2 ≤ pages ∧ pages ≤ 4096) by omega)
    go_enter Try.func22, Try.ntmps22
    go_wp2_with fail
    refine new_door _ _ _ _ _ _ _ _ _ _ rfl rfl (Row.new w 43 rkZero) _ ?_
    unfold RkMade
    rw [if_neg HN.out]
    exact ⟨rfl, Keeps.alloc _ _⟩
  · by_cases h2 : pages > 4096
    · have HN := Lib.hid (show ¬ (2 ≤ pages ∧ pages ≤ 4096) by omega)
      go_enter Try.func22, Try.ntmps22
      go_wp2_with fail
      refine new_door _ _ _ _ _ _ _ _ _ _ rfl rfl (Row.new w 43 rkZero) _ ?_
      unfold RkMade
      rw [if_neg HN.out]
      exact ⟨rfl, Keeps.alloc _ _⟩
    · obtain ⟨n, rfl⟩ : ∃ n : Nat, pages = n := ⟨pages.toNat, by omega⟩
      have HN := Lib.hid (show 2 ≤ n ∧ n ≤ 4096 by omega)
      have hmk : ∀ w : World, (Instr.makeSlice 32 (.int .i64 256) (.int .i64 256)).run Try.prog w = .ok (.slice (some ⟨w.heap.size, 0, none⟩) 256 256) (w.alloc (.cells (leafC (List.replicate 256 0)) 5)) := fun w => mk_bytes w 256 (by omega)
      obtain ⟨Z, hZ⟩ : ∃ Z, leafC (List.replicate 256 0) = Z := ⟨_, rfl⟩
      obtain ⟨S, hS⟩ : ∃ S : ByteArray, S = ⟨nought.toArray⟩ := ⟨_, rfl⟩
      rw [hZ] at hmk
      obtain ⟨W3, hW3⟩ : ∃ W3, ((w.alloc (.cells #[.slice none 0 0, .slice none 0 0, .int .i64 0, .int .i64 0, .bool false, .int .i64 0] 43)).alloc (.cells #[.slice none 0 0, .slice none 0 0, .int .i64 0, .int .i64 0, .bool false, .int .i64 0] 43)).alloc (.cells Z 5) = W3 := ⟨_, rfl⟩
      have hcv : (convert 32 9 (.slice (some ⟨w.heap.size + 1 + 1, 0, none⟩) 256 256)).run Try.prog W3 = .ok (.string S) W3 := by
        have hr := Row.new ((w.alloc (.cells #[.slice none 0 0, .slice none 0 0, .int .i64 0, .int .i64 0, .bool false, .int .i64 0] 43)).alloc (.cells #[.slice none 0 0, .slice none 0 0, .int .i64 0, .int .i64 0, .bool false, .int .i64 0] 43)) 5 Z
        rw [World.size_alloc, World.size_alloc, hW3] at hr
        have := conv_str W3 _ (some ⟨w.heap.size + 1 + 1, 0, none⟩) 256 nought (lies_of_row hr (by rw [← hZ, leafC_list]; rfl))
        rw [nought_length] at this
        rw [this, hS]
      have r2 : Row W3 w.heap.size 43 rkZero := by rw [← hW3]; exact ((Row.new _ _ _).alloc _).alloc _
      have r4 : Row W3 (w.heap.size + 1) 43 rkZero := by
        rw [← hW3]
        have := (Row.new (w.alloc (.cells #[.slice none 0 0, .slice none 0 0, .int .i64 0, .int .i64 0, .bool false, .int .i64 0] 43)) 43 rkZero).alloc (.cells Z 5)
        rwa [World.size_alloc] at this
      have k3 : Keeps w W3 [] := by rw [← hW3]; exact ((Keeps.alloc _ _).then_alloc _).then_alloc _
      have H3 := Lib.hid (And.intro r2 (And.intro r4 k3))
      clear r2 r4 k3
      have HS := Lib.hid hS
      clear hS hZ
      go_enter Try.func22, Try.ntmps22
      go_wp2_with fail
      clear hmk hcv hW3
      have HP := Lib.hid (show Row W3 (w.heap.size + 1) 43 #[.slice none 0 0, .slice none 0 0, .int .i64 0, .int .i64 0, .bool false, .int .i64 0] ∧ OwnN W3 W3.heap.size 9 1 txtV (.slice none 0 0) (List.replicate 0 nought) ∧ Keeps W3 W3 [w.heap.size + 1] from ⟨H3.out.2.1, OwnN.nil _ _ _ _ _, Keeps.refl _ _⟩)
      go_loopw [6] (fun i wr => ∃ (k : Nat) (A : Option Addr) (c : Nat), k ≤ n ∧ i = .int .i64 k ∧ Hid (Row wr (w.heap.size + 1) 43 #[.slice A k c, .slice none 0 0, .int .i64 0, .int .i64 0, .bool false, .int .i64 0] ∧ OwnN wr W3.heap.size 9 1 txtV (.slice A k c) (List.replicate k nought) ∧ Keeps W3 wr [w.heap.size + 1])) (fun i _ => n - (intOf i).toNat)
      case atStart => exact ⟨0, none, 0, by omega, rfl, HP⟩
      case round =>
        clear HP
        obtain ⟨k, A, c, hk, rfl, HR⟩ := hrel
        have h4 : w.heap.size + 1 < W3.heap.size := H3.out.2.1.lt
        have hsz := HR.out.2.2.size
        have hn4 := HN.out
        by_cases hkl : k < n
        · obtain ⟨Wa, hWa⟩ : ∃ Wa, wr.alloc (.cells #[.string S] 9) = Wa := ⟨_, rfl⟩
          have ra : Row Wa wr.heap.size 9 #[.string S] := by rw [← hWa]; exact Row.new _ _ _
          have ka : Keeps wr Wa [] := by rw [← hWa]; exact Keeps.alloc _ _
          have HA := Lib.hid (And.intro (HR.out.1.keeps ka) (And.intro (OwnN.keeps HR.out.2.1 ka) (And.intro ra (HR.out.2.2.trans ka (by simp)))))
          have q0 := HR.out.1
          have y0 := q0.cell 0
          have y1 := q0.cell 1
          have y2 := q0.cell 2
          have y3 := q0.cell 3
          have y4 := q0.cell 4
          have y5 := q0.cell 5
          simp only [List.getElem?_toArray, List.getElem?_cons_zero, List.getElem?_cons_succ] at y0 y1 y2 y3 y4 y5
          have hLa : Lies Wa Wa.heap.size (some ⟨wr.heap.size, 0, none⟩) ([nought].flatMap txtV) := lies_of_row ra (by rw [HS.out]; rfl)
          have HLa := Lib.hid hLa
          clear q0 ra ka hLa
          go_wp2_with (at_builtin; refine wpList_append_N elemTxt encTxt rfl (.tmp 23) (.tmp 25) rfl W3.heap.size (.slice A k c) (some ⟨wr.heap.size, 0, none⟩) 1 1 (List.replicate k nought) [nought] rfl rfl rfl HA.out.2.1 HLa.out (by simp; omega) HA.out.2.2.2.size ?_; intro A5 c5 w5 l5 hl5 hlen5 ho5 hk5 _; have hfar : ∀ g ∈ (Value.slice A k c).ownBlock.toList, W3.heap.size ≤ g := (fun g hg => (OwnN.rows HA.out.2.1 g hg).1); have q5 := HA.out.1.keep hk5 (fun hm => by have := hfar _ hm; omega); have z5 := q5.frozen 0; have x5 := q5.cell 0; simp only [List.getElem?_toArray, List.getElem?_cons_zero] at x5; have hl5' : l5 = List.replicate (k + 1) nought := (by rw [hl5.out, List.replicate_succ']); have H5 := Lib.hid (And.intro hl5' (And.intro ho5 (And.intro q5 (HA.out.2.2.2.trans hk5 (fun y hy hlt => absurd (hfar y hy) (by omega)))))); clear hl5 ho5 hk5 hfar q5 hl5')
          have hll : l5.length = k + 1 := by rw [H5.out.1, List.length_replicate]
          have hrow := H5.out.2.2.1.store 0 (.slice A5 l5.length c5)
          have e5 := H5.out.1
          refine ⟨⟨k + 1, A5, c5, by omega, by go_num, Lib.hid ⟨?_, ?_, H5.out.2.2.2.trans (Keeps.setCell _ _ _) (fun y hy hlt => hy)⟩⟩, by simp [intOf]; omega⟩
          · rw [← hll]
            simpa using hrow
          · rw [← e5, ← hll]
            exact OwnN.keep H5.out.2.1 (Keeps.setCell _ _ _) (fun x hx => .inl (by obtain rfl := List.mem_singleton.1 hx; exact h4))
        · obtain rfl : k = n := by omega
          have q0 := HR.out.1
          have q1 := H3.out.1.keep HR.out.2.2 (by simp)
          have y0 := q0.cell 0
          have y1 := q0.cell 1
          have y2 := q0.cell 2
          have y3 := q0.cell 3
          have y4 := q0.cell 4
          have y5 := q0.cell 5
          simp only [List.getElem?_toArray, List.getElem?_cons_zero, List.getElem?_cons_succ] at y0 y1 y2 y3 y4 y5
          have x0 := q1.cell 0
          have x1 := q1.cell 1
          have x2 := q1.cell 2
          have x3 := q1.cell 3
          have x4 := q1.cell 4
          have x5 := q1.cell 5
          simp only [List.getElem?_toArray, List.getElem?_cons_zero, List.getElem?_cons_succ] at x0 x1 x2 x3 x4 x5
          have u0 := q1.frozen 0
          have u1 := q1.frozen 1
          have u2 := q1.frozen 2
          have u3 := q1.frozen 3
          have u4 := q1.frozen 4
          have u5 := q1.frozen 5
          have HQ := Lib.hid (And.intro q0 q1)
          clear q0 q1
          go_wp2_with fail
          obtain ⟨p1, p2⟩ := rk_put HQ.out.2 (.slice A k c) (.slice none 0 0) (.int .i64 0) (.int .i64 0) (.bool false) (.int .i64 0)
          refine new_door _ _ _ _ _ _ _ _ _ _ rfl rfl p1 _ ?_
          unfold RkMade
          rw [if_pos (by omega), Int.toNat_natCast]
          refine ⟨_, rfl, ⟨A, c, none, 0, by simp [Rk.fresh], ?_, ListAt.nil _ _ _ _ _⟩, (H3.out.2.2.trans HR.out.2.2 (fun y hy hlt => by simp at hy; omega)).trans p2 (fun y hy hlt => by simp at hy; omega)⟩
          have ho := HR.out.2.1
          have hkk : k = (List.replicate k nought).length := by simp
          have ho2 : OwnN wr W3.heap.size 9 1 txtV (.slice A (List.replicate k nought).length c) (List.replicate k nought) := by rw [← hkk]; exact ho
          exact (OwnN.at_ ho2 encTxt).box p2 HQ.out.2 (by decide)
end Go.Proofs.Ytehlabdbbbbopaa
