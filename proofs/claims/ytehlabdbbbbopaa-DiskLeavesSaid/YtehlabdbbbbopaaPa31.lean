/- The reference of layer 2: what lies in memory; step, Arm. -/
import Derived.Test.YtehlabdbbbbopaaPa30
import Derived.Test.YtehlabdbbbbopaaPa13
import Derived.Test.YtehlabdbbbbopaaPa25

namespace Go.Proofs.Ytehlabdbbbbopaa
open Go.RowKit Go.Maps Go.Shelf

/-- A write that waits, in the reference. -/
def waitV (p : Int × List UInt8) : List Value := [.int .i64 p.1, .string ⟨p.2.toArray⟩]
theorem encWait : Enc 2 waitV := ⟨by omega, fun _ => rfl, fun a u hu => by
  rcases List.mem_cons.1 hu with rfl | hu
  · rfl
  · obtain rfl := List.mem_singleton.1 hu; rfl⟩
theorem elemTxt : ElemN Try.prog 40 9 1 := elemN_of (bytes := 16) (z := .string ⟨#[]⟩) (by kernel_rfl) (by kernel_rfl) (by omega) rfl
theorem elemWait : ElemN Try.prog 41 60 2 := elemN_of (bytes := 24) (z := .agg #[.int .i64 0, .string ⟨#[]⟩]) (by kernel_rfl) (by kernel_rfl) (by omega) rfl
/-- The reference's disk in plain words. -/
structure Rk where
  lasts : List (List UInt8)
  waits : List (Int × List UInt8)
  kind : Int
  left : Int
  dead : Bool
  steps : Int
structure RkAt (w : World) (g : Value) (R : Rk) : Prop where
  e : ∃ A c B d, g = .agg #[.slice A R.lasts.length c, .slice B R.waits.length d, .int .i64 R.kind, .int .i64 R.left, .bool R.dead, .int .i64 R.steps] ∧ ListAt w 9 1 txtV A R.lasts ∧ ListAt w 60 2 waitV B R.waits
section
variable {w w' : World} {g : Value} {R : Rk}
theorem RkAt.keep {S : List Nat} (h : RkAt w g R) (hk : Keeps w w' S) (hS : ∀ x ∈ S, ∃ t cs, Row w x t cs ∧ 9 ≠ t ∧ 60 ≠ t) : RkAt w' g R := by
  obtain ⟨A, c, B, d, e, h1, h2⟩ := h.e
  refine ⟨A, c, B, d, e, h1.keep hk fun x hx cs hr => ?_, h2.keep hk fun x hx cs hr => ?_⟩
  · obtain ⟨t, cs', hr', n1, n2⟩ := hS x hx
    exact Row.ne_type hr hr' n1 rfl
  · obtain ⟨t, cs', hr', n1, n2⟩ := hS x hx
    exact Row.ne_type hr hr' n2 rfl
theorem RkAt.keeps (h : RkAt w g R) (hk : Keeps w w' []) : RkAt w' g R := h.keep hk (by simp)
theorem RkAt.rows {s : Nat} {cs : Array Value} (h : RkAt w g R) (ha : RowsBut s w w') (hs : Row w s 67 cs) : RkAt w' g R := by
  obtain ⟨A, c, B, d, e, h1, h2⟩ := h.e
  exact ⟨A, c, B, d, e, h1.rows ha hs (by decide), h2.rows ha hs (by decide)⟩
end
/-- What a step answers. -/
def Rk.code (R : Rk) : Nat := if R.dead = true then 120 else if R.kind = 0 then 0 else if R.left = 0 then (if R.kind = 1 then 120 else 121) else 0
def Rk.stepped (R : Rk) : Rk := if R.dead = true then R else if R.kind ≠ 0 ∧ R.left = 0 then { R with kind := 0, dead := R.kind == 1 } else { R with left := if R.kind = 0 then R.left else RowKit.wrap64 (R.left - 1), steps := RowKit.wrap64 (R.steps + 1) }
def Rk.arm (R : Rk) (kind steps : Int) : Nat × Rk :=
  if kind < 0 ∨ 2 < kind ∨ (kind = 0 ∧ 0 ≤ steps) then (2, R) else if R.dead = true then (120, R) else (0, { R with kind := if steps < 0 then 0 else kind, left := steps })
theorem step_door (W : World) (t : Array Value) (b : Nat) (x0 x1 x2 x3 x4 x5 y : Value) (h : t.getD 2 undef = .pointer (some ⟨b, 0, none⟩)) (h2 : t.getD 3 undef = y) (r : Row W b 43 #[x0, x1, x2, x3, x4, x5]) (R : Ending → World → Prop) (hR : R (.returned (.tuple #[.agg #[x0, x1, x2, x3, x4, x5], y])) W) :
    bodyPost Try.prog Try.f44 R Exit.ret { tmps := t, defers := [] } W := by
  have c0 := r.cell 0
  have c1 := r.cell 1
  have c2 := r.cell 2
  have c3 := r.cell 3
  have c4 := r.cell 4
  have c5 := r.cell 5
  rw [Array.getD_eq_getD_getElem?] at h h2
  simp at c0 c1 c2 c3 c4 c5
  refine bodyPost_ret (v := .tuple #[.agg #[x0, x1, x2, x3, x4, x5], y]) ?_ rfl hR
  simp [results, Try.results44, go_sem, h, h2, c0, c1, c2, c3, c4, c5]
theorem write_door (W : World) (t : Array Value) (b : Nat) (x0 x1 x2 x3 x4 x5 y : Value) (h : t.getD 6 undef = .pointer (some ⟨b, 0, none⟩)) (h2 : t.getD 7 undef = y) (r : Row W b 43 #[x0, x1, x2, x3, x4, x5]) (R : Ending → World → Prop) (hR : R (.returned (.tuple #[.agg #[x0, x1, x2, x3, x4, x5], y])) W) :
    bodyPost Try.prog Try.f34 R Exit.ret { tmps := t, defers := [] } W := by
  have c0 := r.cell 0
  have c1 := r.cell 1
  have c2 := r.cell 2
  have c3 := r.cell 3
  have c4 := r.cell 4
  have c5 := r.cell 5
  rw [Array.getD_eq_getD_getElem?] at h h2
  simp at c0 c1 c2 c3 c4 c5
  refine bodyPost_ret (v := .tuple #[.agg #[x0, x1, x2, x3, x4, x5], y]) ?_ rfl hR
  simp [results, Try.results34, go_sem, h, h2, c0, c1, c2, c3, c4, c5]
theorem flush_door (W : World) (t : Array Value) (b : Nat) (x0 x1 x2 x3 x4 x5 y : Value) (h : t.getD 2 undef = .pointer (some ⟨b, 0, none⟩)) (h2 : t.getD 3 undef = y) (r : Row W b 43 #[x0, x1, x2, x3, x4, x5]) (R : Ending → World → Prop) (hR : R (.returned (.tuple #[.agg #[x0, x1, x2, x3, x4, x5], y])) W) :
    bodyPost Try.prog Try.f35 R Exit.ret { tmps := t, defers := [] } W := by
  have c0 := r.cell 0
  have c1 := r.cell 1
  have c2 := r.cell 2
  have c3 := r.cell 3
  have c4 := r.cell 4
  have c5 := r.cell 5
  rw [Array.getD_eq_getD_getElem?] at h h2
  simp at c0 c1 c2 c3 c4 c5
  refine bodyPost_ret (v := .tuple #[.agg #[x0, x1, x2, x3, x4, x5], y]) ?_ rfl hR
  simp [results, Try.results35, go_sem, h, h2, c0, c1, c2, c3, c4, c5]
theorem arm_door (W : World) (t : Array Value) (b : Nat) (x0 x1 x2 x3 x4 x5 y : Value) (h : t.getD 6 undef = .pointer (some ⟨b, 0, none⟩)) (h2 : t.getD 7 undef = y) (r : Row W b 43 #[x0, x1, x2, x3, x4, x5]) (R : Ending → World → Prop) (hR : R (.returned (.tuple #[.agg #[x0, x1, x2, x3, x4, x5], y])) W) :
    bodyPost Try.prog Try.f36 R Exit.ret { tmps := t, defers := [] } W := by
  have c0 := r.cell 0
  have c1 := r.cell 1
  have c2 := r.cell 2
  have c3 := r.cell 3
  have c4 := r.cell 4
  have c5 := r.cell 5
  rw [Array.getD_eq_getD_getElem?] at h h2
  simp at c0 c1 c2 c3 c4 c5
  refine bodyPost_ret (v := .tuple #[.agg #[x0, x1, x2, x3, x4, x5], y]) ?_ rfl hR
  simp [results, Try.results36, go_sem, h, h2, c0, c1, c2, c3, c4, c5]
abbrev rkRow (R : Rk) (A : Option Addr) (c : Nat) (B : Option Addr) (d : Nat) : Array Value := #[.slice A R.lasts.length c, .slice B R.waits.length d, .int .i64 R.kind, .int .i64 R.left, .bool R.dead, .int .i64 R.steps]
abbrev rkZero : Array Value := #[.slice none 0 0, .slice none 0 0, .int .i64 0, .int .i64 0, .bool false, .int .i64 0]
theorem rk_box (w : World) {g : Value} {R : Rk} (h : RkAt w g R) (X Y : Array Value) : Row ((w.alloc (.cells X 43)).alloc (.cells Y 43)) (w.heap.size + 1) 43 Y ∧ RkAt ((w.alloc (.cells X 43)).alloc (.cells Y 43)) g R ∧ Keeps w ((w.alloc (.cells X 43)).alloc (.cells Y 43)) [] := by
  have k := (Keeps.alloc w (.cells X 43)).then_alloc (.cells Y 43)
  have r := Row.new (w.alloc (.cells X 43)) 43 Y
  rw [World.size_alloc] at r
  exact ⟨r, h.keeps k, k⟩
/-- The same lists behind other numbers. -/
theorem rkAt_of {w w' : World} {lasts : List (List UInt8)} {waits : List (Int × List UInt8)} {A B : Option Addr} {c d : Nat} (h : ListAt w 9 1 txtV A lasts ∧ ListAt w 60 2 waitV B waits) (hk : Keeps w w' []) {kind left steps : Int} {dead : Bool} :
    RkAt w' (.agg #[.slice A lasts.length c, .slice B waits.length d, .int .i64 kind, .int .i64 left, .bool dead, .int .i64 steps]) ⟨lasts, waits, kind, left, dead, steps⟩ :=
  ⟨A, c, B, d, rfl, h.1.keeps hk, h.2.keeps hk⟩
set_option maxRecDepth 100000 in
theorem refStep_any (w : World) (g : Value) (R : Rk) (h : RkAt w g R) :
    Calls Try.prog 44 #[g] w fun e w' => ∃ g', e = .returned (.tuple #[g', .int .i64 (R.code : Nat)]) ∧ RkAt w' g' R.stepped ∧ Keeps w w' [] := by
  obtain ⟨lasts, waits, kind, left, dead, steps⟩ := R
  obtain ⟨A, c, B, d, rfl, hA, hB⟩ := h.e
  simp only at hA hB
  have HH := Lib.hid (And.intro hA hB)
  clear hA hB h
  cases dead with
  | true =>
    have HC := Lib.hid (show (Rk.mk lasts waits kind left true steps).code = 120 ∧ (Rk.mk lasts waits kind left true steps).stepped = ⟨lasts, waits, kind, left, true, steps⟩ from ⟨by simp [Rk.code], by simp [Rk.stepped]⟩)
    go_enter Try.func44, Try.ntmps44
    go_wp2_with fail
    have k := (Keeps.alloc w (.cells (#[.slice A lasts.length c, .slice B waits.length d, .int .i64 kind, .int .i64 left, .bool true, .int .i64 steps]) 43)).then_alloc (.cells (#[.slice A lasts.length c, .slice B waits.length d, .int .i64 kind, .int .i64 left, .bool true, .int .i64 steps]) 43)
    have r := Row.new (w.alloc (.cells (#[.slice A lasts.length c, .slice B waits.length d, .int .i64 kind, .int .i64 left, .bool true, .int .i64 steps]) 43)) 43 (#[.slice A lasts.length c, .slice B waits.length d, .int .i64 kind, .int .i64 left, .bool true, .int .i64 steps])
    rw [World.size_alloc] at r
    refine step_door _ _ _ _ _ _ _ _ _ _ rfl rfl r _ ⟨_, by rw [HC.out.1]; rfl, ?_, k⟩
    rw [HC.out.2]
    exact rkAt_of HH.out k
  | false =>
    by_cases hk0 : kind = 0
    · subst hk0
      have HC := Lib.hid (show (Rk.mk lasts waits 0 left false steps).code = 0 ∧ (Rk.mk lasts waits 0 left false steps).stepped = ⟨lasts, waits, 0, left, false, RowKit.wrap64 (steps + 1)⟩ from ⟨by simp [Rk.code], by simp [Rk.stepped]⟩)
      go_enter Try.func44, Try.ntmps44
      go_wp2_with fail
      have k := (Keeps.alloc w (.cells (#[.slice A lasts.length c, .slice B waits.length d, .int .i64 0, .int .i64 left, .bool false, .int .i64 (RowKit.wrap64 (steps + 1))]) 43)).then_alloc (.cells (#[.slice A lasts.length c, .slice B waits.length d, .int .i64 0, .int .i64 left, .bool false, .int .i64 (RowKit.wrap64 (steps + 1))]) 43)
      have r := Row.new (w.alloc (.cells (#[.slice A lasts.length c, .slice B waits.length d, .int .i64 0, .int .i64 left, .bool false, .int .i64 (RowKit.wrap64 (steps + 1))]) 43)) 43 (#[.slice A lasts.length c, .slice B waits.length d, .int .i64 0, .int .i64 left, .bool false, .int .i64 (RowKit.wrap64 (steps + 1))])
      rw [World.size_alloc] at r
      refine step_door _ _ _ _ _ _ _ _ _ _ rfl rfl r _ ⟨_, by rw [HC.out.1]; rfl, ?_, k⟩
      rw [HC.out.2]
      exact rkAt_of HH.out k
    · have hk0' : (kind != 0) = true := by simpa using hk0
      by_cases hl0 : left = 0
      · subst hl0
        by_cases hk1 : kind = 1
        · subst hk1
          have HC := Lib.hid (show (Rk.mk lasts waits 1 0 false steps).code = 120 ∧ (Rk.mk lasts waits 1 0 false steps).stepped = ⟨lasts, waits, 0, 0, true, steps⟩ from ⟨by simp [Rk.code], by simp [Rk.stepped]⟩)
          go_enter Try.func44, Try.ntmps44
          go_wp2_with fail
          have k := (Keeps.alloc w (.cells (#[.slice A lasts.length c, .slice B waits.length d, .int .i64 0, .int .i64 0, .bool true, .int .i64 steps]) 43)).then_alloc (.cells (#[.slice A lasts.length c, .slice B waits.length d, .int .i64 0, .int .i64 0, .bool true, .int .i64 steps]) 43)
          have r := Row.new (w.alloc (.cells (#[.slice A lasts.length c, .slice B waits.length d, .int .i64 0, .int .i64 0, .bool true, .int .i64 steps]) 43)) 43 (#[.slice A lasts.length c, .slice B waits.length d, .int .i64 0, .int .i64 0, .bool true, .int .i64 steps])
          rw [World.size_alloc] at r
          refine step_door _ _ _ _ _ _ _ _ _ _ rfl rfl r _ ⟨_, by rw [HC.out.1]; rfl, ?_, k⟩
          rw [HC.out.2]
          exact rkAt_of HH.out k
        · have hk1' : (kind == 1) = false := by simpa using hk1
          have HC := Lib.hid (show (Rk.mk lasts waits kind 0 false steps).code = 121 ∧ (Rk.mk lasts waits kind 0 false steps).stepped = ⟨lasts, waits, 0, 0, false, steps⟩ from ⟨by simp [Rk.code, hk0, hk1], by simp [Rk.stepped, hk0, hk1]⟩)
          go_enter Try.func44, Try.ntmps44
          go_wp2_with fail
          have k := (Keeps.alloc w (.cells (#[.slice A lasts.length c, .slice B waits.length d, .int .i64 0, .int .i64 0, .bool false, .int .i64 steps]) 43)).then_alloc (.cells (#[.slice A lasts.length c, .slice B waits.length d, .int .i64 0, .int .i64 0, .bool false, .int .i64 steps]) 43)
          have r := Row.new (w.alloc (.cells (#[.slice A lasts.length c, .slice B waits.length d, .int .i64 0, .int .i64 0, .bool false, .int .i64 steps]) 43)) 43 (#[.slice A lasts.length c, .slice B waits.length d, .int .i64 0, .int .i64 0, .bool false, .int .i64 steps])
          rw [World.size_alloc] at r
          refine step_door _ _ _ _ _ _ _ _ _ _ rfl rfl r _ ⟨_, by rw [HC.out.1]; rfl, ?_, k⟩
          rw [HC.out.2]
          exact rkAt_of HH.out k
      · have hl0' : (left == 0) = false := by simpa using hl0
        have HC := Lib.hid (show (Rk.mk lasts waits kind left false steps).code = 0 ∧ (Rk.mk lasts waits kind left false steps).stepped = ⟨lasts, waits, kind, RowKit.wrap64 (left - 1), false, RowKit.wrap64 (steps + 1)⟩ from ⟨by simp [Rk.code, hk0, hl0], by simp [Rk.stepped, hk0, hl0]⟩)
        go_enter Try.func44, Try.ntmps44
        go_wp2_with fail
        have k := (Keeps.alloc w (.cells (#[.slice A lasts.length c, .slice B waits.length d, .int .i64 kind, .int .i64 (RowKit.wrap64 (left - 1)), .bool false, .int .i64 (RowKit.wrap64 (steps + 1))]) 43)).then_alloc (.cells (#[.slice A lasts.length c, .slice B waits.length d, .int .i64 kind, .int .i64 (RowKit.wrap64 (left - 1)), .bool false, .int .i64 (RowKit.wrap64 (steps + 1))]) 43)
        have r := Row.new (w.alloc (.cells (#[.slice A lasts.length c, .slice B waits.length d, .int .i64 kind, .int .i64 (RowKit.wrap64 (left - 1)), .bool false, .int .i64 (RowKit.wrap64 (steps + 1))]) 43)) 43 (#[.slice A lasts.length c, .slice B waits.length d, .int .i64 kind, .int .i64 (RowKit.wrap64 (left - 1)), .bool false, .int .i64 (RowKit.wrap64 (steps + 1))])
        rw [World.size_alloc] at r
        refine step_door _ _ _ _ _ _ _ _ _ _ rfl rfl r _ ⟨_, by rw [HC.out.1]; rfl, ?_, k⟩
        rw [HC.out.2]
        exact rkAt_of HH.out k
set_option maxRecDepth 100000 in
theorem refArm_any (w : World) (g : Value) (R : Rk) (h : RkAt w g R) (k s : Int) :
    Calls Try.prog 36 #[g, .int .i64 k, .int .i64 s] w fun e w' => ∃ g', e = .returned (.tuple #[g', .int .i64 ((R.arm k s).1 : Nat)]) ∧ RkAt w' g' (R.arm k s).2 ∧ Keeps w w' [] := by
  obtain ⟨lasts, waits, kind, left, dead, steps⟩ := R
  obtain ⟨A, c, B, d, rfl, hA, hB⟩ := h.e
  simp only at hA hB
  have HH := Lib.hid (And.intro hA hB)
  clear hA hB h
  by_cases h1 : k < 0
  · have HC := Lib.hid (show (Rk.mk lasts waits kind left dead steps).arm k s = (2, ⟨lasts, waits, kind, left, dead, steps⟩) by unfold Rk.arm; rw [if_pos (.inl h1)])
    go_enter Try.func36, Try.ntmps36
    go_wp2_with fail
    have kk := (Keeps.alloc w (.cells (#[.slice A lasts.length c, .slice B waits.length d, .int .i64 kind, .int .i64 left, .bool dead, .int .i64 steps]) 43)).then_alloc (.cells (#[.slice A lasts.length c, .slice B waits.length d, .int .i64 kind, .int .i64 left, .bool dead, .int .i64 steps]) 43)
    have r := Row.new (w.alloc (.cells (#[.slice A lasts.length c, .slice B waits.length d, .int .i64 kind, .int .i64 left, .bool dead, .int .i64 steps]) 43)) 43 (#[.slice A lasts.length c, .slice B waits.length d, .int .i64 kind, .int .i64 left, .bool dead, .int .i64 steps])
    rw [World.size_alloc] at r
    refine arm_door _ _ _ _ _ _ _ _ _ _ rfl rfl r _ ⟨_, by rw [HC.out]; rfl, ?_, kk⟩
    rw [HC.out]
    exact rkAt_of HH.out kk
  · by_cases h2 : 2 < k
    · have HC := Lib.hid (show (Rk.mk lasts waits kind left dead steps).arm k s = (2, ⟨lasts, waits, kind, left, dead, steps⟩) by unfold Rk.arm; rw [if_pos (.inr (.inl h2))])
      go_enter Try.func36, Try.ntmps36
      go_wp2_with fail
      have kk := (Keeps.alloc w (.cells (#[.slice A lasts.length c, .slice B waits.length d, .int .i64 kind, .int .i64 left, .bool dead, .int .i64 steps]) 43)).then_alloc (.cells (#[.slice A lasts.length c, .slice B waits.length d, .int .i64 kind, .int .i64 left, .bool dead, .int .i64 steps]) 43)
      have r := Row.new (w.alloc (.cells (#[.slice A lasts.length c, .slice B waits.length d, .int .i64 kind, .int .i64 left, .bool dead, .int .i64 steps]) 43)) 43 (#[.slice A lasts.length c, .slice B waits.length d, .int .i64 kind, .int .i64 left, .bool dead, .int .i64 steps])
      rw [World.size_alloc] at r
      refine arm_door _ _ _ _ _ _ _ _ _ _ rfl rfl r _ ⟨_, by rw [HC.out]; rfl, ?_, kk⟩
      rw [HC.out]
      exact rkAt_of HH.out kk
    · by_cases h3 : k = 0 ∧ 0 ≤ s
      · have HC := Lib.hid (show (Rk.mk lasts waits kind left dead steps).arm k s = (2, ⟨lasts, waits, kind, left, dead, steps⟩) by unfold Rk.arm; rw [if_pos (.inr (.inr h3))])
        obtain ⟨rfl, h3⟩ := h3
        go_enter Try.func36, Try.ntmps36
        go_wp2_with fail
        have kk := (Keeps.alloc w (.cells (#[.slice A lasts.length c, .slice B waits.length d, .int .i64 kind, .int .i64 left, .bool dead, .int .i64 steps]) 43)).then_alloc (.cells (#[.slice A lasts.length c, .slice B waits.length d, .int .i64 kind, .int .i64 left, .bool dead, .int .i64 steps]) 43)
        have r := Row.new (w.alloc (.cells (#[.slice A lasts.length c, .slice B waits.length d, .int .i64 kind, .int .i64 left, .bool dead, .int .i64 steps]) 43)) 43 (#[.slice A lasts.length c, .slice B waits.length d, .int .i64 kind, .int .i64 left, .bool dead, .int .i64 steps])
        rw [World.size_alloc] at r
        refine arm_door _ _ _ _ _ _ _ _ _ _ rfl rfl r _ ⟨_, by rw [HC.out]; rfl, ?_, kk⟩
        rw [HC.out]
        exact rkAt_of HH.out kk
      · have hb : (k == 0 && decide (0 ≤ s)) = false := by
          rw [Bool.eq_false_iff]
          intro e
          simp at e
          exact h3 e
        cases dead with
        | true =>
          have HC := Lib.hid (show (Rk.mk lasts waits kind left true steps).arm k s = (120, ⟨lasts, waits, kind, left, true, steps⟩) by unfold Rk.arm; rw [if_neg (by omega), if_pos rfl])
          by_cases hk : k = 0
          · have h4 : ¬ 0 ≤ s := fun h => h3 ⟨hk, h⟩
            subst hk
            clear h3 hb
            go_enter Try.func36, Try.ntmps36
            go_wp2_with fail
            have kk := (Keeps.alloc w (.cells (#[.slice A lasts.length c, .slice B waits.length d, .int .i64 kind, .int .i64 left, .bool true, .int .i64 steps]) 43)).then_alloc (.cells (#[.slice A lasts.length c, .slice B waits.length d, .int .i64 kind, .int .i64 left, .bool true, .int .i64 steps]) 43)
            have r := Row.new (w.alloc (.cells (#[.slice A lasts.length c, .slice B waits.length d, .int .i64 kind, .int .i64 left, .bool true, .int .i64 steps]) 43)) 43 (#[.slice A lasts.length c, .slice B waits.length d, .int .i64 kind, .int .i64 left, .bool true, .int .i64 steps])
            rw [World.size_alloc] at r
            refine arm_door _ _ _ _ _ _ _ _ _ _ rfl rfl r _ ⟨_, by rw [HC.out]; rfl, ?_, kk⟩
            rw [HC.out]
            exact rkAt_of HH.out kk
          · have hk' : (k == 0) = false := by simpa using hk
            clear h3 hb
            go_enter Try.func36, Try.ntmps36
            go_wp2_with fail
            have kk := (Keeps.alloc w (.cells (#[.slice A lasts.length c, .slice B waits.length d, .int .i64 kind, .int .i64 left, .bool true, .int .i64 steps]) 43)).then_alloc (.cells (#[.slice A lasts.length c, .slice B waits.length d, .int .i64 kind, .int .i64 left, .bool true, .int .i64 steps]) 43)
            have r := Row.new (w.alloc (.cells (#[.slice A lasts.length c, .slice B waits.length d, .int .i64 kind, .int .i64 left, .bool true, .int .i64 steps]) 43)) 43 (#[.slice A lasts.length c, .slice B waits.length d, .int .i64 kind, .int .i64 left, .bool true, .int .i64 steps])
            rw [World.size_alloc] at r
            refine arm_door _ _ _ _ _ _ _ _ _ _ rfl rfl r _ ⟨_, by rw [HC.out]; rfl, ?_, kk⟩
            rw [HC.out]
            exact rkAt_of HH.out kk
        | false =>
          by_cases hs0 : s < 0
          · have HC := Lib.hid (show (Rk.mk lasts waits kind left false steps).arm k s = (0, ⟨lasts, waits, 0, s, false, steps⟩) by unfold Rk.arm; rw [if_neg (by omega), if_neg (by simp), if_pos hs0])
            by_cases hk : k = 0
            · have h4 : ¬ 0 ≤ s := fun h => h3 ⟨hk, h⟩
              subst hk
              clear h3 hb
              go_enter Try.func36, Try.ntmps36
              go_wp2_with fail
              have kk := (Keeps.alloc w (.cells (#[.slice A lasts.length c, .slice B waits.length d, .int .i64 0, .int .i64 s, .bool false, .int .i64 steps]) 43)).then_alloc (.cells (#[.slice A lasts.length c, .slice B waits.length d, .int .i64 0, .int .i64 s, .bool false, .int .i64 steps]) 43)
              have r := Row.new (w.alloc (.cells (#[.slice A lasts.length c, .slice B waits.length d, .int .i64 0, .int .i64 s, .bool false, .int .i64 steps]) 43)) 43 (#[.slice A lasts.length c, .slice B waits.length d, .int .i64 0, .int .i64 s, .bool false, .int .i64 steps])
              rw [World.size_alloc] at r
              refine arm_door _ _ _ _ _ _ _ _ _ _ rfl rfl r _ ⟨_, by rw [HC.out]; rfl, ?_, kk⟩
              rw [HC.out]
              exact rkAt_of HH.out kk
            · have hk' : (k == 0) = false := by simpa using hk
              clear h3 hb
              go_enter Try.func36, Try.ntmps36
              go_wp2_with fail
              have kk := (Keeps.alloc w (.cells (#[.slice A lasts.length c, .slice B waits.length d, .int .i64 0, .int .i64 s, .bool false, .int .i64 steps]) 43)).then_alloc (.cells (#[.slice A lasts.length c, .slice B waits.length d, .int .i64 0, .int .i64 s, .bool false, .int .i64 steps]) 43)
              have r := Row.new (w.alloc (.cells (#[.slice A lasts.length c, .slice B waits.length d, .int .i64 0, .int .i64 s, .bool false, .int .i64 steps]) 43)) 43 (#[.slice A lasts.length c, .slice B waits.length d, .int .i64 0, .int .i64 s, .bool false, .int .i64 steps])
              rw [World.size_alloc] at r
              refine arm_door _ _ _ _ _ _ _ _ _ _ rfl rfl r _ ⟨_, by rw [HC.out]; rfl, ?_, kk⟩
              rw [HC.out]
              exact rkAt_of HH.out kk
          · have HC := Lib.hid (show (Rk.mk lasts waits kind left false steps).arm k s = (0, ⟨lasts, waits, k, s, false, steps⟩) by unfold Rk.arm; rw [if_neg (by omega), if_neg (by simp), if_neg hs0])
            have hk' : (k == 0) = false := by
              have : ¬ k = 0 := fun h => h3 ⟨h, by omega⟩
              simpa using this
            clear h3 hb
            go_enter Try.func36, Try.ntmps36
            go_wp2_with fail
            have kk := (Keeps.alloc w (.cells (#[.slice A lasts.length c, .slice B waits.length d, .int .i64 k, .int .i64 s, .bool false, .int .i64 steps]) 43)).then_alloc (.cells (#[.slice A lasts.length c, .slice B waits.length d, .int .i64 k, .int .i64 s, .bool false, .int .i64 steps]) 43)
            have r := Row.new (w.alloc (.cells (#[.slice A lasts.length c, .slice B waits.length d, .int .i64 k, .int .i64 s, .bool false, .int .i64 steps]) 43)) 43 (#[.slice A lasts.length c, .slice B waits.length d, .int .i64 k, .int .i64 s, .bool false, .int .i64 steps])
            rw [World.size_alloc] at r
            refine arm_door _ _ _ _ _ _ _ _ _ _ rfl rfl r _ ⟨_, by rw [HC.out]; rfl, ?_, kk⟩
            rw [HC.out]
            exact rkAt_of HH.out kk
end Go.Proofs.Ytehlabdbbbbopaa
