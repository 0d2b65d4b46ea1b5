/- The statement DiskArmed (layer 2): its walk. -/
import Derived.Test.YtehlabdbbbbopaaPa28
import Derived.Test.YtehlabdbbbbopaaPa3

namespace Go.Proofs.Ytehlabdbbbbopaa
open Go.RowKit Go.Maps Go.Shelf

/-- An armed disk behind some tries. -/
structure ArmSt (stop : Bool) (s i : Nat) (D : Dk) : Prop where
  p : D.pages = 4
  w : D.waits.length ≤ i
  a : i ≤ s → D.kind = (if stop then 1 else 2) ∧ D.left = (s : Int) - i ∧ D.dead = false ∧ D.steps = i
  b : s < i → D.kind = 0 ∧ D.dead = stop ∧ D.steps = (if stop then (s : Int) else (i : Int) - 1)
def armWant (stop : Bool) (s i : Nat) : Nat := if stop then (if s ≤ i then 120 else 0) else (if i = s then 121 else 0)
theorem ArmSt.code {stop : Bool} {s i : Nat} {D : Dk} (h : ArmSt stop s i D) : D.code = armWant stop s i := by
  unfold Dk.code armWant
  rcases Nat.lt_trichotomy i s with hi | hi | hi
  · obtain ⟨h1, h2, h3, h4⟩ := h.a (by omega)
    rw [h1, h2, h3]
    have e1 : ¬ (s : Int) - i = 0 := by omega
    have e2 : ¬ s ≤ i := by omega
    have e3 : ¬ i = s := by omega
    cases stop <;> simp [e1, e2, e3]
  · obtain ⟨h1, h2, h3, h4⟩ := h.a (by omega)
    rw [h1, h2, h3]
    subst hi
    cases stop <;> simp
  · obtain ⟨h1, h2, h3⟩ := h.b hi
    rw [h1, h2]
    cases stop <;> simp <;> omega
theorem ArmSt.no {stop : Bool} {s i : Nat} {D : Dk} (h : ArmSt stop s i D) (hc : D.code ≠ 0) : ArmSt stop s (i + 1) D.refused := by
  have hp := h.p
  have hw := h.w
  rw [h.code] at hc
  unfold armWant at hc
  unfold Dk.refused
  rcases Nat.lt_trichotomy i s with hi | hi | hi
  · exfalso
    cases stop <;> simp at hc <;> omega
  · obtain ⟨h1, h2, h3, h4⟩ := h.a (by omega)
    rw [h3, if_neg (by decide)]
    refine ⟨hp, by show D.waits.length ≤ i + 1; omega, fun h => by omega, fun _ => ⟨rfl, ?_, ?_⟩⟩
    · show (D.kind == 1) = stop
      rw [h1]
      cases stop <;> rfl
    · show D.steps = _
      rw [h4]
      subst hi
      cases stop <;> simp
  · obtain ⟨h1, h2, h3⟩ := h.b hi
    cases stop
    · simp at hc; omega
    · rw [h2, if_pos rfl]
      exact ⟨hp, by omega, fun h => by omega, fun _ => ⟨h1, h2, by rw [h3]; rfl⟩⟩
theorem ArmSt.yes {stop : Bool} {s i : Nat} {D D' : Dk} (h : ArmSt stop s i D) (hs : i ≤ 1000) (hc : D.code = 0) (e1 : D'.pages = D.ticked.pages) (e2 : D'.waits.length ≤ D.ticked.waits.length + 1) (e3 : D'.kind = D.ticked.kind) (e4 : D'.left = D.ticked.left) (e5 : D'.dead = D.ticked.dead) (e6 : D'.steps = D.ticked.steps) : ArmSt stop s (i + 1) D'.counted := by
  have hp := h.p
  have hw := h.w
  rw [h.code] at hc
  unfold armWant at hc
  have t1 : D.ticked.waits = D.waits ∧ D.ticked.pages = D.pages ∧ D.ticked.kind = D.kind ∧ D.ticked.dead = D.dead ∧ D.ticked.steps = D.steps := by
    unfold Dk.ticked
    split <;> exact ⟨rfl, rfl, rfl, rfl, rfl⟩
  obtain ⟨t1, t2, t3, t4, t5⟩ := t1
  refine ⟨by show D'.pages = 4; rw [e1, t2, hp], by show D'.waits.length ≤ i + 1; rw [t1] at e2; omega, fun hi => ?_, fun hi => ?_⟩
  · obtain ⟨h1, h2, h3, h4⟩ := h.a (by omega)
    have hk : D.kind ≠ 0 := by rw [h1]; cases stop <;> simp
    refine ⟨by show D'.kind = _; rw [e3, t3, h1], ?_, by show D'.dead = _; rw [e5, t4, h3], ?_⟩
    · show D'.left = _
      rw [e4]
      unfold Dk.ticked
      rw [if_neg hk]
      show D.left - 1 = _
      rw [h2]
      omega
    · show RowKit.wrap64 (D'.steps + 1) = _
      rw [e6, t5, h4, IntWalk.wrap64_in _ (by omega)]
      omega
  · rcases Nat.lt_trichotomy i s with hi' | hi' | hi'
    · omega
    · exfalso
      cases stop <;> simp at hc <;> omega
    · obtain ⟨h1, h2, h3⟩ := h.b hi'
      cases stop
      · refine ⟨by show D'.kind = _; rw [e3, t3, h1], by show D'.dead = _; rw [e5, t4, h2], ?_⟩
        show RowKit.wrap64 (D'.steps + 1) = _
        rw [e6, t5, h3]
        simp only [Bool.false_eq_true, if_false]
        rw [IntWalk.wrap64_in _ (by omega)]
        omega
      · simp at hc
        omega
theorem ArmSt.flush {stop : Bool} {s i : Nat} {D : Dk} (h : ArmSt stop s i D) (hs : i ≤ 1000) : D.flush.1 = armWant stop s i ∧ ArmSt stop s (i + 1) D.flush.2 := by
  unfold Dk.flush
  by_cases hc : D.code = 0
  · rw [if_neg (by simp [hc])]
    exact ⟨by rw [← h.code, hc], h.yes hs hc rfl (by show ([] : List (Int × List UInt8)).length ≤ _; simp) rfl rfl rfl rfl⟩
  · rw [if_pos hc]
    exact ⟨h.code, h.no hc⟩
theorem ArmSt.write {stop : Bool} {s i : Nat} {D : Dk} (h : ArmSt stop s i D) (hs : i ≤ 1000) {p : Int} (hp : 0 ≤ p ∧ p < 4) {b : List UInt8} (hb : b.length = 256) : (D.write p b).1 = armWant stop s i ∧ ArmSt stop s (i + 1) (D.write p b).2 := by
  unfold Dk.write
  rw [if_neg (by simp [hb]), if_neg (by rw [h.p]; omega)]
  by_cases hc : D.code = 0
  · rw [if_neg (by simp [hc])]
    exact ⟨by rw [← h.code, hc], h.yes hs hc rfl (by show (D.ticked.waits ++ [(p, b)]).length ≤ _; simp) rfl rfl rfl rfl⟩
  · rw [if_pos hc]
    exact ⟨h.code, h.no hc⟩
theorem ArmSt.dead {stop : Bool} {s i : Nat} {D : Dk} (h : ArmSt stop s (i + 1) D) : D.dead = (stop && decide (s ≤ i)) := by
  by_cases hi : s ≤ i
  · rw [(h.b (by omega)).2.1]; simp [hi]
  · rw [(h.a (by omega)).2.2.1]; simp [hi]
theorem ArmSt.first (stop : Bool) {s : Nat} : (Dk.fresh 4).arm (if stop then 1 else 2) (s : Int) = (0, { Dk.fresh 4 with kind := if stop then 1 else 2, left := s }) ∧ ArmSt stop s 0 { Dk.fresh 4 with kind := if stop then 1 else 2, left := s } := by
  refine ⟨?_, rfl, Nat.le_refl _, fun _ => ⟨rfl, by show (s : Int) = _; omega, rfl, rfl⟩, fun h => by omega⟩
  unfold Dk.arm
  rw [if_neg (by cases stop <;> simp), if_neg (by simp [Dk.fresh]), if_neg (by omega)]
def armDone (stop : Bool) (s n : Nat) : Int := if s < n then (if stop then (s : Int) else (n : Int) - 1) else n
theorem ArmSt.steps {stop : Bool} {s n : Nat} {D : Dk} (h : ArmSt stop s n D) : D.steps = armDone stop s n := by
  unfold armDone
  by_cases hi : s < n
  · rw [if_pos hi, (h.b hi).2.2]
  · rw [if_neg hi, (h.a (by omega)).2.2.2]
set_option maxRecDepth 100000 in
set_option maxHeartbeats 4000000 in
theorem diskArmed_far (w : World) (stop : Bool) (x : Int) (A : Option Addr) (n c : Nat) (h : x < 0 ∨ 30 < x ∨ 40 < (n : Int)) : Calls Try.prog 3 #[.bool stop, .int .i64 x, .slice A n c] w fun e w' => e = .returned (.bool true) ∧ Keeps w w' [] := by
  by_cases h1 : x < 0
  · clear h
    go_enter Try.func3, Try.ntmps3
    go_wp2_with fail
    refine (known2_go (Keeps.refl w [])).mono ?_
    rintro e w' ⟨rfl, hk⟩
    have HK := Lib.hid hk
    clear hk
    go_wp2_with fail
    go_ret
    exact ⟨rfl, HK.out⟩
  · by_cases h2 : 30 < x
    · clear h
      go_enter Try.func3, Try.ntmps3
      go_wp2_with fail
      refine (known2_go (Keeps.refl w [])).mono ?_
      rintro e w' ⟨rfl, hk⟩
      have HK := Lib.hid hk
      clear hk
      go_wp2_with fail
      go_ret
      exact ⟨rfl, HK.out⟩
    · have h3 : 40 < (n : Int) := by omega
      clear h
      go_enter Try.func3, Try.ntmps3
      go_wp2_with fail
      refine (known2_go (Keeps.refl w [])).mono ?_
      rintro e w' ⟨rfl, hk⟩
      have HK := Lib.hid hk
      clear hk
      go_wp2_with fail
      go_ret
      exact ⟨rfl, HK.out⟩
theorem armFlush {w0 w : World} {d s i : Nat} {stop : Bool} {D : Dk} (h : DkIn w0 w d D) (ha : ArmSt stop s i D) (hs : i ≤ 1000) {r : Int} (hr : (armWant stop s i : Int) = r) :
    Calls Try.prog 12 #[.pointer (some ⟨d, 0, none⟩)] w fun e w' => e = .returned (.int .i64 r) ∧ ∃ D', DkIn w0 w' d D' ∧ ArmSt stop s (i + 1) D' := by
  obtain ⟨h1, h2⟩ := ha.flush hs
  refine (dkFlush_dk h).mono ?_
  rintro e w' ⟨rfl, h3, -⟩
  exact ⟨by rw [h1, hr], _, h3, h2⟩
theorem armWrite {w0 w : World} {d s i : Nat} {stop : Bool} {D : Dk} (h : DkIn w0 w d D) (ha : ArmSt stop s i D) (hs : i ≤ 1000) {r : Int} (hr : (armWant stop s i : Int) = r) {p : Int} (hp : 0 ≤ p ∧ p < 4) {b c : Nat} {t : TypeId} {x : UInt8} (hb : Row w b t (leafC (List.replicate 256 x))) :
    Calls Try.prog 13 #[.pointer (some ⟨d, 0, none⟩), .int .i64 p, .slice (some ⟨b, 0, none⟩) 256 c] w fun e w' => e = .returned (.int .i64 r) ∧ ∃ D', DkIn w0 w' d D' ∧ ArmSt stop s (i + 1) D' := by
  have hl : (List.replicate 256 x).length = 256 := List.length_replicate ..
  obtain ⟨h1, h2⟩ := ha.write hs hp hl
  refine (dkWrite_dk h p _ 256 c _ hl (lies_page hb) (by have := ha.w; omega)).mono ?_
  rintro e w' ⟨rfl, h3, -⟩
  exact ⟨by rw [h1, hr], _, h3, h2⟩
theorem armDead {w0 w : World} {d s i : Nat} {stop : Bool} {D : Dk} (h : DkIn w0 w d D) (ha : ArmSt stop s (i + 1) D) {r : Bool} (hr : (stop && decide (s ≤ i)) = r) : Calls Try.prog 15 #[.pointer (some ⟨d, 0, none⟩)] w fun e w' => e = .returned (.bool r) ∧ w = w' := by
  subst hr
  rw [← ha.dead]
  exact dkDead_dk h
theorem armSteps {w0 w : World} {d s n : Nat} {stop : Bool} {D : Dk} (h : DkIn w0 w d D) (ha : ArmSt stop s n D) {r : Int} (hr : armDone stop s n = r) : Calls Try.prog 16 #[.pointer (some ⟨d, 0, none⟩)] w fun e w' => e = .returned (.int .i64 r) ∧ w = w' := by
  subst hr
  rw [← ha.steps]
  exact dkSteps_dk h
theorem all_int (w : World) (n : Nat) (hn : n < 256) : Calls Try.prog 14 #[.int .u8 (n : Int)] w fun e w' => ∃ b, e = .returned (.slice (some ⟨b, 0, none⟩) 256 256) ∧ w.heap.size ≤ b ∧ Row w' b 5 (leafC (List.replicate 256 (UInt8.ofNat n))) ∧ Keeps w w' [] := by
  have h := all_any w (UInt8.ofNat n)
  have e : byteV (UInt8.ofNat n) = .int .u8 (n : Int) := by unfold byteV; rw [UInt8.toNat_ofNat', Nat.mod_eq_of_lt hn]
  rwa [e] at h
theorem armWant_lt {stop : Bool} {s i : Nat} (h : i < s) : armWant stop s i = 0 := by
  have h1 : ¬ s ≤ i := by omega
  have h2 : ¬ i = s := by omega
  unfold armWant
  cases stop
  · rw [if_neg Bool.false_ne_true, if_neg h2]
  · rw [if_pos rfl, if_neg h1]
theorem armWant_eq {stop : Bool} {s : Nat} : armWant stop s s = if stop then 120 else 121 := by
  unfold armWant
  rw [if_pos (Nat.le_refl s), if_pos rfl]
theorem armWant_gt {stop : Bool} {s i : Nat} (h : s < i) : armWant stop s i = if stop then 120 else 0 := by
  have h2 : ¬ i = s := by omega
  unfold armWant
  rw [if_neg h2, if_pos (show s ≤ i by omega)]
theorem armDead_lt {stop : Bool} {s i : Nat} (h : i < s) : (stop && decide (s ≤ i)) = false := by
  rw [decide_eq_false (by omega), Bool.and_false]
theorem armDead_ge {stop : Bool} {s i : Nat} (h : s ≤ i) : (stop && decide (s ≤ i)) = stop := by
  rw [decide_eq_true h, Bool.and_true]
set_option maxRecDepth 100000 in
set_option maxHeartbeats 4000000 in
theorem diskArmed_near (w : World) (stop : Bool) (s : Nat) (A : Option Addr) (c : Nat) (l : List Bool) (hB : CameB w A c l) (hs : ¬ 30 < (s : Int)) (hl : ¬ 40 < (l.length : Int)) : Calls Try.prog 3 #[.bool stop, .int .i64 s, .slice A l.length c] w fun e w' => e = .returned (.bool true) ∧ Keeps w w' [] := by
  have h1 : ¬ (s : Int) < 0 := by omega
  have HB := Lib.hid hB
  clear hB
  cases stop with
  | false =>
    go_enter Try.func3, Try.ntmps3
    go_wp2_with fail
    refine (dkNew_good w 4 (by omega)).mono ?_
    rintro e w1 ⟨d, rfl, hN⟩
    have H := Lib.hid (show DkIn w w1 d (Dk.fresh 4) from hN)
    clear hN
    go_wp2_with fail
    refine (dkArm_now H.out 2 s (by omega) (ArmSt.first false).1 rfl).mono ?_
    rintro e w2 ⟨rfl, h, -⟩
    have HP := Lib.hid (And.intro h (ArmSt.first false (s := s)).2)
    clear h H
    go_wp2_with fail
    have HA := Lib.hid (show ∀ W : World, Keeps w W [] → ∀ i (h : i < l.length), ∃ b o, A = some ⟨b, o, none⟩ ∧ W.cell? ⟨b, o + i, none⟩ = some (.bool l[i]) from fun W hk i h => by
      obtain ⟨b, o, e, hb, hc⟩ := HB.out.lies.at_ (k := i) (by simpa using h)
      exact ⟨b, o, e, by rw [hk.cell hb (by simp), hc]; simp⟩)
    go_loopw [11] (fun v wr => ∃ (i : Nat) (D : Dk), i ≤ l.length ∧ v = .int .i64 i ∧ Hid (DkIn w wr d D ∧ ArmSt false s i D)) (fun v _ => l.length - (intOf v).toNat)
    case atStart => exact ⟨0, _, by omega, rfl, HP⟩
    case round =>
      clear HP
      obtain ⟨i, D, hi, rfl, HR⟩ := hrel
      by_cases hil : i < l.length
      · obtain ⟨b, o, rfl, hw⟩ := HA.out _ HR.out.1.h i hil
        rcases Nat.lt_trichotomy i s with hs1 | hs1 | hs1
        · have i1 : ((i : Int) == (s : Int)) = false := by simp; omega
          have i2 : decide (s < i) = false := by simp; omega
          have i3 : decide (s ≤ i) = false := by simp; omega
          have w8 : IntKind.u8.wrap (i : Int) = (i : Int) := IntWalk.u8_in _ (by omega)
          have z4 : 0 ≤ (i : Int).tmod 4 ∧ (i : Int).tmod 4 < 4 := ⟨Int.tmod_nonneg _ (by omega), Int.tmod_lt_of_pos _ (by omega)⟩
          have HWT := Lib.hid (show (armWant false s i : Int) = 0 by rw [armWant_lt hs1]; rfl)
          have HDD := Lib.hid (show ((false) && decide (s ≤ i)) = false from armDead_lt hs1)
          have HZ4 := Lib.hid z4
          clear z4
          cases hbi : l[i] with
          | true =>
            rw [hbi] at hw
            clear hbi
            go_wp2_with fail
            refine (armFlush HR.out.1 HR.out.2 (by omega) HWT.out).mono ?_
            rintro e w2 ⟨rfl, D2, h1, h2⟩
            have HR2 := Lib.hid (And.intro h1 h2)
            clear h1 h2
            go_wp2_with fail
            refine (armDead HR2.out.1 HR2.out.2 HDD.out).mono ?_
            rintro e w3 ⟨rfl, rfl⟩
            go_wp2_with fail
            exact ⟨⟨i + 1, D2, by omega, by go_num, HR2⟩, by simp [intOf]; omega⟩
          | false =>
            rw [hbi] at hw
            clear hbi
            go_wp2_with fail
            refine (all_int wr i (by omega)).mono ?_
            rintro e w2 ⟨b9, rfl, -, hr9, hk9⟩
            have HR9 := Lib.hid (And.intro (HR.out.1.keeps hk9) hr9)
            clear hr9 hk9
            go_wp2_with fail
            refine (armWrite HR9.out.1 HR.out.2 (by omega) HWT.out HZ4.out HR9.out.2).mono ?_
            rintro e w2 ⟨rfl, D2, h1, h2⟩
            have HR2 := Lib.hid (And.intro h1 h2)
            clear h1 h2
            go_wp2_with fail
            refine (armDead HR2.out.1 HR2.out.2 HDD.out).mono ?_
            rintro e w3 ⟨rfl, rfl⟩
            go_wp2_with fail
            exact ⟨⟨i + 1, D2, by omega, by go_num, HR2⟩, by simp [intOf]; omega⟩
        · subst hs1
          have w8 : IntKind.u8.wrap (i : Int) = (i : Int) := IntWalk.u8_in _ (by omega)
          have z4 : 0 ≤ (i : Int).tmod 4 ∧ (i : Int).tmod 4 < 4 := ⟨Int.tmod_nonneg _ (by omega), Int.tmod_lt_of_pos _ (by omega)⟩
          have HWT := Lib.hid (show (armWant false i i : Int) = 121 by rw [armWant_eq]; rfl)
          have HDD := Lib.hid (show ((false) && decide (i ≤ i)) = false from armDead_ge (Nat.le_refl i))
          have HZ4 := Lib.hid z4
          clear z4
          cases hbi : l[i] with
          | true =>
            rw [hbi] at hw
            clear hbi
            go_wp2_with fail
            refine (armFlush HR.out.1 HR.out.2 (by omega) HWT.out).mono ?_
            rintro e w2 ⟨rfl, D2, h1, h2⟩
            have HR2 := Lib.hid (And.intro h1 h2)
            clear h1 h2
            go_wp2_with fail
            refine (armDead HR2.out.1 HR2.out.2 HDD.out).mono ?_
            rintro e w3 ⟨rfl, rfl⟩
            go_wp2_with fail
            exact ⟨⟨i + 1, D2, by omega, by go_num, HR2⟩, by simp [intOf]; omega⟩
          | false =>
            rw [hbi] at hw
            clear hbi
            go_wp2_with fail
            refine (all_int wr i (by omega)).mono ?_
            rintro e w2 ⟨b9, rfl, -, hr9, hk9⟩
            have HR9 := Lib.hid (And.intro (HR.out.1.keeps hk9) hr9)
            clear hr9 hk9
            go_wp2_with fail
            refine (armWrite HR9.out.1 HR.out.2 (by omega) HWT.out HZ4.out HR9.out.2).mono ?_
            rintro e w2 ⟨rfl, D2, h1, h2⟩
            have HR2 := Lib.hid (And.intro h1 h2)
            clear h1 h2
            go_wp2_with fail
            refine (armDead HR2.out.1 HR2.out.2 HDD.out).mono ?_
            rintro e w3 ⟨rfl, rfl⟩
            go_wp2_with fail
            exact ⟨⟨i + 1, D2, by omega, by go_num, HR2⟩, by simp [intOf]; omega⟩
        · have i1 : ¬ (i : Int) = (s : Int) := by omega
          have i2 : (s : Int) < (i : Int) := by omega
          have i3 : (s : Int) ≤ (i : Int) := by omega
          have w8 : IntKind.u8.wrap (i : Int) = (i : Int) := IntWalk.u8_in _ (by omega)
          have z4 : 0 ≤ (i : Int).tmod 4 ∧ (i : Int).tmod 4 < 4 := ⟨Int.tmod_nonneg _ (by omega), Int.tmod_lt_of_pos _ (by omega)⟩
          have HWT := Lib.hid (show (armWant false s i : Int) = 0 by rw [armWant_gt hs1]; rfl)
          have HDD := Lib.hid (show ((false) && decide (s ≤ i)) = false from armDead_ge (Nat.le_of_lt hs1))
          have HZ4 := Lib.hid z4
          clear z4
          cases hbi : l[i] with
          | true =>
            rw [hbi] at hw
            clear hbi
            go_wp2_with fail
            refine (armFlush HR.out.1 HR.out.2 (by omega) HWT.out).mono ?_
            rintro e w2 ⟨rfl, D2, h1, h2⟩
            have HR2 := Lib.hid (And.intro h1 h2)
            clear h1 h2
            go_wp2_with fail
            refine (armDead HR2.out.1 HR2.out.2 HDD.out).mono ?_
            rintro e w3 ⟨rfl, rfl⟩
            go_wp2_with fail
            exact ⟨⟨i + 1, D2, by omega, by go_num, HR2⟩, by simp [intOf]; omega⟩
          | false =>
            rw [hbi] at hw
            clear hbi
            go_wp2_with fail
            refine (all_int wr i (by omega)).mono ?_
            rintro e w2 ⟨b9, rfl, -, hr9, hk9⟩
            have HR9 := Lib.hid (And.intro (HR.out.1.keeps hk9) hr9)
            clear hr9 hk9
            go_wp2_with fail
            refine (armWrite HR9.out.1 HR.out.2 (by omega) HWT.out HZ4.out HR9.out.2).mono ?_
            rintro e w2 ⟨rfl, D2, h1, h2⟩
            have HR2 := Lib.hid (And.intro h1 h2)
            clear h1 h2
            go_wp2_with fail
            refine (armDead HR2.out.1 HR2.out.2 HDD.out).mono ?_
            rintro e w3 ⟨rfl, rfl⟩
            go_wp2_with fail
            exact ⟨⟨i + 1, D2, by omega, by go_num, HR2⟩, by simp [intOf]; omega⟩
      · obtain rfl : i = l.length := by omega
        by_cases hsl : (s : Int) < (l.length : Int)
        · have HS := Lib.hid (show armDone false s l.length = (if false then (s : Int) else (l.length : Int) - 1) by unfold armDone; rw [if_pos (by omega)])
          go_wp2_with fail
          refine (armSteps HR.out.1 HR.out.2 HS.out).mono ?_
          rintro e w3 ⟨rfl, rfl⟩
          go_wp2_with fail
          refine (known2_go HR.out.1.h).mono ?_
          rintro e w' ⟨rfl, hk⟩
          have HK := Lib.hid hk
          clear hk
          go_wp2_with fail
          go_ret
          exact ⟨rfl, HK.out⟩
        · have HS := Lib.hid (show armDone false s l.length = l.length by unfold armDone; rw [if_neg (by omega)])
          go_wp2_with fail
          refine (armSteps HR.out.1 HR.out.2 HS.out).mono ?_
          rintro e w3 ⟨rfl, rfl⟩
          go_wp2_with fail
          refine (known2_go HR.out.1.h).mono ?_
          rintro e w' ⟨rfl, hk⟩
          have HK := Lib.hid hk
          clear hk
          go_wp2_with fail
          go_ret
          exact ⟨rfl, HK.out⟩
  | true =>
    go_enter Try.func3, Try.ntmps3
    go_wp2_with fail
    refine (dkNew_good w 4 (by omega)).mono ?_
    rintro e w1 ⟨d, rfl, hN⟩
    have H := Lib.hid (show DkIn w w1 d (Dk.fresh 4) from hN)
    clear hN
    go_wp2_with fail
    refine (dkArm_now H.out 1 s (by omega) (ArmSt.first true).1 rfl).mono ?_
    rintro e w2 ⟨rfl, h, -⟩
    have HP := Lib.hid (And.intro h (ArmSt.first true (s := s)).2)
    clear h H
    go_wp2_with fail
    have HA := Lib.hid (show ∀ W : World, Keeps w W [] → ∀ i (h : i < l.length), ∃ b o, A = some ⟨b, o, none⟩ ∧ W.cell? ⟨b, o + i, none⟩ = some (.bool l[i]) from fun W hk i h => by
      obtain ⟨b, o, e, hb, hc⟩ := HB.out.lies.at_ (k := i) (by simpa using h)
      exact ⟨b, o, e, by rw [hk.cell hb (by simp), hc]; simp⟩)
    go_loopw [11] (fun v wr => ∃ (i : Nat) (D : Dk), i ≤ l.length ∧ v = .int .i64 i ∧ Hid (DkIn w wr d D ∧ ArmSt true s i D)) (fun v _ => l.length - (intOf v).toNat)
    case atStart => exact ⟨0, _, by omega, rfl, HP⟩
    case round =>
      clear HP
      obtain ⟨i, D, hi, rfl, HR⟩ := hrel
      by_cases hil : i < l.length
      · obtain ⟨b, o, rfl, hw⟩ := HA.out _ HR.out.1.h i hil
        rcases Nat.lt_trichotomy i s with hs1 | hs1 | hs1
        · have i1 : ((i : Int) == (s : Int)) = false := by simp; omega
          have i2 : decide (s < i) = false := by simp; omega
          have i3 : decide (s ≤ i) = false := by simp; omega
          have w8 : IntKind.u8.wrap (i : Int) = (i : Int) := IntWalk.u8_in _ (by omega)
          have z4 : 0 ≤ (i : Int).tmod 4 ∧ (i : Int).tmod 4 < 4 := ⟨Int.tmod_nonneg _ (by omega), Int.tmod_lt_of_pos _ (by omega)⟩
          have HWT := Lib.hid (show (armWant true s i : Int) = 0 by rw [armWant_lt hs1]; rfl)
          have HDD := Lib.hid (show ((true) && decide (s ≤ i)) = false from armDead_lt hs1)
          have HZ4 := Lib.hid z4
          clear z4
          cases hbi : l[i] with
          | true =>
            rw [hbi] at hw
            clear hbi
            go_wp2_with fail
            refine (armFlush HR.out.1 HR.out.2 (by omega) HWT.out).mono ?_
            rintro e w2 ⟨rfl, D2, h1, h2⟩
            have HR2 := Lib.hid (And.intro h1 h2)
            clear h1 h2
            go_wp2_with fail
            refine (armDead HR2.out.1 HR2.out.2 HDD.out).mono ?_
            rintro e w3 ⟨rfl, rfl⟩
            go_wp2_with fail
            exact ⟨⟨i + 1, D2, by omega, by go_num, HR2⟩, by simp [intOf]; omega⟩
          | false =>
            rw [hbi] at hw
            clear hbi
            go_wp2_with fail
            refine (all_int wr i (by omega)).mono ?_
            rintro e w2 ⟨b9, rfl, -, hr9, hk9⟩
            have HR9 := Lib.hid (And.intro (HR.out.1.keeps hk9) hr9)
            clear hr9 hk9
            go_wp2_with fail
            refine (armWrite HR9.out.1 HR.out.2 (by omega) HWT.out HZ4.out HR9.out.2).mono ?_
            rintro e w2 ⟨rfl, D2, h1, h2⟩
            have HR2 := Lib.hid (And.intro h1 h2)
            clear h1 h2
            go_wp2_with fail
            refine (armDead HR2.out.1 HR2.out.2 HDD.out).mono ?_
            rintro e w3 ⟨rfl, rfl⟩
            go_wp2_with fail
            exact ⟨⟨i + 1, D2, by omega, by go_num, HR2⟩, by simp [intOf]; omega⟩
        · subst hs1
          have w8 : IntKind.u8.wrap (i : Int) = (i : Int) := IntWalk.u8_in _ (by omega)
          have z4 : 0 ≤ (i : Int).tmod 4 ∧ (i : Int).tmod 4 < 4 := ⟨Int.tmod_nonneg _ (by omega), Int.tmod_lt_of_pos _ (by omega)⟩
          have HWT := Lib.hid (show (armWant true i i : Int) = 120 by rw [armWant_eq]; rfl)
          have HDD := Lib.hid (show ((true) && decide (i ≤ i)) = true from armDead_ge (Nat.le_refl i))
          have HZ4 := Lib.hid z4
          clear z4
          cases hbi : l[i] with
          | true =>
            rw [hbi] at hw
            clear hbi
            go_wp2_with fail
            refine (armFlush HR.out.1 HR.out.2 (by omega) HWT.out).mono ?_
            rintro e w2 ⟨rfl, D2, h1, h2⟩
            have HR2 := Lib.hid (And.intro h1 h2)
            clear h1 h2
            go_wp2_with fail
            refine (armDead HR2.out.1 HR2.out.2 HDD.out).mono ?_
            rintro e w3 ⟨rfl, rfl⟩
            go_wp2_with fail
            exact ⟨⟨i + 1, D2, by omega, by go_num, HR2⟩, by simp [intOf]; omega⟩
          | false =>
            rw [hbi] at hw
            clear hbi
            go_wp2_with fail
            refine (all_int wr i (by omega)).mono ?_
            rintro e w2 ⟨b9, rfl, -, hr9, hk9⟩
            have HR9 := Lib.hid (And.intro (HR.out.1.keeps hk9) hr9)
            clear hr9 hk9
            go_wp2_with fail
            refine (armWrite HR9.out.1 HR.out.2 (by omega) HWT.out HZ4.out HR9.out.2).mono ?_
            rintro e w2 ⟨rfl, D2, h1, h2⟩
            have HR2 := Lib.hid (And.intro h1 h2)
            clear h1 h2
            go_wp2_with fail
            refine (armDead HR2.out.1 HR2.out.2 HDD.out).mono ?_
            rintro e w3 ⟨rfl, rfl⟩
            go_wp2_with fail
            exact ⟨⟨i + 1, D2, by omega, by go_num, HR2⟩, by simp [intOf]; omega⟩
        · have i1 : ¬ (i : Int) = (s : Int) := by omega
          have i2 : (s : Int) < (i : Int) := by omega
          have i3 : (s : Int) ≤ (i : Int) := by omega
          have w8 : IntKind.u8.wrap (i : Int) = (i : Int) := IntWalk.u8_in _ (by omega)
          have z4 : 0 ≤ (i : Int).tmod 4 ∧ (i : Int).tmod 4 < 4 := ⟨Int.tmod_nonneg _ (by omega), Int.tmod_lt_of_pos _ (by omega)⟩
          have HWT := Lib.hid (show (armWant true s i : Int) = 120 by rw [armWant_gt hs1]; rfl)
          have HDD := Lib.hid (show ((true) && decide (s ≤ i)) = true from armDead_ge (Nat.le_of_lt hs1))
          have HZ4 := Lib.hid z4
          clear z4
          cases hbi : l[i] with
          | true =>
            rw [hbi] at hw
            clear hbi
            go_wp2_with fail
            refine (armFlush HR.out.1 HR.out.2 (by omega) HWT.out).mono ?_
            rintro e w2 ⟨rfl, D2, h1, h2⟩
            have HR2 := Lib.hid (And.intro h1 h2)
            clear h1 h2
            go_wp2_with fail
            refine (armDead HR2.out.1 HR2.out.2 HDD.out).mono ?_
            rintro e w3 ⟨rfl, rfl⟩
            go_wp2_with fail
            exact ⟨⟨i + 1, D2, by omega, by go_num, HR2⟩, by simp [intOf]; omega⟩
          | false =>
            rw [hbi] at hw
            clear hbi
            go_wp2_with fail
            refine (all_int wr i (by omega)).mono ?_
            rintro e w2 ⟨b9, rfl, -, hr9, hk9⟩
            have HR9 := Lib.hid (And.intro (HR.out.1.keeps hk9) hr9)
            clear hr9 hk9
            go_wp2_with fail
            refine (armWrite HR9.out.1 HR.out.2 (by omega) HWT.out HZ4.out HR9.out.2).mono ?_
            rintro e w2 ⟨rfl, D2, h1, h2⟩
            have HR2 := Lib.hid (And.intro h1 h2)
            clear h1 h2
            go_wp2_with fail
            refine (armDead HR2.out.1 HR2.out.2 HDD.out).mono ?_
            rintro e w3 ⟨rfl, rfl⟩
            go_wp2_with fail
            exact ⟨⟨i + 1, D2, by omega, by go_num, HR2⟩, by simp [intOf]; omega⟩
      · obtain rfl : i = l.length := by omega
        by_cases hsl : (s : Int) < (l.length : Int)
        · have HS := Lib.hid (show armDone true s l.length = (if true then (s : Int) else (l.length : Int) - 1) by unfold armDone; rw [if_pos (by omega)])
          go_wp2_with fail
          refine (armSteps HR.out.1 HR.out.2 HS.out).mono ?_
          rintro e w3 ⟨rfl, rfl⟩
          go_wp2_with fail
          refine (known2_go HR.out.1.h).mono ?_
          rintro e w' ⟨rfl, hk⟩
          have HK := Lib.hid hk
          clear hk
          go_wp2_with fail
          go_ret
          exact ⟨rfl, HK.out⟩
        · have HS := Lib.hid (show armDone true s l.length = l.length by unfold armDone; rw [if_neg (by omega)])
          go_wp2_with fail
          refine (armSteps HR.out.1 HR.out.2 HS.out).mono ?_
          rintro e w3 ⟨rfl, rfl⟩
          go_wp2_with fail
          refine (known2_go HR.out.1.h).mono ?_
          rintro e w' ⟨rfl, hk⟩
          have HK := Lib.hid hk
          clear hk
          go_wp2_with fail
          go_ret
          exact ⟨rfl, HK.out⟩
end Go.Proofs.Ytehlabdbbbbopaa
