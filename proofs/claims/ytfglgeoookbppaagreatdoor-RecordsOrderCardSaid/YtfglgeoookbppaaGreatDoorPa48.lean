/- Package records: Kind. Package records: which row one is; Is, of rows that have a place. Law 19: known. -/
import Derived.Test.YtfglgeoookbppaaGreatDoorPa47
import Derived.Maps.Range
import Derived.Maps.RangeWalk

namespace Go.Proofs.YtfglgeoookbppaaGreatDoor
open Go.RowKit Go.Shelf Go.Maps

theorem ranges_keeps {P : Program} {k : TypeId} {w w' : World} {b r n cnt : Nat} {D : DataW Value} {left : Lit → Bool} {S : List Nat} (h : w.ranges P k heldR b r n D left cnt) (hk : Keeps w w' S) (hb : b ∉ S) (hr : r ∉ S) : w'.ranges P k heldR b r n D left cnt := by
  have h1 := h.owns.lt
  have h2 := h.lt
  obtain ⟨es, clock, since, seen, c0, q1, q2, q3, q4, q5, q6⟩ := h
  exact ⟨es, clock, since, seen, c0, (hk.block b h1 hb).trans q1, q2, q3, q4, (hk.block r h2 hr).trans q5, q6⟩
theorem rcAll_yes {k : Int} (h : rcIs k = true) (zd : DataW Value) : rcAll.atKey (.int .i64 k) zd = .held (rcOf k) := by
  have e : k = 1 ∨ k = 2 ∨ k = 3 ∨ k = 4 ∨ k = 5 := by
    unfold rcIs inN at h
    simp only [Bool.and_eq_true, decide_eq_true_eq] at h
    omega
  rcases e with rfl | rfl | rfl | rfl | rfl <;> rfl
theorem rcAll_no {k : Int} (h : rcIs k = false) (zd : DataW Value) : rcAll.atKey (.int .i64 k) zd = zd := by
  unfold rcIs inN at h
  simp only [Bool.and_eq_false_iff, decide_eq_false_iff_not] at h
  have s1 : (Lit.int .i64 1).sameKey (.int .i64 k) = false := by simp [Lit.sameKey]; omega
  have s2 : (Lit.int .i64 2).sameKey (.int .i64 k) = false := by simp [Lit.sameKey]; omega
  have s3 : (Lit.int .i64 3).sameKey (.int .i64 k) = false := by simp [Lit.sameKey]; omega
  have s4 : (Lit.int .i64 4).sameKey (.int .i64 k) = false := by simp [Lit.sameKey]; omega
  have s5 : (Lit.int .i64 5).sameKey (.int .i64 k) = false := by simp [Lit.sameKey]; omega
  show (DataW.map [(Lit.int .i64 1, .held rc1), (Lit.int .i64 2, .held rc2), (Lit.int .i64 3, .held rc3), (Lit.int .i64 4, .held rc4), (Lit.int .i64 5, .held rc5)]).atKey _ zd = zd
  simp [DataW.atKey, List.find?, s1, s2, s3, s4, s5]
theorem rcAll_has {k : Int} (h : rcIs k = true) : Maps.has rcAll (.int .i64 k) = true := by
  have e : k = 1 ∨ k = 2 ∨ k = 3 ∨ k = 4 ∨ k = 5 := by
    unfold rcIs inN at h
    simp only [Bool.and_eq_true, decide_eq_true_eq] at h
    omega
  rcases e with rfl | rfl | rfl | rfl | rfl <;> decide
/-- Kind's closure: is it that tree? -/
theorem rcKind1_any (w : World) (tb : Nat) (s : List UInt8) (T : ByteArray) (i1 i2 i3 : FuncId) (pl : Bool) (hr : Row w tb 9 #[.string ⟨s.toArray⟩]) : Calls Tryz.prog 57 #[.agg #[.string T, .func (.func i1) #[] #[], .func (.func i2) #[] #[], .func (.func i3) #[] #[], .bool pl], .pointer (some ⟨tb, 0, none⟩)] w (TruePost w (T.toList == s)) := by
  obtain ⟨S, hS⟩ : ∃ S : ByteArray, (⟨s.toArray⟩ : ByteArray) = S := ⟨_, rfl⟩
  have eS : S.toList = s := by rw [← hS, Lib.toList_data]
  rw [hS] at hr
  obtain ⟨q, hq⟩ : ∃ q, (T.toList == S.toList) = q := ⟨_, rfl⟩
  have HQ := Lib.hid (show (T.toList == s) = q by rw [← eS]; exact hq)
  obtain ⟨W0, hW0⟩ : ∃ W0, w.alloc (.cells #[.string T, .func (.func i1) #[] #[], .func (.func i2) #[] #[], .func (.func i3) #[] #[], .bool pl] 55) = W0 := ⟨_, rfl⟩
  have k0 : Keeps w W0 [] := by rw [← hW0]; exact Keeps.alloc _ _
  have r0 : Row W0 w.heap.size 55 #[.string T, .func (.func i1) #[] #[], .func (.func i2) #[] #[], .func (.func i3) #[] #[], .bool pl] := by rw [← hW0]; exact Row.new _ _ _
  have c0 := r0.cell 0
  have c1 := (hr.keeps k0).cell 0
  simp only [List.getElem?_toArray, List.getElem?_cons_zero] at c0 c1
  have HK := Lib.hid k0
  clear k0 r0 hr hS eS
  go_enter Tryz.func57, Tryz.ntmps57
  go_wp2_with fail
  go_ret
  exact ⟨by rw [HQ.out]; rfl, HK.out⟩
def KdPost (w : World) (s : List UInt8) (e : Ending) (w' : World) : Prop := ∃ (k : Int) (ok : Bool), e = .returned (.tuple #[.int .i64 k, .bool ok]) ∧ (ok = true → rcIs k = true ∧ rcTree k = s) ∧ (ok = false → k = 0 ∧ ∀ x, rcIs x = true → rcTree x ≠ s) ∧ Keeps w w' []
set_option maxRecDepth 100000 in
set_option maxHeartbeats 2000000 in
theorem rcFound_any (w : World) (b tb : Nat) (s : List UInt8) (hb : RcKinds w b) (hr : Row w tb 9 #[.string ⟨s.toArray⟩]) : Calls Tryz.prog 56 #[.map (some b), .func (.func 57) #[] #[.pointer (some ⟨tb, 0, none⟩)]] w (KdPost w s) := by
  obtain ⟨w4, hrun, hrg, hg4, _⟩ := World.ownsMap.range hb (int_keyed undRk) undRkM
  have hk4 : Keeps w w4 [] := Keeps.of_grown hg4
  have hblt : b < w.heap.size := hb.lt
  have HP := Lib.hid (show w4.ranges Tryz.prog 22 heldR b w.heap.size 5 rcAll (Maps.has rcAll) (Maps.size rcAll) ∧ (∀ x, rcIs x = true → Maps.has rcAll (.int .i64 x) = false → rcTree x ≠ s) ∧ Keeps w w4 [] from ⟨hrg, (fun x hx hh => by rw [rcAll_has hx] at hh; cases hh), hk4⟩)
  have HR := Lib.hid hr
  clear hrg hg4 hk4 hb hr
  go_enter Tryz.func56, Tryz.ntmps56
  go_wp2_with fail
  clear hrun
  go_loopw [] (fun w' => ∃ (left : Lit → Bool) (cnt : Nat), Hid (w'.ranges Tryz.prog 22 heldR b w.heap.size 5 rcAll left cnt ∧ (∀ x, rcIs x = true → left (.int .i64 x) = false → rcTree x ≠ s) ∧ Keeps w w' [])) (fun w' => w'.rangeLeft b w.heap.size)
  case atStart => exact ⟨_, _, HP⟩
  case round =>
    clear HP
    obtain ⟨left, cnt, HI⟩ := hrel
    have hml := World.ranges.left_eq HI.out.1
    rcases World.ranges.next HI.out.1 (int_keyed undRk) 0 with ⟨_, hall, hrun⟩ | ⟨key, v, kl, y, w5, cnt5, hkey, hleft, hR, hat, hrun, hrg5, hlt5, hgr5, _, hen⟩
    · have hnx : ∀ ty, (Instr.next (.pointer (some ⟨w.heap.size, 0, none⟩)) false ty).run Tryz.prog wr = _ := fun _ => hrun
      have HA := Lib.hid (show ∀ x, rcIs x = true → rcTree x ≠ s from fun x hx => HI.out.2.1 x hx (hall _))
      clear hall hrun hml
      go_wp2_with fail
      go_ret2
      exact ⟨0, false, rfl, (fun h => by cases h), fun _ => ⟨rfl, HA.out⟩, HI.out.2.2⟩
    · obtain ⟨x, rfl, rfl, hwf⟩ := Maps.keyOf_int_inv undRk hkey
      simp only [heldR, Option.some.injEq] at hR
      subst hR
      have hx : rcIs x = true := by
        cases hxi : rcIs x with
        | true => rfl
        | false =>
          have := hat .nil
          rw [rcAll_no hxi] at this
          cases this
      have hv : v = rcOf x := by
        have := hat .nil
        rw [rcAll_yes hx] at this
        injection this with this
        exact this.symm
      subst hv
      obtain ⟨T, i1, i2, i3, pl, K⟩ := rcK hx
      have HX := Lib.hid (And.intro hx K.tree)
      rw [K.of] at hrun hen
      have hk5 : Keeps w w5 [] := HI.out.2.2.trans (Keeps.of_grown hgr5) (fun z hz hlt => by simp at hz; omega)
      have hnx : ∀ ty, (Instr.next (.pointer (some ⟨w.heap.size, 0, none⟩)) false ty).run Tryz.prog wr = _ := fun _ => hrun
      have HN5 := Lib.hid (show w5.ranges Tryz.prog 22 heldR b w.heap.size 5 rcAll (fun z => left z && !z.sameKey (.int .i64 x)) cnt5 ∧ cnt5 < wr.rangeLeft b w.heap.size ∧ Keeps w w5 [] from ⟨hrg5, by rw [hml]; exact hlt5, hk5⟩)
      clear hrun hrg5 hlt5 hgr5 hat hkey hleft hml hk5 K hx
      go_wp2_with fail
      obtain ⟨q, hq⟩ : ∃ q, (T.toList == s) = q := ⟨_, rfl⟩
      refine (rcKind1_any _ tb s T i1 i2 i3 pl (HR.out.keeps (HN5.out.2.2.then_alloc _))).mono ?_
      rintro e w6 ⟨rfl, hk6⟩
      have hk7 : Keeps w5 w6 [] := (Keeps.alloc _ _).trans hk6 (by simp)
      have hr7 := ranges_keeps HN5.out.1 hk7 (by simp) (by simp)
      have HQ := Lib.hid hq
      have H7 := Lib.hid (And.intro hr7 (And.intro (World.ranges.left_eq hr7) (HN5.out.2.2.then_ hk7)))
      rw [hq]
      clear hq hk6 hk7 hr7 hen hnx
      have hTs : T.toList = rcTree x := by rw [HX.out.2, Lib.toList_data]
      cases q with
      | true =>
        go_wp2_with fail
        go_ret2
        exact ⟨x, true, rfl, fun _ => ⟨HX.out.1, by have := HQ.out; rw [beq_iff_eq, hTs] at this; exact this⟩, (fun h => by cases h), H7.out.2.2⟩
      | false =>
        go_wp2_with fail
        refine ⟨⟨_, cnt5, Lib.hid ⟨H7.out.1, fun z hz hh => ?_, H7.out.2.2⟩⟩, by rw [H7.out.2.1]; exact HN5.out.2.1⟩
        by_cases hzx : z = x
        · rw [hzx]
          have := HQ.out
          rw [beq_eq_false_iff_ne, hTs] at this
          exact this
        · refine HI.out.2.1 z hz ?_
          have hsk : (Lit.int .i64 z).sameKey (.int .i64 x) = false := by
            cases hs : (Lit.int .i64 z).sameKey (.int .i64 x) with
            | false => rfl
            | true =>
              have := WideAt.sameKey_eq hs
              injection this with _ e
              exact absurd e hzx
          rw [hsk] at hh
          simpa using hh
set_option maxRecDepth 100000 in
set_option maxHeartbeats 1000000 in
theorem rcKind_any (w : World) (s : List UInt8) : Calls Tryz.prog 25 #[.string ⟨s.toArray⟩] w (KdPost w s) := by
  obtain ⟨W0, hW0⟩ : ∃ W0, w.alloc (.cells #[.string ⟨s.toArray⟩] 9) = W0 := ⟨_, rfl⟩
  have k0 : Keeps w W0 [] := by rw [← hW0]; exact Keeps.alloc _ _
  have r0 : Row W0 w.heap.size 9 #[.string ⟨s.toArray⟩] := by rw [← hW0]; exact Row.new _ _ _
  have HR := Lib.hid (And.intro k0 r0)
  clear k0 r0
  go_enter Tryz.func25, Tryz.ntmps25
  go_wp2_with fail
  refine (rcKinds_any _).mono ?_
  rintro e w1 ⟨b, rfl, hb, hk⟩
  have HF := Lib.hid (rcFound_any w1 b w.heap.size s hb (HR.out.2.keeps hk))
  have HK := Lib.hid (HR.out.1.then_ hk)
  clear hb hk hW0
  go_wp2_with fail
  refine HF.out.mono ?_
  rintro e w2 ⟨k, ok, rfl, h1, h2, hk⟩
  have HZ := Lib.hid (And.intro h1 (And.intro h2 (HK.out.then_ hk)))
  clear h1 h2 hk HF
  go_wp2_with fail
  go_ret2
  exact ⟨k, ok, rfl, HZ.out⟩
end Go.Proofs.YtfglgeoookbppaaGreatDoor

namespace Go.Proofs.YtfglgeoookbppaaGreatDoor
open Go.RowKit Go.Shelf

def rcWhich (x : Rw) : Rw := if x.k = 2 then { rwZ with c := x.c, t := x.t } else if x.k = 5 then { rwZ with t := x.t } else x
set_option maxRecDepth 100000 in
set_option maxHeartbeats 2000000 in
theorem rcWhich2_any (c : List UInt8) (seq id : Int) (t b : List UInt8) (q : Int) (r : Bool) (s : Int) (w : World) : Calls Tryz.prog 30 #[rwV ⟨2, c, seq, id, t, b, q, r, s⟩] w (HasPost w (rcWhich ⟨2, c, seq, id, t, b, q, r, s⟩)) := by
  obtain ⟨k, hk⟩ : ∃ k : Int, k = 2 := ⟨_, rfl⟩
  have hv := Lib.hid (show rwV (rcWhich ⟨2, c, seq, id, t, b, q, r, s⟩) = .agg #[.int .i64 0, .string ⟨c.toArray⟩, .int .i64 0, .int .i64 0, .string ⟨t.toArray⟩, .string ⟨#[]⟩, .int .i64 0, .bool false, .int .i64 0] from rfl)
  rw [← hk]
  obtain ⟨W0, hW0⟩ : ∃ W0, w.alloc (.cells #[.int .i64 k, .string ⟨c.toArray⟩, .int .i64 seq, .int .i64 id, .string ⟨t.toArray⟩, .string ⟨b.toArray⟩, .int .i64 q, .bool r, .int .i64 s] 25) = W0 := ⟨_, rfl⟩
  have k0 : Keeps w W0 [] := by rw [← hW0]; exact Keeps.alloc _ _
  have r0 : Row W0 w.heap.size 25 #[.int .i64 k, .string ⟨c.toArray⟩, .int .i64 seq, .int .i64 id, .string ⟨t.toArray⟩, .string ⟨b.toArray⟩, .int .i64 q, .bool r, .int .i64 s] := by rw [← hW0]; exact Row.new _ _ _
  have HR := Lib.hid (And.intro k0 r0)
  have x0 := r0.cell 0
  have x1 := r0.cell 1
  have x2 := r0.cell 2
  have x3 := r0.cell 3
  have x4 := r0.cell 4
  have x5 := r0.cell 5
  have x6 := r0.cell 6
  have x7 := r0.cell 7
  have x8 := r0.cell 8
  simp only [List.getElem?_toArray, List.getElem?_cons_zero, List.getElem?_cons_succ] at x0 x1 x2 x3 x4 x5 x6 x7 x8
  clear k0 r0
  obtain ⟨W1, hW1⟩ : ∃ W1, W0.alloc (.cells #[.int .i64 0, .string ⟨#[]⟩, .int .i64 0, .int .i64 0, .string ⟨#[]⟩, .string ⟨#[]⟩, .int .i64 0, .bool false, .int .i64 0] 25) = W1 := ⟨_, rfl⟩
  have k1 : Keeps W0 W1 [] := by rw [← hW1]; exact Keeps.alloc _ _
  have r1 := HR.out.2.keeps k1
  have rz : Row W1 W0.heap.size 25 #[.int .i64 0, .string ⟨#[]⟩, .int .i64 0, .int .i64 0, .string ⟨#[]⟩, .string ⟨#[]⟩, .int .i64 0, .bool false, .int .i64 0] := by rw [← hW1]; exact Row.new _ _ _
  obtain ⟨z, hz⟩ : ∃ z, W0.heap.size = z := ⟨_, rfl⟩
  have hz2 : w.heap.size ≤ z := by rw [← hz]; exact HR.out.1.size
  rw [hz] at rz
  clear x0 x1 x2 x3 x4 x5 x6 x7 x8
  have x0 := r1.cell 0
  have x1 := r1.cell 1
  have x2 := r1.cell 2
  have x3 := r1.cell 3
  have x4 := r1.cell 4
  have x5 := r1.cell 5
  have x6 := r1.cell 6
  have x7 := r1.cell 7
  have x8 := r1.cell 8
  simp only [List.getElem?_toArray, List.getElem?_cons_zero, List.getElem?_cons_succ] at x0 x1 x2 x3 x4 x5 x6 x7 x8
  have y0 := rz.cell 0
  have y1 := rz.cell 1
  have y2 := rz.cell 2
  have y3 := rz.cell 3
  have y4 := rz.cell 4
  have y5 := rz.cell 5
  have y6 := rz.cell 6
  have y7 := rz.cell 7
  have y8 := rz.cell 8
  simp only [List.getElem?_toArray, List.getElem?_cons_zero, List.getElem?_cons_succ] at y0 y1 y2 y3 y4 y5 y6 y7 y8
  have g0 := rz.frozen 0
  have g1 := rz.frozen 1
  have g2 := rz.frozen 2
  have g3 := rz.frozen 3
  have g4 := rz.frozen 4
  have g5 := rz.frozen 5
  have g6 := rz.frozen 6
  have g7 := rz.frozen 7
  have g8 := rz.frozen 8
  have HZ := Lib.hid (And.intro rz (And.intro (HR.out.1.then_ k1) hz2))
  clear rz r1 k1 hz2
  subst hk
  go_enter Tryz.func30, Tryz.ntmps30
  go_wp2_with fail
  exact has_end HZ.out.1 HZ.out.2.1 HZ.out.2.2 (fun W9 q9 hk => by
    have e0 := q9.cell 0
    have e1 := q9.cell 1
    have e2 := q9.cell 2
    have e3 := q9.cell 3
    have e4 := q9.cell 4
    have e5 := q9.cell 5
    have e6 := q9.cell 6
    have e7 := q9.cell 7
    have e8 := q9.cell 8
    simp only [List.getElem?_toArray, List.getElem?_cons_zero, List.getElem?_cons_succ] at e0 e1 e2 e3 e4 e5 e6 e7 e8
    exact bodyPost_ret (v := .agg #[.int .i64 0, .string ⟨c.toArray⟩, .int .i64 0, .int .i64 0, .string ⟨t.toArray⟩, .string ⟨#[]⟩, .int .i64 0, .bool false, .int .i64 0]) (by simp [results, Tryz.results30, go_sem, e0, e1, e2, e3, e4, e5, e6, e7, e8]) rfl ⟨by rw [hv.out], hk⟩)
set_option maxRecDepth 100000 in
set_option maxHeartbeats 2000000 in
theorem rcWhich5_any (c : List UInt8) (seq id : Int) (t b : List UInt8) (q : Int) (r : Bool) (s : Int) (w : World) : Calls Tryz.prog 30 #[rwV ⟨5, c, seq, id, t, b, q, r, s⟩] w (HasPost w (rcWhich ⟨5, c, seq, id, t, b, q, r, s⟩)) := by
  obtain ⟨k, hk⟩ : ∃ k : Int, k = 5 := ⟨_, rfl⟩
  have hv := Lib.hid (show rwV (rcWhich ⟨5, c, seq, id, t, b, q, r, s⟩) = .agg #[.int .i64 0, .string ⟨#[]⟩, .int .i64 0, .int .i64 0, .string ⟨t.toArray⟩, .string ⟨#[]⟩, .int .i64 0, .bool false, .int .i64 0] from rfl)
  rw [← hk]
  obtain ⟨W0, hW0⟩ : ∃ W0, w.alloc (.cells #[.int .i64 k, .string ⟨c.toArray⟩, .int .i64 seq, .int .i64 id, .string ⟨t.toArray⟩, .string ⟨b.toArray⟩, .int .i64 q, .bool r, .int .i64 s] 25) = W0 := ⟨_, rfl⟩
  have k0 : Keeps w W0 [] := by rw [← hW0]; exact Keeps.alloc _ _
  have r0 : Row W0 w.heap.size 25 #[.int .i64 k, .string ⟨c.toArray⟩, .int .i64 seq, .int .i64 id, .string ⟨t.toArray⟩, .string ⟨b.toArray⟩, .int .i64 q, .bool r, .int .i64 s] := by rw [← hW0]; exact Row.new _ _ _
  have HR := Lib.hid (And.intro k0 r0)
  have x0 := r0.cell 0
  have x1 := r0.cell 1
  have x2 := r0.cell 2
  have x3 := r0.cell 3
  have x4 := r0.cell 4
  have x5 := r0.cell 5
  have x6 := r0.cell 6
  have x7 := r0.cell 7
  have x8 := r0.cell 8
  simp only [List.getElem?_toArray, List.getElem?_cons_zero, List.getElem?_cons_succ] at x0 x1 x2 x3 x4 x5 x6 x7 x8
  clear k0 r0
  obtain ⟨W1, hW1⟩ : ∃ W1, W0.alloc (.cells #[.int .i64 0, .string ⟨#[]⟩, .int .i64 0, .int .i64 0, .string ⟨#[]⟩, .string ⟨#[]⟩, .int .i64 0, .bool false, .int .i64 0] 25) = W1 := ⟨_, rfl⟩
  have k1 : Keeps W0 W1 [] := by rw [← hW1]; exact Keeps.alloc _ _
  have r1 := HR.out.2.keeps k1
  have rz : Row W1 W0.heap.size 25 #[.int .i64 0, .string ⟨#[]⟩, .int .i64 0, .int .i64 0, .string ⟨#[]⟩, .string ⟨#[]⟩, .int .i64 0, .bool false, .int .i64 0] := by rw [← hW1]; exact Row.new _ _ _
  obtain ⟨z, hz⟩ : ∃ z, W0.heap.size = z := ⟨_, rfl⟩
  have hz2 : w.heap.size ≤ z := by rw [← hz]; exact HR.out.1.size
  rw [hz] at rz
  clear x0 x1 x2 x3 x4 x5 x6 x7 x8
  have x0 := r1.cell 0
  have x1 := r1.cell 1
  have x2 := r1.cell 2
  have x3 := r1.cell 3
  have x4 := r1.cell 4
  have x5 := r1.cell 5
  have x6 := r1.cell 6
  have x7 := r1.cell 7
  have x8 := r1.cell 8
  simp only [List.getElem?_toArray, List.getElem?_cons_zero, List.getElem?_cons_succ] at x0 x1 x2 x3 x4 x5 x6 x7 x8
  have y0 := rz.cell 0
  have y1 := rz.cell 1
  have y2 := rz.cell 2
  have y3 := rz.cell 3
  have y4 := rz.cell 4
  have y5 := rz.cell 5
  have y6 := rz.cell 6
  have y7 := rz.cell 7
  have y8 := rz.cell 8
  simp only [List.getElem?_toArray, List.getElem?_cons_zero, List.getElem?_cons_succ] at y0 y1 y2 y3 y4 y5 y6 y7 y8
  have g0 := rz.frozen 0
  have g1 := rz.frozen 1
  have g2 := rz.frozen 2
  have g3 := rz.frozen 3
  have g4 := rz.frozen 4
  have g5 := rz.frozen 5
  have g6 := rz.frozen 6
  have g7 := rz.frozen 7
  have g8 := rz.frozen 8
  have HZ := Lib.hid (And.intro rz (And.intro (HR.out.1.then_ k1) hz2))
  clear rz r1 k1 hz2
  subst hk
  go_enter Tryz.func30, Tryz.ntmps30
  go_wp2_with fail
  exact has_end HZ.out.1 HZ.out.2.1 HZ.out.2.2 (fun W9 q9 hk => by
    have e0 := q9.cell 0
    have e1 := q9.cell 1
    have e2 := q9.cell 2
    have e3 := q9.cell 3
    have e4 := q9.cell 4
    have e5 := q9.cell 5
    have e6 := q9.cell 6
    have e7 := q9.cell 7
    have e8 := q9.cell 8
    simp only [List.getElem?_toArray, List.getElem?_cons_zero, List.getElem?_cons_succ] at e0 e1 e2 e3 e4 e5 e6 e7 e8
    exact bodyPost_ret (v := .agg #[.int .i64 0, .string ⟨#[]⟩, .int .i64 0, .int .i64 0, .string ⟨t.toArray⟩, .string ⟨#[]⟩, .int .i64 0, .bool false, .int .i64 0]) (by simp [results, Tryz.results30, go_sem, e0, e1, e2, e3, e4, e5, e6, e7, e8]) rfl ⟨by rw [hv.out], hk⟩)
abbrev tPlum : List UInt8 := [112, 108, 117, 109, 108, 101, 115, 115]
abbrev tBuck : List UInt8 := [98, 117, 99, 107, 101, 114, 111, 111]
set_option maxRecDepth 100000 in
set_option maxHeartbeats 2000000 in
theorem rcIs2_no (w : World) : Calls Tryz.prog 13 #[rwV ⟨2, [99], 0, 0, tPlum, [], 0, false, 0⟩, rwV ⟨2, [99], 0, 0, tBuck, [], 0, false, 0⟩] w (TruePost w false) := by
  obtain ⟨x, hx⟩ : ∃ x : Rw, x = ⟨2, [99], 0, 0, tPlum, [], 0, false, 0⟩ := ⟨_, rfl⟩
  obtain ⟨y, hy⟩ : ∃ y : Rw, y = ⟨2, [99], 0, 0, tBuck, [], 0, false, 0⟩ := ⟨_, rfl⟩
  obtain ⟨W1, hW1⟩ : ∃ W1, (w.alloc (.cells (rwCells x).toArray 25)).alloc (.cells (rwCells y).toArray 25) = W1 := ⟨_, rfl⟩
  have k1 : Keeps w W1 [] := by rw [← hW1]; exact (Keeps.alloc _ _).then_alloc _
  have r1 : Row W1 w.heap.size 25 (rwCells x).toArray := by rw [← hW1]; exact (Row.new _ _ _).alloc _
  have r2 : Row W1 (w.heap.size + 1) 25 (rwCells y).toArray := by
    rw [← hW1]
    have := Row.new (w.alloc (.cells (rwCells x).toArray 25)) 25 (rwCells y).toArray
    rwa [World.size_alloc] at this
  subst hx hy
  have C1 := Lib.hid (fun w => rcWhich2_any [99] 0 0 tPlum [] 0 false 0 w)
  have C2 := Lib.hid (fun w => rcWhich2_any [99] 0 0 tBuck [] 0 false 0 w)
  have HR := Lib.hid (And.intro k1 (And.intro r1 r2))
  clear k1 r1 r2
  go_enter Tryz.func13, Tryz.ntmps13
  go_upto_region 1 with fail
  clear hW1
  have M1 := fun (W : World) (hW : Keeps W1 W []) => HR.out.2.1.keeps hW
  have M2 := fun (W : World) (hW : Keeps W1 W []) => HR.out.2.2.keeps hW
  refine wp_region_keeps _ (by kernel_rfl) rfl (by kernel_rfl) ?_
  apply loose_is
  · intro W vals hW hkn
    clear hkn
    refine ⟨?_⟩
    simp only [fill]
    go_simp
    first | exact ⟨Keeps.refl _ _, rfl⟩ | exact ⟨Keeps.alloc _ _, rfl⟩
  simp only [addEnt]
  apply loose_is
  · intro W vals hW hkn
    simp only [knows] at hkn
    try simp only [and_true] at hkn
    clear hkn; have m0 := (M1 W hW).cell 0; simp only [List.getElem?_toArray, List.getElem?_cons_zero] at m0
    refine ⟨?_⟩
    simp only [fill]
    go_simp
    first | exact ⟨Keeps.refl _ _, rfl⟩ | exact ⟨Keeps.alloc _ _, rfl⟩
  simp only [addEnt]
  apply loose_is
  · intro W vals hW hkn
    clear hkn
    refine ⟨?_⟩
    simp only [fill]
    go_simp
    first | exact ⟨Keeps.refl _ _, rfl⟩ | exact ⟨Keeps.alloc _ _, rfl⟩
  simp only [addEnt]
  apply loose_is
  · intro W vals hW hkn
    simp only [knows] at hkn
    try simp only [and_true] at hkn
    clear hkn; have m0 := (M2 W hW).cell 0; simp only [List.getElem?_toArray, List.getElem?_cons_zero] at m0
    refine ⟨?_⟩
    simp only [fill]
    go_simp
    first | exact ⟨Keeps.refl _ _, rfl⟩ | exact ⟨Keeps.alloc _ _, rfl⟩
  simp only [addEnt]
  apply loose_is
  · intro W vals hW hkn
    clear hkn
    refine ⟨?_⟩
    simp only [fill]
    go_simp
    first | exact ⟨Keeps.refl _ _, rfl⟩ | exact ⟨Keeps.alloc _ _, rfl⟩
  simp only [addEnt]
  apply loose_is
  · intro W vals hW hkn
    clear hkn
    refine ⟨?_⟩
    simp only [fill]
    go_simp
    first | exact ⟨Keeps.refl _ _, rfl⟩ | exact ⟨Keeps.alloc _ _, rfl⟩
  simp only [addEnt]
  apply loose_is
  · intro W vals hW hkn
    simp only [knows] at hkn
    try simp only [and_true] at hkn
    clear hkn; have r1 := M1 W hW; have m0 := r1.cell 0; have m1 := r1.cell 1; have m2 := r1.cell 2; have m3 := r1.cell 3; have m4 := r1.cell 4; have m5 := r1.cell 5; have m6 := r1.cell 6; have m7 := r1.cell 7; have m8 := r1.cell 8; simp only [List.getElem?_toArray, List.getElem?_cons_zero, List.getElem?_cons_succ] at m0 m1 m2 m3 m4 m5 m6 m7 m8
    refine ⟨?_⟩
    simp only [fill]
    go_simp
    first | exact ⟨Keeps.refl _ _, rfl⟩ | exact ⟨Keeps.alloc _ _, rfl⟩
  simp only [addEnt]
  apply loose_is
  · intro W vals hW hkn
    clear hkn
    refine ⟨?_⟩
    simp only [fill]
    go_simp
    refine looseUpon_calls ?_
    exact (C1.out W).mono (by rintro e w2 ⟨rfl, hk⟩; exact ⟨_, rfl, hk, (show _ = Value.agg #[.int .i64 0, .string ⟨#[99]⟩, .int .i64 0, .int .i64 0, .string ⟨#[112, 108, 117, 109, 108, 101, 115, 115]⟩, .string ⟨#[]⟩, .int .i64 0, .bool false, .int .i64 0] from rfl)⟩)
  simp only [addEnt]
  apply loose_is
  · intro W vals hW hkn
    simp only [knows] at hkn
    try simp only [and_true] at hkn
    clear hkn; have r1 := M2 W hW; have m0 := r1.cell 0; have m1 := r1.cell 1; have m2 := r1.cell 2; have m3 := r1.cell 3; have m4 := r1.cell 4; have m5 := r1.cell 5; have m6 := r1.cell 6; have m7 := r1.cell 7; have m8 := r1.cell 8; simp only [List.getElem?_toArray, List.getElem?_cons_zero, List.getElem?_cons_succ] at m0 m1 m2 m3 m4 m5 m6 m7 m8
    refine ⟨?_⟩
    simp only [fill]
    go_simp
    first | exact ⟨Keeps.refl _ _, rfl⟩ | exact ⟨Keeps.alloc _ _, rfl⟩
  simp only [addEnt]
  apply loose_is
  · intro W vals hW hkn
    clear hkn
    refine ⟨?_⟩
    simp only [fill]
    go_simp
    refine looseUpon_calls ?_
    exact (C2.out W).mono (by rintro e w2 ⟨rfl, hk⟩; exact ⟨_, rfl, hk, (show _ = Value.agg #[.int .i64 0, .string ⟨#[99]⟩, .int .i64 0, .int .i64 0, .string ⟨#[98, 117, 99, 107, 101, 114, 111, 111]⟩, .string ⟨#[]⟩, .int .i64 0, .bool false, .int .i64 0] from rfl)⟩)
  simp only [addEnt]
  apply loose_is
  · intro W vals hW hkn
    clear hkn
    refine ⟨?_⟩
    simp only [fill]
    go_simp
    first | exact ⟨Keeps.refl _ _, rfl⟩ | exact ⟨Keeps.alloc _ _, rfl⟩
  simp only [addEnt]
  apply loose_is
  · intro W vals hW hkn
    clear hkn
    refine ⟨?_⟩
    simp only [fill]
    go_simp
    first | exact ⟨Keeps.refl _ _, rfl⟩ | exact ⟨Keeps.alloc _ _, rfl⟩
  simp only [addEnt]
  apply loose_is
  · intro W vals hW hkn
    clear hkn
    refine ⟨?_⟩
    simp only [fill]
    go_simp
    first | exact ⟨Keeps.refl _ _, rfl⟩ | exact ⟨Keeps.alloc _ _, rfl⟩
  simp only [addEnt]
  refine loose_nil (fun W vals hW hkn => ?_)
  simp only [knowsAll] at hkn
  try simp only [and_true] at hkn
  simp only [fill, Act.put, List.setIfInBounds_toArray, List.set_cons_succ, List.set_cons_zero]
  clear hkn
  have HK := Lib.hid (HR.out.1.then_ hW)
  clear hW M1 M2
  go_wp2_with fail
  go_ret
  exact ⟨rfl, HK.out⟩
set_option maxRecDepth 100000 in
set_option maxHeartbeats 2000000 in
theorem rcIs5_no (w : World) : Calls Tryz.prog 13 #[rwV ⟨5, [], 0, 0, tPlum, [98], 0, false, 0⟩, rwV ⟨5, [], 0, 0, tBuck, [98], 0, false, 0⟩] w (TruePost w false) := by
  obtain ⟨x, hx⟩ : ∃ x : Rw, x = ⟨5, [], 0, 0, tPlum, [98], 0, false, 0⟩ := ⟨_, rfl⟩
  obtain ⟨y, hy⟩ : ∃ y : Rw, y = ⟨5, [], 0, 0, tBuck, [98], 0, false, 0⟩ := ⟨_, rfl⟩
  obtain ⟨W1, hW1⟩ : ∃ W1, (w.alloc (.cells (rwCells x).toArray 25)).alloc (.cells (rwCells y).toArray 25) = W1 := ⟨_, rfl⟩
  have k1 : Keeps w W1 [] := by rw [← hW1]; exact (Keeps.alloc _ _).then_alloc _
  have r1 : Row W1 w.heap.size 25 (rwCells x).toArray := by rw [← hW1]; exact (Row.new _ _ _).alloc _
  have r2 : Row W1 (w.heap.size + 1) 25 (rwCells y).toArray := by
    rw [← hW1]
    have := Row.new (w.alloc (.cells (rwCells x).toArray 25)) 25 (rwCells y).toArray
    rwa [World.size_alloc] at this
  subst hx hy
  have C1 := Lib.hid (fun w => rcWhich5_any [] 0 0 tPlum [98] 0 false 0 w)
  have C2 := Lib.hid (fun w => rcWhich5_any [] 0 0 tBuck [98] 0 false 0 w)
  have HR := Lib.hid (And.intro k1 (And.intro r1 r2))
  clear k1 r1 r2
  go_enter Tryz.func13, Tryz.ntmps13
  go_upto_region 1 with fail
  clear hW1
  have M1 := fun (W : World) (hW : Keeps W1 W []) => HR.out.2.1.keeps hW
  have M2 := fun (W : World) (hW : Keeps W1 W []) => HR.out.2.2.keeps hW
  refine wp_region_keeps _ (by kernel_rfl) rfl (by kernel_rfl) ?_
  apply loose_is
  · intro W vals hW hkn
    clear hkn
    refine ⟨?_⟩
    simp only [fill]
    go_simp
    first | exact ⟨Keeps.refl _ _, rfl⟩ | exact ⟨Keeps.alloc _ _, rfl⟩
  simp only [addEnt]
  apply loose_is
  · intro W vals hW hkn
    simp only [knows] at hkn
    try simp only [and_true] at hkn
    clear hkn; have m0 := (M1 W hW).cell 0; simp only [List.getElem?_toArray, List.getElem?_cons_zero] at m0
    refine ⟨?_⟩
    simp only [fill]
    go_simp
    first | exact ⟨Keeps.refl _ _, rfl⟩ | exact ⟨Keeps.alloc _ _, rfl⟩
  simp only [addEnt]
  apply loose_is
  · intro W vals hW hkn
    clear hkn
    refine ⟨?_⟩
    simp only [fill]
    go_simp
    first | exact ⟨Keeps.refl _ _, rfl⟩ | exact ⟨Keeps.alloc _ _, rfl⟩
  simp only [addEnt]
  apply loose_is
  · intro W vals hW hkn
    simp only [knows] at hkn
    try simp only [and_true] at hkn
    clear hkn; have m0 := (M2 W hW).cell 0; simp only [List.getElem?_toArray, List.getElem?_cons_zero] at m0
    refine ⟨?_⟩
    simp only [fill]
    go_simp
    first | exact ⟨Keeps.refl _ _, rfl⟩ | exact ⟨Keeps.alloc _ _, rfl⟩
  simp only [addEnt]
  apply loose_is
  · intro W vals hW hkn
    clear hkn
    refine ⟨?_⟩
    simp only [fill]
    go_simp
    first | exact ⟨Keeps.refl _ _, rfl⟩ | exact ⟨Keeps.alloc _ _, rfl⟩
  simp only [addEnt]
  apply loose_is
  · intro W vals hW hkn
    clear hkn
    refine ⟨?_⟩
    simp only [fill]
    go_simp
    first | exact ⟨Keeps.refl _ _, rfl⟩ | exact ⟨Keeps.alloc _ _, rfl⟩
  simp only [addEnt]
  apply loose_is
  · intro W vals hW hkn
    simp only [knows] at hkn
    try simp only [and_true] at hkn
    clear hkn; have r1 := M1 W hW; have m0 := r1.cell 0; have m1 := r1.cell 1; have m2 := r1.cell 2; have m3 := r1.cell 3; have m4 := r1.cell 4; have m5 := r1.cell 5; have m6 := r1.cell 6; have m7 := r1.cell 7; have m8 := r1.cell 8; simp only [List.getElem?_toArray, List.getElem?_cons_zero, List.getElem?_cons_succ] at m0 m1 m2 m3 m4 m5 m6 m7 m8
    refine ⟨?_⟩
    simp only [fill]
    go_simp
    first | exact ⟨Keeps.refl _ _, rfl⟩ | exact ⟨Keeps.alloc _ _, rfl⟩
  simp only [addEnt]
  apply loose_is
  · intro W vals hW hkn
    clear hkn
    refine ⟨?_⟩
    simp only [fill]
    go_simp
    refine looseUpon_calls ?_
    exact (C1.out W).mono (by rintro e w2 ⟨rfl, hk⟩; exact ⟨_, rfl, hk, (show _ = Value.agg #[.int .i64 0, .string ⟨#[]⟩, .int .i64 0, .int .i64 0, .string ⟨#[112, 108, 117, 109, 108, 101, 115, 115]⟩, .string ⟨#[]⟩, .int .i64 0, .bool false, .int .i64 0] from rfl)⟩)
  simp only [addEnt]
  apply loose_is
  · intro W vals hW hkn
    simp only [knows] at hkn
    try simp only [and_true] at hkn
    clear hkn; have r1 := M2 W hW; have m0 := r1.cell 0; have m1 := r1.cell 1; have m2 := r1.cell 2; have m3 := r1.cell 3; have m4 := r1.cell 4; have m5 := r1.cell 5; have m6 := r1.cell 6; have m7 := r1.cell 7; have m8 := r1.cell 8; simp only [List.getElem?_toArray, List.getElem?_cons_zero, List.getElem?_cons_succ] at m0 m1 m2 m3 m4 m5 m6 m7 m8
    refine ⟨?_⟩
    simp only [fill]
    go_simp
    first | exact ⟨Keeps.refl _ _, rfl⟩ | exact ⟨Keeps.alloc _ _, rfl⟩
  simp only [addEnt]
  apply loose_is
  · intro W vals hW hkn
    clear hkn
    refine ⟨?_⟩
    simp only [fill]
    go_simp
    refine looseUpon_calls ?_
    exact (C2.out W).mono (by rintro e w2 ⟨rfl, hk⟩; exact ⟨_, rfl, hk, (show _ = Value.agg #[.int .i64 0, .string ⟨#[]⟩, .int .i64 0, .int .i64 0, .string ⟨#[98, 117, 99, 107, 101, 114, 111, 111]⟩, .string ⟨#[]⟩, .int .i64 0, .bool false, .int .i64 0] from rfl)⟩)
  simp only [addEnt]
  apply loose_is
  · intro W vals hW hkn
    clear hkn
    refine ⟨?_⟩
    simp only [fill]
    go_simp
    first | exact ⟨Keeps.refl _ _, rfl⟩ | exact ⟨Keeps.alloc _ _, rfl⟩
  simp only [addEnt]
  apply loose_is
  · intro W vals hW hkn
    clear hkn
    refine ⟨?_⟩
    simp only [fill]
    go_simp
    first | exact ⟨Keeps.refl _ _, rfl⟩ | exact ⟨Keeps.alloc _ _, rfl⟩
  simp only [addEnt]
  apply loose_is
  · intro W vals hW hkn
    clear hkn
    refine ⟨?_⟩
    simp only [fill]
    go_simp
    first | exact ⟨Keeps.refl _ _, rfl⟩ | exact ⟨Keeps.alloc _ _, rfl⟩
  simp only [addEnt]
  refine loose_nil (fun W vals hW hkn => ?_)
  simp only [knowsAll] at hkn
  try simp only [and_true] at hkn
  simp only [fill, Act.put, List.setIfInBounds_toArray, List.set_cons_succ, List.set_cons_zero]
  clear hkn
  have HK := Lib.hid (HR.out.1.then_ hW)
  clear hW M1 M2
  go_wp2_with fail
  go_ret
  exact ⟨rfl, HK.out⟩
end Go.Proofs.YtfglgeoookbppaaGreatDoor

namespace Go.Proofs.YtfglgeoookbppaaGreatDoor
open Go.RowKit Go.Shelf

theorem client_ascii {s : List UInt8} (h : ∀ a ∈ s, 0 < a.toNat ∧ a.toNat < 128) (h1 : 1 ≤ s.length) (h2 : s.length ≤ 23) : rcClient s = true := by
  unfold rcClient
  rw [decide_eq_true h1, decide_eq_true h2, uGood_all_ascii h]
  rfl
def rwIn : Rw := ⟨4, [120], 0, 3, [], [], 0, false, 0⟩
theorem rwIn_ok : rcOk rwIn = true := by
  show (rcIs 4 && ((rcClient [120] && inN 3 1 65535) && rwEq _ rwIn)) = true
  rw [client_ascii (by decide) (by decide) (by decide)]
  decide
theorem rwIn_0 : rcKeyS rwIn 0 = [3, 120, 0, 1, 1, 128, 0, 0, 0, 0, 0, 0, 3] ∧ rcKeyE rwIn 0 = 0 := by
  have h : rcFits rwIn 0 = true := by
    unfold rcFits
    rw [rwIn_ok]
    decide
  unfold rcKeyS rcKeyE
  rw [if_pos h, if_pos h]
  exact ⟨by decide +kernel, rfl⟩
theorem rwIn_1 : rcKeyE rwIn 1 = 2 := by
  have h : rcFits rwIn 1 = false := by
    unfold rcFits
    rw [rwIn_ok]
    decide
  unfold rcKeyE
  rw [if_neg (by rw [h]; simp)]
def rwOut : Rw := ⟨3, [120], 0, 4, [97], [], 1, false, 1⟩
theorem rwOut_no : rcOk rwOut = false := by
  have h : rcMay 3 rwOut = false := by
    show (rcClient [120] && (inN 0 0 4611686018427387904 && (tName [97] && (decide (([] : List UInt8).length ≤ 2000) && (inN 1 1 2 && rcStage rwOut))))) = false
    rw [show rcStage rwOut = false by decide]
    simp
  show (rcIs 3 && (rcMay 3 rwOut && _)) = false
  rw [h]
  simp
theorem small_of (x : Rw) (h1 : x.c.length ≤ 50000) (h2 : x.t.length ≤ 50000) (h3 : x.b.length ≤ 50000) : x.Small := ⟨h1, h2, h3⟩
theorem kd_in {k : Int} {ok : Bool} (h1 : ok = true → rcIs k = true ∧ rcTree k = [105, 110]) (h2 : ok = false → k = 0 ∧ ∀ x, rcIs x = true → rcTree x ≠ [105, 110]) : ok = true ∧ k = 4 := by
  cases ok with
  | false => exact absurd (show rcTree 4 = [105, 110] by decide) ((h2 rfl).2 4 (by decide))
  | true =>
    obtain ⟨g1, g2⟩ := h1 rfl
    refine ⟨rfl, ?_⟩
    have e : k = 1 ∨ k = 2 ∨ k = 3 ∨ k = 4 ∨ k = 5 := by
      unfold rcIs inN at g1
      simp only [Bool.and_eq_true, decide_eq_true_eq] at g1
      omega
    rcases e with rfl | rfl | rfl | rfl | rfl
    · exact absurd g2 (by decide)
    · exact absurd g2 (by decide)
    · exact absurd g2 (by decide)
    · rfl
    · exact absurd g2 (by decide)
theorem kd_x {k : Int} {ok : Bool} (h1 : ok = true → rcIs k = true ∧ rcTree k = [120]) : ok = false := by
  cases ok with
  | false => rfl
  | true =>
    obtain ⟨g1, g2⟩ := h1 rfl
    have e : k = 1 ∨ k = 2 ∨ k = 3 ∨ k = 4 ∨ k = 5 := by
      unfold rcIs inN at g1
      simp only [Bool.and_eq_true, decide_eq_true_eq] at g1
      omega
    rcases e with rfl | rfl | rfl | rfl | rfl <;> exact absurd g2 (by decide)
set_option maxRecDepth 100000 in
set_option maxHeartbeats 2000000 in
theorem known19_any (w : World) (hm : MaxL w) : Calls Tryz.prog 10 #[] w (TruePost w true) := by
  have HM := Lib.hid hm
  clear hm
  go_enter Tryz.func10, Tryz.ntmps10
  go_wp2_with fail
  refine (rcTree_any _ 3 (by omega) (by omega)).mono ?_
  rintro e w1 ⟨rfl, hk⟩
  rw [show rcIs 3 = true by decide, if_pos rfl, show rcTree 3 = [111, 117, 116] by decide]
  have H1 := Lib.hid hk
  clear hk
  go_wp2_with fail
  refine (rcKind_any _ [105, 110]).mono ?_
  rintro e w2 ⟨k, ok, rfl, h1, h2, hk⟩
  obtain ⟨rfl, rfl⟩ := kd_in h1 h2
  have H2 := Lib.hid (H1.out.then_ hk)
  clear h1 h2 hk
  go_wp2_with fail
  refine (rcKind_any _ [120]).mono ?_
  rintro e w3 ⟨k, ok, rfl, h1, _, hk⟩
  obtain rfl := kd_x h1
  have H3 := Lib.hid (H2.out.then_ hk)
  clear h1 hk
  go_upto_region 5 with fail
  obtain ⟨W4, hW4⟩ : ∃ W4, w3.alloc (.cells #[.int .i64 4, .string ⟨#[120]⟩, .int .i64 0, .int .i64 3, .string ⟨#[]⟩, .string ⟨#[]⟩, .int .i64 0, .bool false, .int .i64 0] 25) = W4 := ⟨_, rfl⟩
  try rw [hW4]
  have k4 : Keeps w3 W4 [] := by rw [← hW4]; exact Keeps.alloc _ _
  have r4 : Row W4 w3.heap.size 25 #[.int .i64 4, .string ⟨#[120]⟩, .int .i64 0, .int .i64 3, .string ⟨#[]⟩, .string ⟨#[]⟩, .int .i64 0, .bool false, .int .i64 0] := by rw [← hW4]; exact Row.new _ _ _
  have H4 := Lib.hid (And.intro (H3.out.then_ k4) r4)
  have x0 := r4.cell 0
  have x1 := r4.cell 1
  have x2 := r4.cell 2
  have x3 := r4.cell 3
  have x4 := r4.cell 4
  have x5 := r4.cell 5
  have x6 := r4.cell 6
  have x7 := r4.cell 7
  have x8 := r4.cell 8
  simp only [List.getElem?_toArray, List.getElem?_cons_zero, List.getElem?_cons_succ] at x0 x1 x2 x3 x4 x5 x6 x7 x8
  clear k4 r4
  clear hW4
  go_wp2_with fail
  refine (rcKey_any rwIn 0 _ (small_of _ (by decide) (by decide) (by decide)) (HM.out.keeps H4.out.1) (by decide) (by decide)).mono ?_
  rintro e w5 ⟨rfl, hk⟩
  rw [rwIn_0.1, rwIn_0.2]
  unfold strV
  have r5 := H4.out.2.keeps hk
  have H5 := Lib.hid (And.intro (H4.out.1.then_ hk) r5)
  clear x0 x1 x2 x3 x4 x5 x6 x7 x8 hk
  try clear hW4
  have x0 := r5.cell 0
  have x1 := r5.cell 1
  have x2 := r5.cell 2
  have x3 := r5.cell 3
  have x4 := r5.cell 4
  have x5 := r5.cell 5
  have x6 := r5.cell 6
  have x7 := r5.cell 7
  have x8 := r5.cell 8
  simp only [List.getElem?_toArray, List.getElem?_cons_zero, List.getElem?_cons_succ] at x0 x1 x2 x3 x4 x5 x6 x7 x8
  clear r5
  go_wp2_with fail
  refine (rcKey_any rwIn 1 _ (small_of _ (by decide) (by decide) (by decide)) (HM.out.keeps H5.out.1) (by decide) (by decide)).mono ?_
  rintro e w6 ⟨rfl, hk⟩
  rw [rwIn_1]
  unfold strV
  generalize rcKeyS rwIn 1 = sq
  have H6 := Lib.hid (H5.out.1.then_ hk)
  clear x0 x1 x2 x3 x4 x5 x6 x7 x8 hk
  go_wp2_with fail
  refine (rcCheck_any rwOut _ (small_of _ (by decide) (by decide) (by decide)) (HM.out.keeps H6.out) (by decide) (by decide)).mono ?_
  rintro e w7 ⟨rfl, hk⟩
  rw [rwOut_no, if_neg (by simp)]
  have H7 := Lib.hid (H6.out.then_ hk)
  clear hk
  go_wp2_with fail
  go_ret
  exact ⟨rfl, H7.out⟩
end Go.Proofs.YtfglgeoookbppaaGreatDoor
