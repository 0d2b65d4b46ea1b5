/- Package records: Kind. Law 19: known. Texts as values. Package topic, plain: levels put together; within is told by what is met. Reference 13: signs. Reference 12: May. -/
import Derived.Test.YtfglgeoookbppaaGreatDoorPa22
import Derived.Maps.Range
import Derived.Maps.RangeWalk
import Derived.Test.YtfglgeoookbppaaGreatDoorPa11
import Derived.Test.YtfglgeoookbppaaGreatDoorPa3

namespace Go.Proofs.YtfglgeoookbppaaGreatDoor
open Go.RowKit Go.Shelf Go.Maps

theorem ranges_keeps {P : Program} {k : TypeId} {w w' : World} {b r n cnt : Nat} {D : DataW Value} {left : Lit → Bool} {S : List Nat} (h : w.ranges P k heldR b r n D left cnt) (hk : Keeps w w' S) (hb : b ∉ S) (hr : r ∉ S) : w'.ranges P k heldR b r n D left cnt := by
 have h1 := h.owns.lt
 have h2 := h.lt
 obtain ⟨es, clock, since, seen, c0, q1, q2, q3, q4, q5, q6⟩ := h
 exact ⟨es, clock, since, seen, c0, (hk.block b h1 hb).trans q1, q2, q3, q4, (hk.block r h2 hr).trans q5, q6⟩
theorem rcAll_yes {k : Int} (h : rcIs k = true) (zd : DataW Value) : rcAll.atKey (.int .i64 k) zd = .held (rcOf k) := by
 have e : k = 1 ∨ k = 2 ∨ k = 3 ∨ k = 4 ∨ k = 5 := by
  unfold rcIs inN at h
  simp only [Bool.and_eq_true, decide_eq_true_eq] at h
  omega
 rcases e with rfl | rfl | rfl | rfl | rfl <;> rfl
theorem rcAll_no {k : Int} (h : rcIs k = false) (zd : DataW Value) : rcAll.atKey (.int .i64 k) zd = zd := by
 unfold rcIs inN at h
 simp only [Bool.and_eq_false_iff, decide_eq_false_iff_not] at h
 have s1 : (Lit.int .i64 1).sameKey (.int .i64 k) = false := by simp [Lit.sameKey]; omega
 have s2 : (Lit.int .i64 2).sameKey (.int .i64 k) = false := by simp [Lit.sameKey]; omega
 have s3 : (Lit.int .i64 3).sameKey (.int .i64 k) = false := by simp [Lit.sameKey]; omega
 have s4 : (Lit.int .i64 4).sameKey (.int .i64 k) = false := by simp [Lit.sameKey]; omega
 have s5 : (Lit.int .i64 5).sameKey (.int .i64 k) = false := by simp [Lit.sameKey]; omega
 show (DataW.map [(Lit.int .i64 1, .held rc1), (Lit.int .i64 2, .held rc2), (Lit.int .i64 3, .held rc3), (Lit.int .i64 4, .held rc4), (Lit.int .i64 5, .held rc5)]).atKey _ zd = zd
 simp [DataW.atKey, List.find?, s1, s2, s3, s4, s5]
theorem rcAll_has {k : Int} (h : rcIs k = true) : Maps.has rcAll (.int .i64 k) = true := by
 have e : k = 1 ∨ k = 2 ∨ k = 3 ∨ k = 4 ∨ k = 5 := by
  unfold rcIs inN at h
  simp only [Bool.and_eq_true, decide_eq_true_eq] at h
  omega
 rcases e with rfl | rfl | rfl | rfl | rfl <;> decide
/-- Kind's closure: is it that tree? -/
theorem rcKind1_any (w : World) (tb : Nat) (s : List UInt8) (T : ByteArray) (i1 i2 i3 : FuncId) (pl : Bool) (hr : Row w tb 9 #[.string ⟨s.toArray⟩]) : Calls Tryz.prog 57 #[.agg #[.string T, .func (.func i1) #[] #[], .func (.func i2) #[] #[], .func (.func i3) #[] #[], .bool pl], .pointer (some ⟨tb, 0, none⟩)] w (TruePost w (T.toList == s)) := by
 obtain ⟨S, hS⟩ : ∃ S : ByteArray, (⟨s.toArray⟩ : ByteArray) = S := ⟨_, rfl⟩
 have eS : S.toList = s := by rw [← hS, Lib.toList_data]
 rw [hS] at hr
 obtain ⟨q, hq⟩ : ∃ q, (T.toList == S.toList) = q := ⟨_, rfl⟩
 have HQ := Lib.hid (show (T.toList == s) = q by rw [← eS]; exact hq)
 obtain ⟨W0, hW0⟩ : ∃ W0, w.alloc (.cells #[.string T, .func (.func i1) #[] #[], .func (.func i2) #[] #[], .func (.func i3) #[] #[], .bool pl] 55) = W0 := ⟨_, rfl⟩
 have k0 : Keeps w W0 [] := by rw [← hW0]; exact Keeps.alloc _ _
 have r0 : Row W0 w.heap.size 55 #[.string T, .func (.func i1) #[] #[], .func (.func i2) #[] #[], .func (.func i3) #[] #[], .bool pl] := by rw [← hW0]; exact Row.new _ _ _
 have c0 := r0.cell 0
 have c1 := (hr.keeps k0).cell 0
 simp only [List.getElem?_toArray, List.getElem?_cons_zero] at c0 c1
 have HK := Lib.hid k0
 clear k0 r0 hr hS eS
 go_enter Tryz.func57, Tryz.ntmps57
 go_wp2_with fail
 go_ret
 exact ⟨by rw [HQ.out]; rfl, HK.out⟩
def KdPost (w : World) (s : List UInt8) (e : Ending) (w' : World) : Prop := ∃ (k : Int) (ok : Bool), e = .returned (.tuple #[.int .i64 k, .bool ok]) ∧ (ok = true → rcIs k = true ∧ rcTree k = s) ∧ (ok = false → k = 0 ∧ ∀ x, rcIs x = true → rcTree x ≠ s) ∧ Keeps w w' []
set_option maxRecDepth 100000 in
set_option maxHeartbeats 2000000 in
theorem rcFound_any (w : World) (b tb : Nat) (s : List UInt8) (hb : RcKinds w b) (hr : Row w tb 9 #[.string ⟨s.toArray⟩]) : Calls Tryz.prog 56 #[.map (some b), .func (.func 57) #[] #[.pointer (some ⟨tb, 0, none⟩)]] w (KdPost w s) := by
 obtain ⟨w4, hrun, hrg, hg4, _⟩ := World.ownsMap.range hb (int_keyed undRk) undRkM
 have hk4 : Keeps w w4 [] := Keeps.of_grown hg4
 have hblt : b < w.heap.size := hb.lt
 have HP := Lib.hid (show w4.ranges Tryz.prog 22 heldR b w.heap.size 5 rcAll (Maps.has rcAll) (Maps.size rcAll) ∧ (∀ x, rcIs x = true → Maps.has rcAll (.int .i64 x) = false → rcTree x ≠ s) ∧ Keeps w w4 [] from ⟨hrg, (fun x hx hh => by rw [rcAll_has hx] at hh; cases hh), hk4⟩)
 have HR := Lib.hid hr
 clear hrg hg4 hk4 hb hr
 go_enter Tryz.func56, Tryz.ntmps56
 go_wp2_with fail
 clear hrun
 go_loopw [] (fun w' => ∃ (left : Lit → Bool) (cnt : Nat), Hid (w'.ranges Tryz.prog 22 heldR b w.heap.size 5 rcAll left cnt ∧ (∀ x, rcIs x = true → left (.int .i64 x) = false → rcTree x ≠ s) ∧ Keeps w w' [])) (fun w' => w'.rangeLeft b w.heap.size)
 case atStart => exact ⟨_, _, HP⟩
 case round =>
  clear HP
  obtain ⟨left, cnt, HI⟩ := hrel
  have hml := World.ranges.left_eq HI.out.1
  rcases World.ranges.next HI.out.1 (int_keyed undRk) 0 with ⟨_, hall, hrun⟩ | ⟨key, v, kl, y, w5, cnt5, hkey, hleft, hR, hat, hrun, hrg5, hlt5, hgr5, _, hen⟩
  ·have hnx : ∀ ty, (Instr.next (.pointer (some ⟨w.heap.size, 0, none⟩)) false ty).run Tryz.prog wr = _ := fun _ => hrun
   have HA := Lib.hid (show ∀ x, rcIs x = true → rcTree x ≠ s from fun x hx => HI.out.2.1 x hx (hall _))
   clear hall hrun hml
   go_wp2_with fail
   go_ret2
   exact ⟨0, false, rfl, (fun h => by cases h), fun _ => ⟨rfl, HA.out⟩, HI.out.2.2⟩
  ·obtain ⟨x, rfl, rfl, hwf⟩ := Maps.keyOf_int_inv undRk hkey
   simp only [heldR, Option.some.injEq] at hR
   subst hR
   have hx : rcIs x = true := by
    cases hxi : rcIs x with
    | true => rfl
    | false =>
     have := hat .nil
     rw [rcAll_no hxi] at this
     cases this
   have hv : v = rcOf x := by
    have := hat .nil
    rw [rcAll_yes hx] at this
    injection this with this
    exact this.symm
   subst hv
   obtain ⟨T, i1, i2, i3, pl, K⟩ := rcK hx
   have HX := Lib.hid (And.intro hx K.tree)
   rw [K.of] at hrun hen
   have hk5 : Keeps w w5 [] := HI.out.2.2.trans (Keeps.of_grown hgr5) (fun z hz hlt => by simp at hz; omega)
   have hnx : ∀ ty, (Instr.next (.pointer (some ⟨w.heap.size, 0, none⟩)) false ty).run Tryz.prog wr = _ := fun _ => hrun
   have HN5 := Lib.hid (show w5.ranges Tryz.prog 22 heldR b w.heap.size 5 rcAll (fun z => left z && !z.sameKey (.int .i64 x)) cnt5 ∧ cnt5 < wr.rangeLeft b w.heap.size ∧ Keeps w w5 [] from ⟨hrg5, by rw [hml]; exact hlt5, hk5⟩)
   clear hrun hrg5 hlt5 hgr5 hat hkey hleft hml hk5 K hx
   go_wp2_with fail
   obtain ⟨q, hq⟩ : ∃ q, (T.toList == s) = q := ⟨_, rfl⟩
   refine (rcKind1_any _ tb s T i1 i2 i3 pl (HR.out.keeps (HN5.out.2.2.then_alloc _))).mono ?_
   rintro e w6 ⟨rfl, hk6⟩
   have hk7 : Keeps w5 w6 [] := (Keeps.alloc _ _).trans hk6 (by simp)
   have hr7 := ranges_keeps HN5.out.1 hk7 (by simp) (by simp)
   have HQ := Lib.hid hq
   have H7 := Lib.hid (And.intro hr7 (And.intro (World.ranges.left_eq hr7) (HN5.out.2.2.then_ hk7)))
   rw [hq]
   clear hq hk6 hk7 hr7 hen hnx
   have hTs : T.toList = rcTree x := by rw [HX.out.2, Lib.toList_data]
   cases q with
   | true =>
    go_wp2_with fail
    go_ret2
    exact ⟨x, true, rfl, fun _ => ⟨HX.out.1, by have := HQ.out; rw [beq_iff_eq, hTs] at this; exact this⟩, (fun h => by cases h), H7.out.2.2⟩
   | false =>
    go_wp2_with fail
    refine ⟨⟨_, cnt5, Lib.hid ⟨H7.out.1, fun z hz hh => ?_, H7.out.2.2⟩⟩, by rw [H7.out.2.1]; exact HN5.out.2.1⟩
    by_cases hzx : z = x
    ·rw [hzx]
     have := HQ.out
     rw [beq_eq_false_iff_ne, hTs] at this
     exact this
    ·refine HI.out.2.1 z hz ?_
     have hsk : (Lit.int .i64 z).sameKey (.int .i64 x) = false := by
      cases hs : (Lit.int .i64 z).sameKey (.int .i64 x) with
      | false => rfl
      | true =>
       have := WideAt.sameKey_eq hs
       injection this with _ e
       exact absurd e hzx
     rw [hsk] at hh
     simpa using hh
set_option maxRecDepth 100000 in
set_option maxHeartbeats 1000000 in
theorem rcKind_any (w : World) (s : List UInt8) : Calls Tryz.prog 25 #[.string ⟨s.toArray⟩] w (KdPost w s) := by
 obtain ⟨W0, hW0⟩ : ∃ W0, w.alloc (.cells #[.string ⟨s.toArray⟩] 9) = W0 := ⟨_, rfl⟩
 have k0 : Keeps w W0 [] := by rw [← hW0]; exact Keeps.alloc _ _
 have r0 : Row W0 w.heap.size 9 #[.string ⟨s.toArray⟩] := by rw [← hW0]; exact Row.new _ _ _
 have HR := Lib.hid (And.intro k0 r0)
 clear k0 r0
 go_enter Tryz.func25, Tryz.ntmps25
 go_wp2_with fail
 refine (rcKinds_any _).mono ?_
 rintro e w1 ⟨b, rfl, hb, hk⟩
 have HF := Lib.hid (rcFound_any w1 b w.heap.size s hb (HR.out.2.keeps hk))
 have HK := Lib.hid (HR.out.1.then_ hk)
 clear hb hk hW0
 go_wp2_with fail
 refine HF.out.mono ?_
 rintro e w2 ⟨k, ok, rfl, h1, h2, hk⟩
 have HZ := Lib.hid (And.intro h1 (And.intro h2 (HK.out.then_ hk)))
 clear h1 h2 hk HF
 go_wp2_with fail
 go_ret2
 exact ⟨k, ok, rfl, HZ.out⟩
end Go.Proofs.YtfglgeoookbppaaGreatDoor

namespace Go.Proofs.YtfglgeoookbppaaGreatDoor
open Go.RowKit Go.Shelf

theorem client_ascii {s : List UInt8} (h : ∀ a ∈ s, 0 < a.toNat ∧ a.toNat < 128) (h1 : 1 ≤ s.length) (h2 : s.length ≤ 23) : rcClient s = true := by
 unfold rcClient
 rw [decide_eq_true h1, decide_eq_true h2, uGood_all_ascii h]
 rfl
def rwIn : Rw := ⟨4, [120], 0, 3, [], [], 0, false, 0⟩
theorem rwIn_ok : rcOk rwIn = true := by
 show (rcIs 4 && ((rcClient [120] && inN 3 1 65535) && rwEq _ rwIn)) = true
 rw [client_ascii (by decide) (by decide) (by decide)]
 decide
theorem rwIn_0 : rcKeyS rwIn 0 = [3, 120, 0, 1, 1, 128, 0, 0, 0, 0, 0, 0, 3] ∧ rcKeyE rwIn 0 = 0 := by
 have h : rcFits rwIn 0 = true := by
  unfold rcFits
  rw [rwIn_ok]
  decide
 unfold rcKeyS rcKeyE
 rw [if_pos h, if_pos h]
 exact ⟨by decide +kernel, rfl⟩
theorem rwIn_1 : rcKeyE rwIn 1 = 2 := by
 have h : rcFits rwIn 1 = false := by
  unfold rcFits
  rw [rwIn_ok]
  decide
 unfold rcKeyE
 rw [if_neg (by rw [h]; simp)]
def rwOut : Rw := ⟨3, [120], 0, 4, [97], [], 1, false, 1⟩
theorem rwOut_no : rcOk rwOut = false := by
 have h : rcMay 3 rwOut = false := by
  show (rcClient [120] && (inN 0 0 4611686018427387904 && (tName [97] && (decide (([] : List UInt8).length ≤ 2000) && (inN 1 1 2 && rcStage rwOut))))) = false
  rw [show rcStage rwOut = false by decide]
  simp
 show (rcIs 3 && (rcMay 3 rwOut && _)) = false
 rw [h]
 simp
theorem small_of (x : Rw) (h1 : x.c.length ≤ 50000) (h2 : x.t.length ≤ 50000) (h3 : x.b.length ≤ 50000) : x.Small := ⟨h1, h2, h3⟩
theorem kd_in {k : Int} {ok : Bool} (h1 : ok = true → rcIs k = true ∧ rcTree k = [105, 110]) (h2 : ok = false → k = 0 ∧ ∀ x, rcIs x = true → rcTree x ≠ [105, 110]) : ok = true ∧ k = 4 := by
 cases ok with
 | false => exact absurd (show rcTree 4 = [105, 110] by decide) ((h2 rfl).2 4 (by decide))
 | true =>
  obtain ⟨g1, g2⟩ := h1 rfl
  refine ⟨rfl, ?_⟩
  have e : k = 1 ∨ k = 2 ∨ k = 3 ∨ k = 4 ∨ k = 5 := by
   unfold rcIs inN at g1
   simp only [Bool.and_eq_true, decide_eq_true_eq] at g1
   omega
  rcases e with rfl | rfl | rfl | rfl | rfl
  ·exact absurd g2 (by decide)
  ·exact absurd g2 (by decide)
  ·exact absurd g2 (by decide)
  ·rfl
  ·exact absurd g2 (by decide)
theorem kd_x {k : Int} {ok : Bool} (h1 : ok = true → rcIs k = true ∧ rcTree k = [120]) : ok = false := by
 cases ok with
 | false => rfl
 | true =>
  obtain ⟨g1, g2⟩ := h1 rfl
  have e : k = 1 ∨ k = 2 ∨ k = 3 ∨ k = 4 ∨ k = 5 := by
   unfold rcIs inN at g1
   simp only [Bool.and_eq_true, decide_eq_true_eq] at g1
   omega
  rcases e with rfl | rfl | rfl | rfl | rfl <;> exact absurd g2 (by decide)
set_option maxRecDepth 100000 in
set_option maxHeartbeats 2000000 in
theorem known19_any (w : World) (hm : MaxL w) : Calls Tryz.prog 10 #[] w (TruePost w true) := by
 have HM := Lib.hid hm
 clear hm
 go_enter Tryz.func10, Tryz.ntmps10
 go_wp2_with fail
 refine (rcTree_any _ 3 (by omega) (by omega)).mono ?_
 rintro e w1 ⟨rfl, hk⟩
 rw [show rcIs 3 = true by decide, if_pos rfl, show rcTree 3 = [111, 117, 116] by decide]
 have H1 := Lib.hid hk
 clear hk
 go_wp2_with fail
 refine (rcKind_any _ [105, 110]).mono ?_
 rintro e w2 ⟨k, ok, rfl, h1, h2, hk⟩
 obtain ⟨rfl, rfl⟩ := kd_in h1 h2
 have H2 := Lib.hid (H1.out.then_ hk)
 clear h1 h2 hk
 go_wp2_with fail
 refine (rcKind_any _ [120]).mono ?_
 rintro e w3 ⟨k, ok, rfl, h1, _, hk⟩
 obtain rfl := kd_x h1
 have H3 := Lib.hid (H2.out.then_ hk)
 clear h1 hk
 go_upto_region 5 with fail
 obtain ⟨W4, hW4⟩ : ∃ W4, w3.alloc (.cells #[.int .i64 4, .string ⟨#[120]⟩, .int .i64 0, .int .i64 3, .string ⟨#[]⟩, .string ⟨#[]⟩, .int .i64 0, .bool false, .int .i64 0] 25) = W4 := ⟨_, rfl⟩
 try rw [hW4]
 have k4 : Keeps w3 W4 [] := by rw [← hW4]; exact Keeps.alloc _ _
 have r4 : Row W4 w3.heap.size 25 #[.int .i64 4, .string ⟨#[120]⟩, .int .i64 0, .int .i64 3, .string ⟨#[]⟩, .string ⟨#[]⟩, .int .i64 0, .bool false, .int .i64 0] := by rw [← hW4]; exact Row.new _ _ _
 have H4 := Lib.hid (And.intro (H3.out.then_ k4) r4)
 have x0 := r4.cell 0
 have x1 := r4.cell 1
 have x2 := r4.cell 2
 have x3 := r4.cell 3
 have x4 := r4.cell 4
 have x5 := r4.cell 5
 have x6 := r4.cell 6
 have x7 := r4.cell 7
 have x8 := r4.cell 8
 simp only [List.getElem?_toArray, List.getElem?_cons_zero, List.getElem?_cons_succ] at x0 x1 x2 x3 x4 x5 x6 x7 x8
 clear k4 r4
 clear hW4
 go_wp2_with fail
 refine (rcKey_any rwIn 0 _ (small_of _ (by decide) (by decide) (by decide)) (HM.out.keeps H4.out.1) (by decide) (by decide)).mono ?_
 rintro e w5 ⟨rfl, hk⟩
 rw [rwIn_0.1, rwIn_0.2]
 unfold strV
 have r5 := H4.out.2.keeps hk
 have H5 := Lib.hid (And.intro (H4.out.1.then_ hk) r5)
 clear x0 x1 x2 x3 x4 x5 x6 x7 x8 hk
 try clear hW4
 have x0 := r5.cell 0
 have x1 := r5.cell 1
 have x2 := r5.cell 2
 have x3 := r5.cell 3
 have x4 := r5.cell 4
 have x5 := r5.cell 5
 have x6 := r5.cell 6
 have x7 := r5.cell 7
 have x8 := r5.cell 8
 simp only [List.getElem?_toArray, List.getElem?_cons_zero, List.getElem?_cons_succ] at x0 x1 x2 x3 x4 x5 x6 x7 x8
 clear r5
 go_wp2_with fail
 refine (rcKey_any rwIn 1 _ (small_of _ (by decide) (by decide) (by decide)) (HM.out.keeps H5.out.1) (by decide) (by decide)).mono ?_
 rintro e w6 ⟨rfl, hk⟩
 rw [rwIn_1]
 unfold strV
 generalize rcKeyS rwIn 1 = sq
 have H6 := Lib.hid (H5.out.1.then_ hk)
 clear x0 x1 x2 x3 x4 x5 x6 x7 x8 hk
 go_wp2_with fail
 refine (rcCheck_any rwOut _ (small_of _ (by decide) (by decide) (by decide)) (HM.out.keeps H6.out) (by decide) (by decide)).mono ?_
 rintro e w7 ⟨rfl, hk⟩
 rw [rwOut_no, if_neg (by simp)]
 have H7 := Lib.hid (H6.out.then_ hk)
 clear hk
 go_wp2_with fail
 go_ret
 exact ⟨rfl, H7.out⟩
end Go.Proofs.YtfglgeoookbppaaGreatDoor

namespace Go.Proofs.YtfglgeoookbppaaGreatDoor
open Go.RowKit Go.Shelf

/-- Texts as values. -/
abbrev txL (l : List (List UInt8)) : List Value := l.map fun x => .string ⟨x.toArray⟩
def lenOf (v : Value) : Nat := match v with
 | .slice _ n _ => n
 | _ => 0
theorem txC_list (l : List (List UInt8)) : (txC l).toList = txL l := by
 show (l.flatMap _) = _
 induction l with
 | nil => rfl
 | cons a l ih => rw [List.flatMap_cons, ih]; rfl
theorem txL_lies {w : World} {b : Nat} {l : List (List UInt8)} (h : Row w b 9 (txC l)) : Lies w w.heap.size (some ⟨b, 0, none⟩) (txL l) :=
 lies_of_row h (txC_list l)
theorem txt_app (a b : List UInt8) : (⟨a.toArray⟩ : ByteArray) ++ ⟨b.toArray⟩ = ⟨(a ++ b).toArray⟩ := by
 apply ByteArray.ext
 simp
end Go.Proofs.YtfglgeoookbppaaGreatDoor

namespace Go.Proofs.YtfglgeoookbppaaGreatDoor
open Go

/-- Levels put together. -/
def tJoin : List (List UInt8) → List UInt8
 | [] => []
 | [x] => x
 | x :: y :: l => x ++ 47 :: tJoin (y :: l)
theorem tLev_app (s t : List UInt8) : tLev (s ++ 47 :: t) = tLev s ++ tLev t := by
 induction s with
 | nil =>
  show tLev (47 :: t) = [] :: tLev t
  rw [tLev, if_pos rfl]
 | cons a s ih =>
  by_cases h : a = 47
  ·subst h
   rw [List.cons_append, tLev, if_pos rfl, ih, tLev, if_pos rfl]
   rfl
  ·obtain ⟨l, ls, e1, e2⟩ := tLev_other (s := s) h
   obtain ⟨l', ls', e3, e4⟩ := tLev_other (s := s ++ 47 :: t) h
   rw [ih, e1, List.cons_append] at e3
   injection e3 with e5 e6
   rw [List.cons_append, e4, e2, ← e5, ← e6]
   rfl
theorem tLev_plain {s : List UInt8} (h : (47 : UInt8) ∉ s) : tLev s = [s] := by
 induction s with
 | nil => rfl
 | cons a s ih =>
  obtain ⟨h1, h2⟩ : (47 : UInt8) ≠ a ∧ (47 : UInt8) ∉ s := by simpa using h
  obtain ⟨l, ls, e1, e2⟩ := tLev_other (s := s) (Ne.symm h1)
  rw [ih h2] at e1
  injection e1 with e3 e4
  rw [e2, ← e3, ← e4]
theorem tLev_join {l : List (List UInt8)} (h : l ≠ []) (h2 : ∀ x ∈ l, (47 : UInt8) ∉ x) : tLev (tJoin l) = l := by
 induction l with
 | nil => exact absurd rfl h
 | cons x l ih =>
  cases l with
  | nil => exact tLev_plain (h2 x (by simp))
  | cons y l =>
   rw [tJoin, tLev_app, ih (by simp) (fun z hz => h2 z (List.mem_cons_of_mem _ hz)), tLev_plain (h2 x (by simp))]
   rfl
theorem tJoin_lev (s : List UInt8) : tJoin (tLev s) = s := by
 induction s with
 | nil => rfl
 | cons a s ih =>
  by_cases h : a = 47
  ·subst h
   rw [tLev, if_pos rfl]
   cases hs : tLev s with
   | nil => exact absurd hs (tLev_ne s)
   | cons x l =>
    rw [hs] at ih
    rw [tJoin, ih]
    rfl
  ·obtain ⟨l, ls, e1, e2⟩ := tLev_other (s := s) h
   rw [e1] at ih
   rw [e2]
   cases ls with
   | nil =>
    rw [tJoin] at ih ⊢
    rw [ih]
   | cons y ls =>
    rw [tJoin] at ih ⊢
    rw [List.cons_append, ih]
theorem tLev_47 {s x : List UInt8} (h : x ∈ tLev s) : (47 : UInt8) ∉ x := by
 induction s generalizing x with
 | nil => simp [tLev] at h; subst h; simp
 | cons a s ih =>
  by_cases e : a = 47
  ·rw [tLev, if_pos e] at h
   rcases List.mem_cons.1 h with rfl | h
   ·simp
   ·exact ih h
  ·obtain ⟨l, ls, e1, e2⟩ := tLev_other (s := s) e
   rw [e2] at h
   rcases List.mem_cons.1 h with rfl | h
   ·have := ih (x := l) (by rw [e1]; simp)
    simpa using And.intro (fun h : (47 : UInt8) = a => e h.symm) this
   ·exact ih (by rw [e1]; exact List.mem_cons_of_mem _ h)
theorem tJoin_good {l : List (List UInt8)} (h : uGood (tJoin l) = true) : ∀ x ∈ l, uGood x = true := by
 induction l with
 | nil => intro x hx; cases hx
 | cons x l ih =>
  cases l with
  | nil => intro y hy; simp at hy; subst hy; exact h
  | cons y l =>
   rw [tJoin] at h
   obtain ⟨h1, h2⟩ := uGood_cut (by decide) (by decide) h
   intro z hz
   rcases List.mem_cons.1 hz with rfl | hz
   ·exact h1
   ·exact ih h2 z hz
theorem good_tJoin {l : List (List UInt8)} (h : ∀ x ∈ l, uGood x = true) : uGood (tJoin l) = true := by
 induction l with
 | nil => rfl
 | cons x l ih =>
  cases l with
  | nil => exact h x (by simp)
  | cons y l =>
   rw [tJoin, uGood_append (h x (by simp)), uGood_ascii (by decide) (by decide)]
   exact ih fun z hz => h z (List.mem_cons_of_mem _ hz)
theorem tSign_join {l : List (List UInt8)} : tSign (tJoin l) = l.any tSign := by
 induction l with
 | nil => rfl
 | cons x l ih =>
  cases l with
  | nil => simp [tJoin]
  | cons y l =>
   rw [tJoin, List.any_cons, ← ih]
   unfold tSign
   rw [List.any_append, List.any_cons]
   rfl
theorem tJoin_snoc {l : List (List UInt8)} (h : l ≠ []) (x : List UInt8) : tJoin (l ++ [x]) = tJoin l ++ 47 :: x := by
 induction l with
 | nil => exact absurd rfl h
 | cons y l ih =>
  cases l with
  | nil => rfl
  | cons z l =>
   rw [List.cons_append, List.cons_append, tJoin, tJoin, ← List.cons_append, ih (by simp), List.append_assoc]
   rfl
theorem tJoin_nil {l : List (List UInt8)} (h : tJoin l = []) : l = [] ∨ l = [[]] := by
 cases l with
 | nil => exact .inl rfl
 | cons x l =>
  cases l with
  | nil => rw [tJoin] at h; subst h; exact .inr rfl
  | cons y l => rw [tJoin] at h; simp at h
theorem tJoin_lens {l m : List (List UInt8)} (h : l.map List.length = m.map List.length) : (tJoin l).length = (tJoin m).length := by
 induction l generalizing m with
 | nil =>
  cases m with
  | nil => rfl
  | cons y m => simp at h
 | cons x l ih =>
  cases m with
  | nil => simp at h
  | cons y m =>
   simp only [List.map_cons, List.cons.injEq] at h
   cases l with
   | nil =>
    cases m with
    | nil => exact h.1
    | cons z m => simp at h
   | cons z l =>
    cases m with
    | nil => simp at h
    | cons v m =>
     rw [tJoin, tJoin, List.length_append, List.length_append, List.length_cons, List.length_cons, ih h.2, h.1]
/-- A name out of levels. -/
theorem name_join {m : List (List UInt8)} (h0 : m ≠ []) (h : ∀ x ∈ m, (47 : UInt8) ∉ x ∧ uGood x = true ∧ tSign x = false) (h1 : 1 ≤ (tJoin m).length) (h2 : (tJoin m).length ≤ 200) : tName (tJoin m) = true ∧ tLev (tJoin m) = m := by
 refine ⟨?_, tLev_join h0 fun x hx => (h x hx).1⟩
 unfold tName tSaid
 rw [decide_eq_true h1, decide_eq_true h2, good_tJoin fun x hx => (h x hx).2.1, tSign_join, List.any_eq_false.2 fun x hx => by rw [(h x hx).2.2]; simp]
 rfl
theorem tName_levels {s : List UInt8} (h : tName s = true) : s ≠ [] ∧ s.length ≤ 200 ∧ ∀ x ∈ tLev s, (47 : UInt8) ∉ x ∧ uGood x = true ∧ tSign x = false := by
 unfold tName tSaid at h
 simp only [Bool.and_eq_true, decide_eq_true_eq, Bool.not_eq_true'] at h
 obtain ⟨⟨⟨h1, h2⟩, h3⟩, h4⟩ := h
 refine ⟨fun e => by (rw [e] at h1; simp at h1), h2, fun x hx => ⟨tLev_47 hx, tJoin_good (by rw [tJoin_lev]; exact h3) x hx, ?_⟩⟩
 rw [← tJoin_lev s, tSign_join, List.any_eq_false] at h4
 simpa using h4 x hx
theorem tFilter_levels {s : List UInt8} (h : tFilter s = true) : s ≠ [] ∧ s.length ≤ 200 ∧ ∀ x ∈ tLev s, (47 : UInt8) ∉ x ∧ uGood x = true := by
 unfold tFilter tSaid at h
 simp only [Bool.and_eq_true, decide_eq_true_eq] at h
 obtain ⟨⟨⟨h1, h2⟩, h3⟩, _⟩ := h
 exact ⟨fun e => by (rw [e] at h1; simp at h1), h2, fun x hx => ⟨tLev_47 hx, tJoin_good (by rw [tJoin_lev]; exact h3) x hx⟩⟩
theorem tSign_35 : tSign [35] = true := by decide
theorem tSign_43 : tSign [43] = true := by decide
theorem tOks_cons {x y : List UInt8} {l : List (List UInt8)} : tOks (x :: y :: l) = (tOk x false && tOks (y :: l)) := rfl
theorem tOks_split {L : List (List UInt8)} (h : tOks L = true) : ∃ ay : List (List UInt8), (∀ x ∈ ay, x = [43] ∨ tSign x = false) ∧ (L = ay ∨ L = ay ++ [[35]]) := by
 induction L with
 | nil => exact ⟨[], by simp, .inl rfl⟩
 | cons x L ih =>
  cases L with
  | nil =>
   have hx : tOk x true = true := h
   unfold tOk at hx
   simp only [Bool.or_eq_true, Bool.and_true, beq_iff_eq, Bool.not_eq_true'] at hx
   rcases hx with (hx | hx) | hx
   ·exact ⟨[x], by simp [hx], .inl rfl⟩
   ·exact ⟨[], by simp, .inr (by rw [hx]; rfl)⟩
   ·exact ⟨[x], by simp [hx], .inl rfl⟩
  | cons y L =>
   rw [tOks_cons, Bool.and_eq_true] at h
   obtain ⟨ay, h1, h2⟩ := ih h.2
   have hx := h.1
   unfold tOk at hx
   simp only [Bool.or_eq_true, Bool.and_false, beq_iff_eq, Bool.not_eq_true', Bool.false_eq_true, or_false] at hx
   refine ⟨x :: ay, fun z hz => ?_, ?_⟩
   ·rcases List.mem_cons.1 hz with rfl | hz
    ·exact hx
    ·exact h1 z hz
   ·rcases h2 with h2 | h2
    ·exact .inl (by rw [h2])
    ·exact .inr (by rw [h2]; rfl)
theorem no35 {ay : List (List UInt8)} (h : ∀ x ∈ ay, x = [43] ∨ tSign x = false) : [35] ∉ ay := fun hm => by
 rcases h _ hm with e | e
 ·simp at e
 ·rw [tSign_35] at e; cases e
theorem tFilter_split {a : List UInt8} (h : tFilter a = true) : ∃ ay : List (List UInt8), (∀ x ∈ ay, x = [43] ∨ tSign x = false) ∧ (tLev a = ay ∨ tLev a = ay ++ [[35]]) := by
 unfold tFilter at h
 rw [Bool.and_eq_true] at h
 exact tOks_split h.2
/-- The first level. -/
def hd0 (l : List (List UInt8)) : List UInt8 := l.headD []
def pre1 (c : UInt8) (s : List UInt8) : Bool := ([c] : List UInt8).isPrefixOf s
theorem pre1_cons (c a : UInt8) (s : List UInt8) : pre1 c (a :: s) = (c == a) := by
 unfold pre1
 simp [List.isPrefixOf]
theorem pre1_lev {c : UInt8} (hc : c ≠ 47) (s : List UInt8) : pre1 c s = pre1 c (hd0 (tLev s)) := by
 cases s with
 | nil => rfl
 | cons a s =>
  by_cases h : a = 47
  ·subst h
   rw [tLev, if_pos rfl, pre1_cons]
   simpa [hd0, pre1] using hc
  ·obtain ⟨l, ls, e1, e2⟩ := tLev_other (s := s) h
   rw [e2]
   show _ = pre1 c (a :: l)
   rw [pre1_cons, pre1_cons]
theorem pre1_sign {c : UInt8} {s : List UInt8} (h : pre1 c s = true) (hc : c = 43 ∨ c = 35) : tSign s = true := by
 cases s with
 | nil => cases h
 | cons a s =>
  rw [pre1_cons, beq_iff_eq] at h
  subst h
  unfold tSign
  rw [List.any_cons]
  rcases hc with rfl | rfl <;> rfl
theorem starts_iff {f n : List UInt8} (h : tFilter f = true) : tStarts f n = true ↔ (pre1 36 (hd0 (tLev n)) = true → hd0 (tLev f) ≠ [43] ∧ hd0 (tLev f) ≠ [35]) := by
 obtain ⟨ay, h1, h2⟩ := tFilter_split h
 have hf : tStarts f n = (!(pre1 36 (hd0 (tLev n))) || (!(pre1 43 (hd0 (tLev f))) && !(pre1 35 (hd0 (tLev f))))) := by
  rw [← pre1_lev (by decide), ← pre1_lev (by decide), ← pre1_lev (by decide)]
  rfl
 have hq : ∀ x : List UInt8, (x = [43] ∨ x = [35] ∨ tSign x = false) → ((!(pre1 43 x) && !(pre1 35 x)) = true ↔ x ≠ [43] ∧ x ≠ [35]) := fun x hx => by
  rcases hx with rfl | rfl | hx
  ·exact ⟨fun h => absurd h (by decide), fun h => absurd rfl h.1⟩
  ·exact ⟨fun h => absurd h (by decide), fun h => absurd rfl h.2⟩
  ·have h43 : pre1 43 x = false := by
    rw [← Bool.not_eq_true]
    exact fun h => by rw [pre1_sign h (.inl rfl)] at hx; cases hx
   have h35 : pre1 35 x = false := by
    rw [← Bool.not_eq_true]
    exact fun h => by rw [pre1_sign h (.inr rfl)] at hx; cases hx
   rw [h43, h35]
   exact ⟨fun _ => ⟨fun e => by (rw [e, tSign_43] at hx; cases hx), fun e => by (rw [e, tSign_35] at hx; cases hx)⟩, fun _ => rfl⟩
 have hx : hd0 (tLev f) = [43] ∨ hd0 (tLev f) = [35] ∨ tSign (hd0 (tLev f)) = false := by
  have key : ∀ l : List (List UInt8), (∀ x ∈ l, x = [43] ∨ tSign x = false) → hd0 l = [43] ∨ hd0 l = [35] ∨ tSign (hd0 l) = false := fun l hl => by
   cases l with
   | nil => exact .inr (.inr rfl)
   | cons y l => exact (hl y (by simp)).elim .inl (fun h => .inr (.inr h))
  rcases h2 with h2 | h2
  ·rw [h2]; exact key ay h1
  ·rw [h2]
   cases ay with
   | nil => exact .inr (.inl rfl)
   | cons y l => exact (h1 y (by simp)).elim .inl (fun h => .inr (.inr h))
 rw [hf, Bool.or_eq_true, hq _ hx]
 cases pre1 36 (hd0 (tLev n)) <;> simp
theorem withL_sound {a b n : List (List UInt8)} (h : tWithL a b = true) (hm : tMeetL a n = true) : tMeetL b n = true := by
 induction b generalizing a n with
 | nil =>
  rw [tWithL_nil, List.isEmpty_iff] at h
  subst h
  exact hm
 | cons b0 bs ih =>
  rw [tWithL_cons] at h
  rw [tMeetL_cons]
  by_cases hb : b0 = [35]
  ·rw [if_pos hb]
  ·rw [if_neg hb] at h ⊢
   cases a with
   | nil => cases h
   | cons x ay =>
    simp only at h
    by_cases hx : x = [35]
    ·rw [if_pos hx] at h; cases h
    ·rw [if_neg hx, Bool.and_eq_true, Bool.or_eq_true, beq_iff_eq, beq_iff_eq] at h
     rw [tMeetL_cons, if_neg hx] at hm
     cases n with
     | nil => cases hm
     | cons n0 ns =>
      simp only [Bool.and_eq_true, Bool.or_eq_true, beq_iff_eq] at hm ⊢
      refine ⟨?_, ih h.2 hm.2⟩
      rcases h.1 with e | e
      ·exact .inl e
      ·rw [← e]; exact hm.1
theorem withL_trans {a b c : List (List UInt8)} (h : tWithL a b = true) (h2 : tWithL b c = true) : tWithL a c = true := by
 induction c generalizing a b with
 | nil =>
  rw [tWithL_nil, List.isEmpty_iff] at h2
  subst h2
  exact h
 | cons c0 cs ih =>
  rw [tWithL_cons] at h2 ⊢
  by_cases hc : c0 = [35]
  ·rw [if_pos hc]
  ·rw [if_neg hc] at h2 ⊢
   cases b with
   | nil => cases h2
   | cons b0 bs =>
    simp only at h2
    by_cases hb : b0 = [35]
    ·rw [if_pos hb] at h2; cases h2
    ·rw [if_neg hb, Bool.and_eq_true, Bool.or_eq_true, beq_iff_eq, beq_iff_eq] at h2
     rw [tWithL_cons, if_neg hb] at h
     cases a with
     | nil => cases h
     | cons x ay =>
      simp only at h ⊢
      by_cases hx : x = [35]
      ·rw [if_pos hx] at h; cases h
      ·rw [if_neg hx, Bool.and_eq_true, Bool.or_eq_true, beq_iff_eq, beq_iff_eq] at h
       rw [if_neg hx, Bool.and_eq_true, Bool.or_eq_true, beq_iff_eq, beq_iff_eq]
       refine ⟨?_, ih h.2 h2.2⟩
       rcases h2.1 with e | e
       ·exact .inl e
       ·rw [← e]; exact h.1
theorem tWide_35 : tWide [35] = [[43], [35]] := by decide
theorem tWide_4735 : tWide [47, 35] = [[], [43], [35]] := by decide
theorem tLev_35 : tLev [35] = [[35]] := by decide
theorem tLev_4735 : tLev [47, 35] = [[], [35]] := by decide
theorem tWide_other {a : List UInt8} (h1 : a ≠ [35]) (h2 : a ≠ [47, 35]) : tWide a = tLev a := by
 unfold tWide
 rw [if_neg (by simp [h1, h2])]
theorem meet_wide {a s : List UInt8} (hs : s ≠ []) (h : tMeetL (tLev a) (tLev s) = true) : tMeetL (tWide a) (tLev s) = true := by
 by_cases h1 : a = [35]
 ·subst h1
  rw [tWide_35]
  cases hl : tLev s with
  | nil => exact absurd hl (tLev_ne s)
  | cons x l => rfl
 ·by_cases h2 : a = [47, 35]
  ·subst h2
   rw [tWide_4735]
   rw [tLev_4735] at h
   cases hl : tLev s with
   | nil => exact absurd hl (tLev_ne s)
   | cons x l =>
    rw [hl] at h
    cases l with
    | nil =>
     rw [tMeetL_cons, if_neg (by decide)] at h
     simp at h
     exfalso
     rw [← tJoin_lev s, hl, ← h.1] at hs
     exact hs rfl
    | cons y l =>
     rw [tMeetL_cons, if_neg (by decide)] at h ⊢
     simp only [Bool.and_eq_true] at h ⊢
     exact ⟨h.1, rfl⟩
  ·rw [tWide_other h1 h2]; exact h
theorem wide_meet {a : List UInt8} {n : List (List UInt8)} (h : tMeetL (tWide a) n = true) : tMeetL (tLev a) n = true := by
 by_cases h1 : a = [35]
 ·subst h1; rfl
 ·by_cases h2 : a = [47, 35]
  ·subst h2
   rw [tWide_4735, tMeetL_cons, if_neg (by decide)] at h
   rw [tLev_4735, tMeetL_cons, if_neg (by decide)]
   cases n with
   | nil => cases h
   | cons x ns =>
    simp only [Bool.and_eq_true] at h ⊢
    exact ⟨h.1, by rw [tMeetL_cons, if_pos rfl]⟩
  ·rw [tWide_other h1 h2] at h; exact h
theorem wide_head {a : List UInt8} (h : tFilter a = true) : ∃ x ay, tWide a = x :: ay ∧ x ≠ [35] := by
 by_cases h1 : a = [35]
 ·subst h1; exact ⟨_, _, tWide_35, by decide⟩
 ·by_cases h2 : a = [47, 35]
  ·subst h2; exact ⟨_, _, tWide_4735, by decide⟩
  ·rw [tWide_other h1 h2]
   obtain ⟨ay, ha, e⟩ := tFilter_split h
   rcases e with e | e
   ·cases hl : ay with
    | nil => rw [hl] at e; exact absurd e (tLev_ne a)
    | cons x l => exact ⟨x, l, by rw [e, hl], fun hx => no35 ha (by rw [hl, hx]; simp)⟩
   ·cases hl : ay with
    | nil =>
     rw [hl] at e
     exact absurd (by rw [← tJoin_lev a, e]; rfl) h1
    | cons x l => exact ⟨x, l ++ [[35]], by rw [e, hl]; rfl, fun hx => no35 ha (by rw [hl, hx]; simp)⟩
theorem wide_head2 {a : List UInt8} {ay : List (List UInt8)} (h : tFilter a = true) (hw : tWide a = [] :: ay) : ∃ y bs, ay = y :: bs ∧ y ≠ [35] := by
 by_cases h1 : a = [35]
 ·subst h1; rw [tWide_35] at hw; simp at hw
 ·by_cases h2 : a = [47, 35]
  ·subst h2
   rw [tWide_4735] at hw
   injection hw with _ e
   exact ⟨_, _, e.symm, by decide⟩
  ·rw [tWide_other h1 h2] at hw
   have hne := (tFilter_levels h).1
   cases ay with
   | nil => exact absurd (by rw [← tJoin_lev a, hw]; rfl) hne
   | cons y bs =>
    refine ⟨y, bs, rfl, fun hy => ?_⟩
    obtain ⟨cs, ha, e⟩ := tFilter_split h
    have hn := no35 ha
    rcases e with e | e
    ·rw [e] at hw
     exact hn (by rw [hw, hy]; simp)
    ·rw [e] at hw
     cases cs with
     | nil => simp at hw
     | cons c cs =>
      injection hw with e1 e2
      cases cs with
      | nil =>
       injection e2 with _ e3
       exact h2 (by rw [← tJoin_lev a, e, e1]; rfl)
      | cons d cs =>
       injection e2 with e3 e4
       exact hn (by rw [e3, hy]; simp)
theorem within_wide {a b : List UInt8} (ha : tFilter a = true) (h : tWithL (tWide a) (tLev b) = true) : tWithL (tWide a) (tWide b) = true := by
 by_cases h1 : b = [35]
 ·subst h1
  obtain ⟨x, ay, e, hx⟩ := wide_head ha
  rw [tWide_35, e, tWithL_cons, if_neg (by decide)]
  simp only [if_neg hx]
  rw [tWithL_cons, if_pos rfl]
  rfl
 ·by_cases h2 : b = [47, 35]
  ·subst h2
   obtain ⟨x, ay, e, hx⟩ := wide_head ha
   rw [e, tLev_4735, tWithL_cons, if_neg (by decide)] at h
   simp only [if_neg hx, Bool.and_eq_true] at h
   have hx0 : x = [] := by simpa using h.1
   subst hx0
   obtain ⟨y, bs, e2, hy⟩ := wide_head2 ha e
   rw [tWide_4735, e, e2, tWithL_cons, if_neg (by decide)]
   simp only [if_neg hx]
   rw [tWithL_cons, if_neg (by decide)]
   simp only [if_neg hy]
   rw [tWithL_cons, if_pos rfl]
   rfl
  ·rw [tWide_other h1 h2]; exact h
theorem hd0_wide {a : List UInt8} (h : a ≠ [35]) : hd0 (tWide a) = hd0 (tLev a) := by
 by_cases h2 : a = [47, 35]
 ·subst h2; rfl
 ·rw [tWide_other h h2]
/-- Where one is within another, that meets what it meets. -/
theorem within_sound {a b n : List UInt8} (ha : tFilter a = true) (hb : tFilter b = true) (hn : tName n = true) (h : tWithin a b = true) (hm : tMeets a n = true) : tMeets b n = true := by
 unfold tWithin at h
 unfold tMeets at hm ⊢
 rw [Bool.and_eq_true] at h hm ⊢
 rw [starts_iff hb] at h
 rw [starts_iff ha] at hm
 rw [starts_iff hb]
 refine ⟨fun hp => h.1 ?_, withL_sound h.2 (meet_wide (tName_levels hn).1 hm.2)⟩
 obtain ⟨g1, g2⟩ := hm.1 hp
 have hm2 := hm.2
 cases hl : tLev a with
 | nil => exact absurd hl (tLev_ne a)
 | cons x l =>
  rw [hl] at g1 g2 hm2
  change x ≠ [43] at g1
  change x ≠ [35] at g2
  cases hl2 : tLev n with
  | nil => exact absurd hl2 (tLev_ne n)
  | cons y m =>
   rw [hl2, tMeetL_cons, if_neg g2] at hm2
   simp only [Bool.and_eq_true, Bool.or_eq_true, beq_iff_eq] at hm2
   rw [hl2] at hp
   rcases hm2.1 with e | e
   ·exact absurd e g1
   ·show pre1 36 x = true
    rw [e]
    exact hp
theorem within_trans {a b c : List UInt8} (ha : tFilter a = true) (hb : tFilter b = true) (hc : tFilter c = true) (h : tWithin a b = true) (h2 : tWithin b c = true) : tWithin a c = true := by
 unfold tWithin at h h2 ⊢
 rw [Bool.and_eq_true] at h h2 ⊢
 rw [starts_iff hb] at h
 rw [starts_iff hc] at h2
 rw [starts_iff hc]
 refine ⟨fun hp => h2.1 ?_, withL_trans (within_wide ha h.2) h2.2⟩
 obtain ⟨g1, g2⟩ := h.1 hp
 have hh := h.2
 have ha35 : a ≠ [35] := fun e => by rw [e] at hp; exact absurd hp (by decide)
 have hw := hd0_wide ha35
 cases hl2 : tLev b with
 | nil => exact absurd hl2 (tLev_ne b)
 | cons y m =>
  rw [hl2] at g1 g2 hh
  change y ≠ [43] at g1
  change y ≠ [35] at g2
  rw [tWithL_cons, if_neg g2] at hh
  cases hl : tWide a with
  | nil => rw [hl] at hh; cases hh
  | cons x l =>
   rw [hl] at hh hw
   simp only at hh
   by_cases hx : x = [35]
   ·rw [if_pos hx] at hh; cases hh
   ·rw [if_neg hx, Bool.and_eq_true, Bool.or_eq_true, beq_iff_eq, beq_iff_eq] at hh
    rcases hh.1 with e | e
    ·exact absurd e g1
    ·show pre1 36 y = true
     rw [← e]
     rw [← hw] at hp
     exact hp
theorem within_self {a : List UInt8} (h : tFilter a = true) : tWithin a a = true := by
 have key : ∀ l : List (List UInt8), (∀ x ∈ l, x = [43] ∨ tSign x = false) → ∀ t, tWithL t t = true → tWithL (l ++ t) (l ++ t) = true := fun l => by
  induction l with
  | nil => intro _ t ht; exact ht
  | cons x l ih =>
   intro hl t ht
   rw [List.cons_append, tWithL_cons]
   by_cases hx : x = [35]
   ·rw [if_pos hx]
   ·rw [if_neg hx]
    simp only [if_neg hx]
    rw [ih (fun z hz => hl z (List.mem_cons_of_mem _ hz)) t ht]
    simp
 unfold tWithin
 rw [Bool.and_eq_true, starts_iff h]
 refine ⟨fun hp => ⟨fun e => ?_, fun e => ?_⟩, ?_⟩
 ·rw [e] at hp; exact absurd hp (by decide)
 ·rw [e] at hp; exact absurd hp (by decide)
 ·by_cases h1 : a = [35]
  ·subst h1; decide
  ·by_cases h2 : a = [47, 35]
   ·subst h2; decide
   ·rw [tWide_other h1 h2]
    obtain ⟨ay, ha, e⟩ := tFilter_split h
    rcases e with e | e
    ·rw [e]
     have := key ay ha [] rfl
     rwa [List.append_nil] at this
    ·rw [e]
     exact key ay ha [[35]] rfl
end Go.Proofs.YtfglgeoookbppaaGreatDoor

namespace Go.Proofs.YtfglgeoookbppaaGreatDoor
open Go.RowKit Go.Shelf

def tSignN (s : List UInt8) : Nat := s.countP fun b => b == 43 || b == 35
set_option maxRecDepth 100000 in
set_option maxHeartbeats 1000000 in
theorem rSigns_any (w : World) (s : List UInt8) (hs : s.length ≤ 60000) :
  Calls Tryz.prog 55 #[.string ⟨s.toArray⟩] w fun e w' => e = .returned (.int .i64 (tSignN s : Nat)) ∧ w = w' := by
 obtain ⟨S, hS⟩ : ∃ S : ByteArray, (⟨s.toArray⟩ : ByteArray) = S := ⟨_, rfl⟩
 have hz : S.size = s.length := by rw [← hS]; simp [ByteArray.size]
 have HG := Lib.hid (show ∀ k (h : k < s.length) (h2 : k < S.size), S[k] = s[k] from fun k h h2 => by subst hS; rfl)
 rw [hS]
 clear hS
 go_enter Tryz.func55, Tryz.ntmps55
 go_wp2
 go_loop [3, 4] (fun n i => ∃ k : Nat, k ≤ s.length ∧ i = .int .i64 k ∧ n = .int .i64 (tSignN (s.take k) : Nat)) (fun _ i => s.length - (intOf i).toNat)
 case atStart => exact ⟨0, by omega, rfl, rfl⟩
 case round =>
  obtain ⟨k, hk, rfl, rfl⟩ := hrel
  by_cases hlt : k < s.length
  ·have HS := Lib.hid (List.take_succ_eq_append_getElem hlt)
   have ix : ∀ h, S[k]'h = s[k] := fun h => HG.out k hlt h
   obtain ⟨m, hm⟩ : ∃ m, tSignN (s.take k) = m := ⟨_, rfl⟩
   have hmk : m ≤ k := by rw [← hm]; exact Nat.le_trans List.countP_le_length (by rw [List.length_take]; omega)
   have HM := Lib.hid hm
   rw [hm]
   clear hm
   generalize s[k] = y at *
   have HN := Lib.hid (show tSignN (s.take (k + 1)) = m + (if (y == 43 || y == 35) = true then 1 else 0) by rw [HS.out, tSignN, List.countP_append, ← HM.out]; simp [tSignN])
   by_cases h43 : y = 43
   ·subst h43
    have b1 : (((43 : UInt8).toNat : Int) == 43) = true := rfl
    go_wp2_with fail
    refine ⟨⟨k + 1, by omega, by go_num, ?_⟩, by simp [intOf]; omega⟩
    rw [HN.out]
    go_num
   ·have b1 : ((y.toNat : Int) == 43) = false := by
     rw [beq_eq_false_iff_ne]
     intro h
     exact h43 (UInt8.toNat_inj.1 (by simpa using (show y.toNat = 43 by omega)))
    by_cases h35 : y = 35
    ·subst h35
     have b2 : (((35 : UInt8).toNat : Int) == 35) = true := rfl
     go_wp2_with fail
     refine ⟨⟨k + 1, by omega, by go_num, ?_⟩, by simp [intOf]; omega⟩
     rw [HN.out]
     go_num
    ·have b2 : ((y.toNat : Int) == 35) = false := by
      rw [beq_eq_false_iff_ne]
      intro h
      exact h35 (UInt8.toNat_inj.1 (by simpa using (show y.toNat = 35 by omega)))
     have HN2 := Lib.hid (show (y == 43 || y == 35) = false by simp [h43, h35])
     go_wp2_with fail
     refine ⟨⟨k + 1, by omega, by go_num, ?_⟩, by simp [intOf]; omega⟩
     rw [HN.out, HN2.out]
     rfl
  ·obtain rfl : k = s.length := by omega
   rw [List.take_length]
   go_wp2_with fail
   go_ret
   exact ⟨rfl, rfl⟩
end Go.Proofs.YtfglgeoookbppaaGreatDoor

namespace Go.Proofs.YtfglgeoookbppaaGreatDoor
open Go.RowKit Go.Shelf

def rMayB (r : Nat) : Bool := decide (r < 55296) || (decide (57343 < r) && decide (r ≤ 1114111))
set_option maxRecDepth 100000 in
theorem rMay_any (w : World) (r : Nat) : Calls Tryz.prog 127 #[.int .i32 r] w fun e w' => e = .returned (.bool (rMayB r)) ∧ w = w' := by
 have h0 : decide ((r : Int) ≥ 0) = true := by simp
 have h00 : decide ((0 : Int) ≤ r) = true := by simp
 obtain ⟨b1, e1⟩ : ∃ b, decide (r < 55296) = b := ⟨_, rfl⟩
 obtain ⟨b2, e2⟩ : ∃ b, decide (57343 < r) = b := ⟨_, rfl⟩
 obtain ⟨b3, e3⟩ : ∃ b, decide (r ≤ 1114111) = b := ⟨_, rfl⟩
 have HR := Lib.hid (show rMayB r = (b1 || (b2 && b3)) by unfold rMayB; rw [e1, e2, e3])
 have f1 : decide ((r : Int) < 55296) = b1 := by rw [← e1]; apply decide_eq_decide.2; omega
 have f2 : decide ((57343 : Int) < r) = b2 := by rw [← e2]; apply decide_eq_decide.2; omega
 have f3 : decide ((r : Int) ≤ 1114111) = b3 := by rw [← e3]; apply decide_eq_decide.2; omega
 clear e1 e2 e3
 go_enter Tryz.func127, Tryz.ntmps127
 cases b1 <;> cases b2 <;> cases b3
 all_goals go_wp2_with fail
 all_goals go_ret
 all_goals exact ⟨by rw [HR.out]; rfl, rfl⟩
end Go.Proofs.YtfglgeoookbppaaGreatDoor
