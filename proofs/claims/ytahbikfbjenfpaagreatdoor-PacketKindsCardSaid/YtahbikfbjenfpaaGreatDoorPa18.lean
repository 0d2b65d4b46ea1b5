/- Package packet: may the kinds be that have a list, or little? -/
import Derived.Test.YtahbikfbjenfpaaGreatDoorPa17

namespace Go.Proofs.YtahbikfbjenfpaaGreatDoor
open Go.RowKit

theorem pkWant_any (x : List UInt8 × Int) (w : World) (hx : x.1.length ≤ 50000) (hm : MaxL w) : Calls Tryz.prog 63 #[.agg #[.string ⟨x.1.toArray⟩, .int .i64 x.2]] w (TruePost w (tFilter x.1 && pkIn x.2 0 2)) := by
 obtain ⟨f, n⟩ := x
 obtain ⟨W0, hW0⟩ : ∃ W0, w.alloc (.cells #[.string ⟨f.toArray⟩, .int .i64 n] 50) = W0 := ⟨_, rfl⟩
 have k0 : Keeps w W0 [] := by rw [← hW0]; exact Keeps.alloc _ _
 have r0 : Row W0 w.heap.size 50 #[.string ⟨f.toArray⟩, .int .i64 n] := by rw [← hW0]; exact Row.new _ _ _
 have HF := Lib.hid (tFilt_any W0 f hx (hm.keeps k0))
 have x0 := r0.cell 0
 have x1 := r0.cell 1
 simp only [List.getElem?_toArray, List.getElem?_cons_zero, List.getElem?_cons_succ] at x0 x1
 have HR := Lib.hid (And.intro k0 r0)
 clear k0 r0
 simp only
 generalize tFilter f = a at HF ⊢
 go_enter Tryz.func63, Tryz.ntmps63
 go_wp2_with fail
 refine HF.out.mono ?_
 rintro e w1 ⟨rfl, hk⟩
 have r1 := HR.out.2.keeps hk
 have HK := Lib.hid (HR.out.1.then_ hk)
 clear hk x0 x1
 have x0 := r1.cell 0
 have x1 := r1.cell 1
 simp only [List.getElem?_toArray, List.getElem?_cons_zero, List.getElem?_cons_succ] at x0 x1
 clear r1
 cases a with
 | true =>
  go_wp2_with fail
  refine (pkQos_any n _).mono ?_
  rintro e w2 ⟨rfl, hk⟩
  have HK2 := Lib.hid (HK.out.then_ hk)
  clear hk
  go_wp2_with fail
  go_ret
  exact ⟨rfl, HK2.out⟩
 | false =>
  go_wp2_with fail
  go_ret
  exact ⟨rfl, HK.out⟩
theorem pkCode_any (n : Int) (w : World) : Calls Tryz.prog 75 #[.int .i64 n] w (TruePost w (pkIn n 0 2 || n == 128)) := by
 have HQ := Lib.hid (pkQos_any n w)
 generalize pkIn n 0 2 = a at HQ ⊢
 obtain ⟨z, hz⟩ : ∃ z, (n == 128) = z := ⟨_, rfl⟩
 rw [hz]
 go_enter Tryz.func75, Tryz.ntmps75
 go_wp2_with fail
 refine HQ.out.mono ?_
 rintro e w1 ⟨rfl, hk⟩
 have HK := Lib.hid hk
 clear hk
 cases a with
 | true =>
  go_wp2_with fail
  go_ret
  exact ⟨rfl, HK.out⟩
 | false =>
  go_wp2_with fail
  go_ret
  exact ⟨rfl, HK.out⟩
set_option maxRecDepth 100000 in
theorem pkMayNone (p : Pk) (sw sc sf : Value) (w : World) : Calls Tryz.prog 48 #[pkV p sw sc sf] w (TruePost w true) := by
 obtain ⟨k, dup, ret, q, t, b, id, c, cl, keep, hw, wt, wb, wq, wr, hu, hp, u, pw, pr, code, wants, codes, fs⟩ := p
 go_enter Tryz.func48, Tryz.ntmps48
 go_wp2_with fail
 go_ret
 exact ⟨rfl, Keeps.alloc _ _⟩
set_option maxRecDepth 100000 in
theorem pkMayAns (p : Pk) (sw sc sf : Value) (w : World) : Calls Tryz.prog 140 #[pkV p sw sc sf] w (TruePost w true) := by
 obtain ⟨k, dup, ret, q, t, b, id, c, cl, keep, hw, wt, wb, wq, wr, hu, hp, u, pw, pr, code, wants, codes, fs⟩ := p
 go_enter Tryz.func140, Tryz.ntmps140
 go_wp2_with fail
 go_ret
 exact ⟨rfl, Keeps.alloc _ _⟩
set_option maxRecDepth 100000 in
set_option maxHeartbeats 1000000 in
theorem pkMayF8 (p : Pk) (sw sc sf : Value) (w : World) (q : Bool) (HC : ∀ W, Keeps w W [] → Calls Tryz.prog 62 #[sw, .func (.func 63) #[] #[]] W (TruePost W q)) : Calls Tryz.prog 61 #[pkV p sw sc sf] w (TruePost w q) := by
 obtain ⟨k, dup, ret, q, t, b, id, c, cl, keep, hw, wt, wb, wq, wr, hu, hp, u, pw, pr, code, wants, codes, fs⟩ := p
 obtain ⟨W0, hW0⟩ : ∃ W, (w).alloc (.cells #[.int .i64 k, .bool dup, .bool ret, .int .i64 q, .string ⟨t.toArray⟩, .string ⟨b.toArray⟩, .int .i64 id, .string ⟨c.toArray⟩, .bool cl, .int .i64 keep, .bool hw, .string ⟨wt.toArray⟩, .string ⟨wb.toArray⟩, .int .i64 wq, .bool wr, .bool hu, .bool hp, .string ⟨u.toArray⟩, .string ⟨pw.toArray⟩, .bool pr, .int .i64 code, sw, sc, sf] 29) = W := ⟨_, rfl⟩
 have k0 : Keeps (w) W0 [] := by rw [← hW0]; exact Keeps.alloc _ _
 have r0 : Row W0 (w).heap.size 29 #[.int .i64 k, .bool dup, .bool ret, .int .i64 q, .string ⟨t.toArray⟩, .string ⟨b.toArray⟩, .int .i64 id, .string ⟨c.toArray⟩, .bool cl, .int .i64 keep, .bool hw, .string ⟨wt.toArray⟩, .string ⟨wb.toArray⟩, .int .i64 wq, .bool wr, .bool hu, .bool hp, .string ⟨u.toArray⟩, .string ⟨pw.toArray⟩, .bool pr, .int .i64 code, sw, sc, sf] := by rw [← hW0]; exact Row.new _ _ _
 have x0 := r0.cell 0
 have x1 := r0.cell 1
 have x2 := r0.cell 2
 have x3 := r0.cell 3
 have x4 := r0.cell 4
 have x5 := r0.cell 5
 have x6 := r0.cell 6
 have x7 := r0.cell 7
 have x8 := r0.cell 8
 have x9 := r0.cell 9
 have x10 := r0.cell 10
 have x11 := r0.cell 11
 have x12 := r0.cell 12
 have x13 := r0.cell 13
 have x14 := r0.cell 14
 have x15 := r0.cell 15
 have x16 := r0.cell 16
 have x17 := r0.cell 17
 have x18 := r0.cell 18
 have x19 := r0.cell 19
 have x20 := r0.cell 20
 have x21 := r0.cell 21
 have x22 := r0.cell 22
 have x23 := r0.cell 23
 simp only [List.getElem?_toArray, List.getElem?_cons_zero, List.getElem?_cons_succ] at x0 x1 x2 x3 x4 x5 x6 x7 x8 x9 x10 x11 x12 x13 x14 x15 x16 x17 x18 x19 x20 x21 x22 x23
 have HF := Lib.hid (HC W0 k0)
 have HK := Lib.hid k0
 clear k0 r0 HC
 go_enter Tryz.func61, Tryz.ntmps61
 go_wp2_with fail
 refine HF.out.mono ?_
 rintro e w1 ⟨rfl, hk⟩
 have HK1 := Lib.hid (HK.out.then_ hk)
 clear hk
 clear x0 x1 x2 x3 x4 x5 x6 x7 x8 x9 x10 x11 x12 x13 x14 x15 x16 x17 x18 x19 x20 x21 x22 x23
 go_wp2_with fail
 go_ret
 exact ⟨rfl, HK1.out⟩
set_option maxRecDepth 100000 in
set_option maxHeartbeats 1000000 in
theorem pkMayF9 (p : Pk) (sw sc sf : Value) (w : World) (q : Bool) (HC : ∀ W, Keeps w W [] → Calls Tryz.prog 74 #[sc, .func (.func 75) #[] #[]] W (TruePost W q)) : Calls Tryz.prog 73 #[pkV p sw sc sf] w (TruePost w q) := by
 obtain ⟨k, dup, ret, q, t, b, id, c, cl, keep, hw, wt, wb, wq, wr, hu, hp, u, pw, pr, code, wants, codes, fs⟩ := p
 obtain ⟨W0, hW0⟩ : ∃ W, (w).alloc (.cells #[.int .i64 k, .bool dup, .bool ret, .int .i64 q, .string ⟨t.toArray⟩, .string ⟨b.toArray⟩, .int .i64 id, .string ⟨c.toArray⟩, .bool cl, .int .i64 keep, .bool hw, .string ⟨wt.toArray⟩, .string ⟨wb.toArray⟩, .int .i64 wq, .bool wr, .bool hu, .bool hp, .string ⟨u.toArray⟩, .string ⟨pw.toArray⟩, .bool pr, .int .i64 code, sw, sc, sf] 29) = W := ⟨_, rfl⟩
 have k0 : Keeps (w) W0 [] := by rw [← hW0]; exact Keeps.alloc _ _
 have r0 : Row W0 (w).heap.size 29 #[.int .i64 k, .bool dup, .bool ret, .int .i64 q, .string ⟨t.toArray⟩, .string ⟨b.toArray⟩, .int .i64 id, .string ⟨c.toArray⟩, .bool cl, .int .i64 keep, .bool hw, .string ⟨wt.toArray⟩, .string ⟨wb.toArray⟩, .int .i64 wq, .bool wr, .bool hu, .bool hp, .string ⟨u.toArray⟩, .string ⟨pw.toArray⟩, .bool pr, .int .i64 code, sw, sc, sf] := by rw [← hW0]; exact Row.new _ _ _
 have x0 := r0.cell 0
 have x1 := r0.cell 1
 have x2 := r0.cell 2
 have x3 := r0.cell 3
 have x4 := r0.cell 4
 have x5 := r0.cell 5
 have x6 := r0.cell 6
 have x7 := r0.cell 7
 have x8 := r0.cell 8
 have x9 := r0.cell 9
 have x10 := r0.cell 10
 have x11 := r0.cell 11
 have x12 := r0.cell 12
 have x13 := r0.cell 13
 have x14 := r0.cell 14
 have x15 := r0.cell 15
 have x16 := r0.cell 16
 have x17 := r0.cell 17
 have x18 := r0.cell 18
 have x19 := r0.cell 19
 have x20 := r0.cell 20
 have x21 := r0.cell 21
 have x22 := r0.cell 22
 have x23 := r0.cell 23
 simp only [List.getElem?_toArray, List.getElem?_cons_zero, List.getElem?_cons_succ] at x0 x1 x2 x3 x4 x5 x6 x7 x8 x9 x10 x11 x12 x13 x14 x15 x16 x17 x18 x19 x20 x21 x22 x23
 have HF := Lib.hid (HC W0 k0)
 have HK := Lib.hid k0
 clear k0 r0 HC
 go_enter Tryz.func73, Tryz.ntmps73
 go_wp2_with fail
 refine HF.out.mono ?_
 rintro e w1 ⟨rfl, hk⟩
 have HK1 := Lib.hid (HK.out.then_ hk)
 clear hk
 clear x0 x1 x2 x3 x4 x5 x6 x7 x8 x9 x10 x11 x12 x13 x14 x15 x16 x17 x18 x19 x20 x21 x22 x23
 go_wp2_with fail
 go_ret
 exact ⟨rfl, HK1.out⟩
set_option maxRecDepth 100000 in
set_option maxHeartbeats 1000000 in
theorem pkMayF10 (p : Pk) (sw sc sf : Value) (w : World) (q : Bool) (HC : ∀ W, Keeps w W [] → Calls Tryz.prog 82 #[sf, .func (.func 64) #[] #[]] W (TruePost W q)) : Calls Tryz.prog 81 #[pkV p sw sc sf] w (TruePost w q) := by
 obtain ⟨k, dup, ret, q, t, b, id, c, cl, keep, hw, wt, wb, wq, wr, hu, hp, u, pw, pr, code, wants, codes, fs⟩ := p
 obtain ⟨W0, hW0⟩ : ∃ W, (w).alloc (.cells #[.int .i64 k, .bool dup, .bool ret, .int .i64 q, .string ⟨t.toArray⟩, .string ⟨b.toArray⟩, .int .i64 id, .string ⟨c.toArray⟩, .bool cl, .int .i64 keep, .bool hw, .string ⟨wt.toArray⟩, .string ⟨wb.toArray⟩, .int .i64 wq, .bool wr, .bool hu, .bool hp, .string ⟨u.toArray⟩, .string ⟨pw.toArray⟩, .bool pr, .int .i64 code, sw, sc, sf] 29) = W := ⟨_, rfl⟩
 have k0 : Keeps (w) W0 [] := by rw [← hW0]; exact Keeps.alloc _ _
 have r0 : Row W0 (w).heap.size 29 #[.int .i64 k, .bool dup, .bool ret, .int .i64 q, .string ⟨t.toArray⟩, .string ⟨b.toArray⟩, .int .i64 id, .string ⟨c.toArray⟩, .bool cl, .int .i64 keep, .bool hw, .string ⟨wt.toArray⟩, .string ⟨wb.toArray⟩, .int .i64 wq, .bool wr, .bool hu, .bool hp, .string ⟨u.toArray⟩, .string ⟨pw.toArray⟩, .bool pr, .int .i64 code, sw, sc, sf] := by rw [← hW0]; exact Row.new _ _ _
 have x0 := r0.cell 0
 have x1 := r0.cell 1
 have x2 := r0.cell 2
 have x3 := r0.cell 3
 have x4 := r0.cell 4
 have x5 := r0.cell 5
 have x6 := r0.cell 6
 have x7 := r0.cell 7
 have x8 := r0.cell 8
 have x9 := r0.cell 9
 have x10 := r0.cell 10
 have x11 := r0.cell 11
 have x12 := r0.cell 12
 have x13 := r0.cell 13
 have x14 := r0.cell 14
 have x15 := r0.cell 15
 have x16 := r0.cell 16
 have x17 := r0.cell 17
 have x18 := r0.cell 18
 have x19 := r0.cell 19
 have x20 := r0.cell 20
 have x21 := r0.cell 21
 have x22 := r0.cell 22
 have x23 := r0.cell 23
 simp only [List.getElem?_toArray, List.getElem?_cons_zero, List.getElem?_cons_succ] at x0 x1 x2 x3 x4 x5 x6 x7 x8 x9 x10 x11 x12 x13 x14 x15 x16 x17 x18 x19 x20 x21 x22 x23
 have HF := Lib.hid (HC W0 k0)
 have HK := Lib.hid k0
 clear k0 r0 HC
 go_enter Tryz.func81, Tryz.ntmps81
 go_wp2_with fail
 refine HF.out.mono ?_
 rintro e w1 ⟨rfl, hk⟩
 have HK1 := Lib.hid (HK.out.then_ hk)
 clear hk
 clear x0 x1 x2 x3 x4 x5 x6 x7 x8 x9 x10 x11 x12 x13 x14 x15 x16 x17 x18 x19 x20 x21 x22 x23
 go_wp2_with fail
 go_ret
 exact ⟨rfl, HK1.out⟩
/-- What a list's kind may be, but for its ID. -/
def pkMayL (p : Pk) : Bool := if p.k = 8 then pkMany p.wants fun w => tFilter w.1 && pkIn w.2 0 2 else if p.k = 9 then pkMany p.codes fun c => pkIn c 0 2 || c == 128 else if p.k = 10 then pkMany p.fs tFilter else true
theorem pkMayL_eq {p : Pk} (h : 4 ≤ p.k ∧ p.k ≤ 11) : pkMay p = (pkId p && pkMayL p) := by
 unfold pkMay pkMayL
 rw [if_neg (by omega), if_neg (by omega), if_neg (by omega)]
 split
 ·rfl
 ·split
  ·rfl
  ·split
   ·rfl
   ·rw [if_neg (by omega), Bool.and_true]
theorem pkMay8_any (p : Pk) (sw sc sf : Value) (w : World) (hk : p.k = 8) (hs : PkSm p) (hl : PkL w p sw sc sf) (hm : MaxL w) : Calls Tryz.prog 61 #[pkV p sw sc sf] w (TruePost w (pkMayL p)) := by
 have e : pkMayL p = pkMany p.wants fun w => tFilter w.1 && pkIn w.2 0 2 := by unfold pkMayL; rw [if_pos hk]
 rw [e]
 obtain ⟨A, c, rfl, h1⟩ := hl.lw
 exact pkMayF8 p _ sc sf w _ fun W hW => fitOfW W A c p.wants _ (h1.keeps hW) (by have := hs.wants.1; omega) fun W2 hW2 x hx => pkWant_any x W2 (hs.wants.2 x hx) ((hm.keeps hW).keeps hW2)
theorem pkMay9_any (p : Pk) (sw sc sf : Value) (w : World) (hk : p.k = 9) (hs : PkSm p) (hl : PkL w p sw sc sf) : Calls Tryz.prog 73 #[pkV p sw sc sf] w (TruePost w (pkMayL p)) := by
 have e : pkMayL p = pkMany p.codes fun c => pkIn c 0 2 || c == 128 := by unfold pkMayL; rw [if_neg (by omega), if_pos hk]
 rw [e]
 obtain ⟨A, c, rfl, h1⟩ := hl.lc
 exact pkMayF9 p sw _ sf w _ fun W hW => fitOfC W A c p.codes _ (h1.keeps hW) (by have := hs.codes; omega) fun W2 _ x _ => pkCode_any x W2
theorem pkMay10_any (p : Pk) (sw sc sf : Value) (w : World) (hk : p.k = 10) (hs : PkSm p) (hl : PkL w p sw sc sf) (hm : MaxL w) : Calls Tryz.prog 81 #[pkV p sw sc sf] w (TruePost w (pkMayL p)) := by
 have e : pkMayL p = pkMany p.fs tFilter := by unfold pkMayL; rw [if_neg (by omega), if_neg (by omega), if_pos hk]
 rw [e]
 obtain ⟨A, c, rfl, h1⟩ := hl.lf
 exact pkMayF10 p sw sc _ w _ fun W hW => fitOfF W A c p.fs _ (h1.keeps hW) (by have := hs.fs.1; omega) fun W2 hW2 x hx => tFilt_any W2 x (hs.fs.2 x hx) ((hm.keeps hW).keeps hW2)
theorem pkMay4_any (p : Pk) (sw sc sf : Value) (w : World) (hk : p.k = 4 ∨ p.k = 5 ∨ p.k = 6 ∨ p.k = 7 ∨ p.k = 11) : Calls Tryz.prog 140 #[pkV p sw sc sf] w (TruePost w (pkMayL p)) := by
 have e : pkMayL p = true := by unfold pkMayL; rw [if_neg (by omega), if_neg (by omega), if_neg (by omega)]
 rw [e]
 exact pkMayAns p sw sc sf w
set_option maxRecDepth 100000 in
set_option maxHeartbeats 1000000 in
/-- A kind that has an ID. -/
theorem pkMayList_any (p : Pk) (sw sc sf : Value) (w : World) (i : FuncId) (bx : Nat) (hk : 4 ≤ p.k ∧ p.k ≤ 11) (hr : ∀ (args : Array Value) (w : World), (callFunc i args).run Tryz.prog w = .ok (.enter i args) w) (hb : Row w bx 30 #[.func (.func i) #[] #[]]) (HC : ∀ W, Keeps w W [] → Calls Tryz.prog i #[pkV p sw sc sf] W (TruePost W (pkMayL p))) :
  Calls Tryz.prog 109 #[pkV p sw sc sf, .pointer (some ⟨bx, 0, none⟩)] w (TruePost w (pkMay p)) := by
 rw [pkMayL_eq hk]
 clear hk
 have HI := Lib.hid (fun W => pkWithin_any p.id 1 65535 W)
 have HC := Lib.hid HC
 obtain ⟨a, ha⟩ : ∃ a, pkId p = a := ⟨_, rfl⟩
 have ha2 : pkIn p.id 1 65535 = a := ha
 rw [ha]
 rw [ha2] at HI
 clear ha ha2
 generalize pkMayL p = b2 at HC ⊢
 obtain ⟨k, dup, ret, q, t, b, id, c, cl, keep, hw, wt, wb, wq, wr, hu, hp, u, pw, pr, code, wants, codes, fs⟩ := p
 simp only at HI
 obtain ⟨W0, hW0⟩ : ∃ W, (w).alloc (.cells #[.int .i64 k, .bool dup, .bool ret, .int .i64 q, .string ⟨t.toArray⟩, .string ⟨b.toArray⟩, .int .i64 id, .string ⟨c.toArray⟩, .bool cl, .int .i64 keep, .bool hw, .string ⟨wt.toArray⟩, .string ⟨wb.toArray⟩, .int .i64 wq, .bool wr, .bool hu, .bool hp, .string ⟨u.toArray⟩, .string ⟨pw.toArray⟩, .bool pr, .int .i64 code, sw, sc, sf] 29) = W := ⟨_, rfl⟩
 have k0 : Keeps (w) W0 [] := by rw [← hW0]; exact Keeps.alloc _ _
 have r0 : Row W0 (w).heap.size 29 #[.int .i64 k, .bool dup, .bool ret, .int .i64 q, .string ⟨t.toArray⟩, .string ⟨b.toArray⟩, .int .i64 id, .string ⟨c.toArray⟩, .bool cl, .int .i64 keep, .bool hw, .string ⟨wt.toArray⟩, .string ⟨wb.toArray⟩, .int .i64 wq, .bool wr, .bool hu, .bool hp, .string ⟨u.toArray⟩, .string ⟨pw.toArray⟩, .bool pr, .int .i64 code, sw, sc, sf] := by rw [← hW0]; exact Row.new _ _ _
 have HP := Lib.hid r0
 have HK := Lib.hid k0
 have HB := Lib.hid (hb.keeps k0)
 clear k0 r0 hb
 go_enter Tryz.func109, Tryz.ntmps109
 go_upto_region 1 with fail
 clear hW0
 cases a with
 | true =>
  refine wp_region_line KeepsAll _ 8 rfl (by kernel_rfl) (by kernel_rfl) (fun _ => Keeps.refl _ _) (fun _ _ _ h k => h.trans k (by simp)) ?_
  simp only [List.take_succ_cons, List.take_zero, List.drop_succ_cons, List.drop_zero]
  refine lq (.pointer (some ⟨w.heap.size, 6, none⟩)) ?_
  refine ll 2 (.tmp 4) (⟨w.heap.size, 6, none⟩) (.int .i64 id) (fun W hW => ((HP.out.keeps hW).cell 6).trans (by kernel_rfl)) ?_
  refine loose_qc 52 (#[.int .i64 id, .int .i64 1, .int .i64 65535]) (.bool true) (fun _ => by kernel_rfl) (fun _ _ => by kernel_rfl) (fun W hW => HI.out W) ?_
  refine lq (.bool true) ?_
  refine ll 30 (.tmp 1) (⟨bx, 0, none⟩) (.func (.func i) #[] #[]) (fun W hW => ((HB.out.keeps hW).cell 0).trans (by kernel_rfl)) ?_
  refine lw 29 (.tmp 2) (w.heap.size) ([.int .i64 k, .bool dup, .bool ret, .int .i64 q, .string ⟨t.toArray⟩, .string ⟨b.toArray⟩, .int .i64 id, .string ⟨c.toArray⟩, .bool cl, .int .i64 keep, .bool hw, .string ⟨wt.toArray⟩, .string ⟨wb.toArray⟩, .int .i64 wq, .bool wr, .bool hu, .bool hp, .string ⟨u.toArray⟩, .string ⟨pw.toArray⟩, .bool pr, .int .i64 code, sw, sc, sf]) Tryz.underlying29 (fun W hW => range_row (HP.out.keeps hW)) ?_
  refine loose_qv i (#[]) (#[.agg #[.int .i64 k, .bool dup, .bool ret, .int .i64 q, .string ⟨t.toArray⟩, .string ⟨b.toArray⟩, .int .i64 id, .string ⟨c.toArray⟩, .bool cl, .int .i64 keep, .bool hw, .string ⟨wt.toArray⟩, .string ⟨wb.toArray⟩, .int .i64 wq, .bool wr, .bool hu, .bool hp, .string ⟨u.toArray⟩, .string ⟨pw.toArray⟩, .bool pr, .int .i64 code, sw, sc, sf]]) (#[.agg #[.int .i64 k, .bool dup, .bool ret, .int .i64 q, .string ⟨t.toArray⟩, .string ⟨b.toArray⟩, .int .i64 id, .string ⟨c.toArray⟩, .bool cl, .int .i64 keep, .bool hw, .string ⟨wt.toArray⟩, .string ⟨wb.toArray⟩, .int .i64 wq, .bool wr, .bool hu, .bool hp, .string ⟨u.toArray⟩, .string ⟨pw.toArray⟩, .bool pr, .int .i64 code, sw, sc, sf]]) (.bool b2) (by first | rfl | simp) rfl hr (fun _ => by kernel_rfl) (fun _ _ => by kernel_rfl) (fun W hW => HC.out W (HK.out.then_ hW)) ?_
  refine lq (.bool b2) ?_
  refine loose_nil (fun W vals hW hkn => ?_)
  simp only [addEnt, knowsAll] at hkn
  try simp only [and_true] at hkn
  simp only [addEnt, fill, Act.put, List.setIfInBounds_toArray, List.set_cons_succ, List.set_cons_zero]
  go_wp2_with fail
  go_ret
  exact ⟨rfl, HK.out.then_ hW⟩
 | false =>
  refine wp_region_line KeepsAll _ 8 rfl (by kernel_rfl) (by kernel_rfl) (fun _ => Keeps.refl _ _) (fun _ _ _ h k => h.trans k (by simp)) ?_
  simp only [List.take_succ_cons, List.take_zero, List.drop_succ_cons, List.drop_zero]
  refine lq (.pointer (some ⟨w.heap.size, 6, none⟩)) ?_
  refine ll 2 (.tmp 4) (⟨w.heap.size, 6, none⟩) (.int .i64 id) (fun W hW => ((HP.out.keeps hW).cell 6).trans (by kernel_rfl)) ?_
  refine loose_qc 52 (#[.int .i64 id, .int .i64 1, .int .i64 65535]) (.bool false) (fun _ => by kernel_rfl) (fun _ _ => by kernel_rfl) (fun W hW => HI.out W) ?_
  refine lq (.bool false) ?_
  iterate 3
   refine lo ?_
  refine lq (.bool false) ?_
  refine loose_nil (fun W vals hW hkn => ?_)
  simp only [addEnt, knowsAll] at hkn
  try simp only [and_true] at hkn
  simp only [addEnt, fill, Act.put, List.setIfInBounds_toArray, List.set_cons_succ, List.set_cons_zero]
  go_wp2_with fail
  go_ret
  exact ⟨rfl, HK.out.then_ hW⟩
set_option maxRecDepth 100000 in
set_option maxHeartbeats 1000000 in
theorem pkMay2_any (p : Pk) (sw sc sf : Value) (w : World) (hk : p.k = 2) : Calls Tryz.prog 51 #[pkV p sw sc sf] w (TruePost w (pkMay p)) := by
 have HX := Lib.hid (show pkMay p = (pkIn p.code 0 5 && (p.code == 0 || !p.pr)) by unfold pkMay; rw [if_neg (by omega), if_pos hk])
 have CI := Lib.hid (fun W => pkWithin_any p.code 0 5 W)
 clear hk
 generalize pkMay p = X at HX ⊢
 obtain ⟨k, dup, ret, q, t, b, id, c, cl, keep, hw, wt, wb, wq, wr, hu, hp, u, pw, pr, code, wants, codes, fs⟩ := p
 simp only at HX CI
 generalize pkIn code 0 5 = xi at HX CI
 obtain ⟨z, hz⟩ : ∃ x, (code == 0) = x := ⟨_, rfl⟩
 rw [hz] at HX
 obtain ⟨W0, hW0⟩ : ∃ W, (w).alloc (.cells #[.int .i64 k, .bool dup, .bool ret, .int .i64 q, .string ⟨t.toArray⟩, .string ⟨b.toArray⟩, .int .i64 id, .string ⟨c.toArray⟩, .bool cl, .int .i64 keep, .bool hw, .string ⟨wt.toArray⟩, .string ⟨wb.toArray⟩, .int .i64 wq, .bool wr, .bool hu, .bool hp, .string ⟨u.toArray⟩, .string ⟨pw.toArray⟩, .bool pr, .int .i64 code, sw, sc, sf] 29) = W := ⟨_, rfl⟩
 have k0 : Keeps (w) W0 [] := by rw [← hW0]; exact Keeps.alloc _ _
 have r0 : Row W0 (w).heap.size 29 #[.int .i64 k, .bool dup, .bool ret, .int .i64 q, .string ⟨t.toArray⟩, .string ⟨b.toArray⟩, .int .i64 id, .string ⟨c.toArray⟩, .bool cl, .int .i64 keep, .bool hw, .string ⟨wt.toArray⟩, .string ⟨wb.toArray⟩, .int .i64 wq, .bool wr, .bool hu, .bool hp, .string ⟨u.toArray⟩, .string ⟨pw.toArray⟩, .bool pr, .int .i64 code, sw, sc, sf] := by rw [← hW0]; exact Row.new _ _ _
 have HP := Lib.hid r0
 have HK := Lib.hid k0
 have HK0 := Lib.hid (Keeps.refl W0 [])
 clear k0 r0
 go_enter Tryz.func51, Tryz.ntmps51
 go_upto_region 1 with fail
 clear hW0
 cases xi with
 | true =>
  cases z with
  | true =>
   refine wp_region_line KeepsAll _ 13 rfl (by kernel_rfl) (by kernel_rfl) (fun _ => Keeps.refl _ _) (fun _ _ _ h k => h.trans k (by simp)) ?_
   simp only [List.take_succ_cons, List.take_zero, List.drop_succ_cons, List.drop_zero]
   refine lq (.pointer (some ⟨w.heap.size, 20, none⟩)) ?_
   refine ll 3 (.tmp 3) (⟨w.heap.size, 20, none⟩) (.int .i64 code) (fun W hW => ((HP.out.keeps (HK0.out.then_ hW)).cell 20).trans (by kernel_rfl)) ?_
   refine loose_qc 52 (#[.int .i64 code, .int .i64 0, .int .i64 5]) (.bool true) (fun _ => by kernel_rfl) (fun _ _ => by kernel_rfl) (fun W hW => CI.out W) ?_
   refine lq (.bool true) ?_
   refine lq (.pointer (some ⟨w.heap.size, 20, none⟩)) ?_
   refine ll 3 (.tmp 7) (⟨w.heap.size, 20, none⟩) (.int .i64 code) (fun W hW => ((HP.out.keeps (HK0.out.then_ hW)).cell 20).trans (by kernel_rfl)) ?_
   refine loose_q (.bool true) (fun _ => by kernel_rfl) (fun W _ => (show _ = Result.ok (Next.value (.bool (code == 0))) W by kernel_rfl).trans (by rw [hz])) ?_
   refine lq (.bool true) ?_
   iterate 3
    refine lo ?_
   iterate 2
    refine lq (.bool true) ?_
   refine loose_nil (fun W vals hW hkn => ?_)
   simp only [addEnt, knowsAll] at hkn
   try simp only [and_true] at hkn
   simp only [addEnt, fill, Act.put, List.setIfInBounds_toArray, List.set_cons_succ, List.set_cons_zero]
   go_wp2_with fail
   go_ret
   exact ⟨by rw [HX.out]; rfl, HK.out.then_ hW⟩
  | false =>
   refine wp_region_line KeepsAll _ 13 rfl (by kernel_rfl) (by kernel_rfl) (fun _ => Keeps.refl _ _) (fun _ _ _ h k => h.trans k (by simp)) ?_
   simp only [List.take_succ_cons, List.take_zero, List.drop_succ_cons, List.drop_zero]
   refine lq (.pointer (some ⟨w.heap.size, 20, none⟩)) ?_
   refine ll 3 (.tmp 3) (⟨w.heap.size, 20, none⟩) (.int .i64 code) (fun W hW => ((HP.out.keeps (HK0.out.then_ hW)).cell 20).trans (by kernel_rfl)) ?_
   refine loose_qc 52 (#[.int .i64 code, .int .i64 0, .int .i64 5]) (.bool true) (fun _ => by kernel_rfl) (fun _ _ => by kernel_rfl) (fun W hW => CI.out W) ?_
   refine lq (.bool true) ?_
   refine lq (.pointer (some ⟨w.heap.size, 20, none⟩)) ?_
   refine ll 3 (.tmp 7) (⟨w.heap.size, 20, none⟩) (.int .i64 code) (fun W hW => ((HP.out.keeps (HK0.out.then_ hW)).cell 20).trans (by kernel_rfl)) ?_
   refine loose_q (.bool false) (fun _ => by kernel_rfl) (fun W _ => (show _ = Result.ok (Next.value (.bool (code == 0))) W by kernel_rfl).trans (by rw [hz])) ?_
   refine lq (.bool false) ?_
   refine lq (.pointer (some ⟨w.heap.size, 19, none⟩)) ?_
   refine ll 4 (.tmp 11) (⟨w.heap.size, 19, none⟩) (.bool pr) (fun W hW => ((HP.out.keeps (HK0.out.then_ hW)).cell 19).trans (by kernel_rfl)) ?_
   iterate 3
    refine lq (.bool (!pr)) ?_
   refine loose_nil (fun W vals hW hkn => ?_)
   simp only [addEnt, knowsAll] at hkn
   try simp only [and_true] at hkn
   simp only [addEnt, fill, Act.put, List.setIfInBounds_toArray, List.set_cons_succ, List.set_cons_zero]
   go_wp2_with fail
   go_ret
   exact ⟨by rw [HX.out]; rfl, HK.out.then_ hW⟩
 | false =>
  refine wp_region_line KeepsAll _ 13 rfl (by kernel_rfl) (by kernel_rfl) (fun _ => Keeps.refl _ _) (fun _ _ _ h k => h.trans k (by simp)) ?_
  simp only [List.take_succ_cons, List.take_zero, List.drop_succ_cons, List.drop_zero]
  refine lq (.pointer (some ⟨w.heap.size, 20, none⟩)) ?_
  refine ll 3 (.tmp 3) (⟨w.heap.size, 20, none⟩) (.int .i64 code) (fun W hW => ((HP.out.keeps (HK0.out.then_ hW)).cell 20).trans (by kernel_rfl)) ?_
  refine loose_qc 52 (#[.int .i64 code, .int .i64 0, .int .i64 5]) (.bool false) (fun _ => by kernel_rfl) (fun _ _ => by kernel_rfl) (fun W hW => CI.out W) ?_
  refine lq (.bool false) ?_
  iterate 8
   refine lo ?_
  refine lq (.bool false) ?_
  refine loose_nil (fun W vals hW hkn => ?_)
  simp only [addEnt, knowsAll] at hkn
  try simp only [and_true] at hkn
  simp only [addEnt, fill, Act.put, List.setIfInBounds_toArray, List.set_cons_succ, List.set_cons_zero]
  go_wp2_with fail
  go_ret
  exact ⟨by rw [HX.out]; rfl, HK.out.then_ hW⟩
end Go.Proofs.YtahbikfbjenfpaaGreatDoor
