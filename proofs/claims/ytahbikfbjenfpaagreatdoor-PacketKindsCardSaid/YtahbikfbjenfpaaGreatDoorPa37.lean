/- The statements of packets: few. -/
import Derived.Test.YtahbikfbjenfpaaGreatDoorPa36

namespace Go.Proofs.YtahbikfbjenfpaaGreatDoor
open Go.RowKit Go.Shelf

structure PkFewP (p : Pk) : Prop where
 a : p.t.length + p.c.length + p.u.length ≤ 3000
 b : p.b.length ≤ 3000
 pw : p.pw.length ≤ 3000
 wt : p.wt.length ≤ 3000
 wb : p.wb.length ≤ 3000
 lw : p.wants.length ≤ 20
 lc : p.codes.length ≤ 20
 lf : p.fs.length ≤ 20
 ws : ∀ w ∈ p.wants, w.1.length ≤ 300
 fs : ∀ f ∈ p.fs, f.length ≤ 300
theorem PkFewP.sm {p : Pk} (h : PkFewP p) : PkSm p where
 t := by have := h.a; omega
 b := by have := h.b; omega
 c := by have := h.a; omega
 u := by have := h.a; omega
 pw := by have := h.pw; omega
 wt := by have := h.wt; omega
 wb := by have := h.wb; omega
 wants := ⟨by have := h.lw; omega, fun w hw => by have := h.ws w hw; omega⟩
 codes := by have := h.lc; omega
 fs := ⟨by have := h.lf; omega, fun w hw => by have := h.fs w hw; omega⟩
/-- What few answers. -/
def FewPost (w : World) (p : Pk) (e : Ending) (w' : World) : Prop := Keeps w w' [] ∧ (PkFewP p ∧ e = .returned (.bool true) ∨ ¬ PkFewP p ∧ e = .returned (.bool false))
set_option maxRecDepth 100000 in
set_option maxHeartbeats 2000000 in
theorem pkFew_any (p : Pk) (sw sc sf : Value) (w : World) (hl : PkL w p sw sc sf) (hb : p.t.length + p.c.length + p.u.length ≤ 9223372036854775807) : Calls Tryz.prog 9 #[pkV p sw sc sf] w (FewPost w p) := by
 obtain ⟨A1, d1, A2, d2, A3, d3, rfl, rfl, rfl⟩ := hl.slices
 have HL := Lib.hid hl
 clear hl
 obtain ⟨p0, hp0⟩ : ∃ p0, p = p0 := ⟨_, rfl⟩
 have HQ := Lib.hid hp0
 rw [show FewPost w p = FewPost w p0 by rw [hp0]]
 clear hp0
 obtain ⟨k, dup, ret, q, t, b, id, c, cl, keep, hw, wt, wb, wq, wr, hu, hp, u, pw, pr, code, wants, codes, fs⟩ := p
 obtain ⟨W0, hW0⟩ : ∃ W, w.alloc (.cells #[.int .i64 k, .bool dup, .bool ret, .int .i64 q, .string ⟨t.toArray⟩, .string ⟨b.toArray⟩, .int .i64 id, .string ⟨c.toArray⟩, .bool cl, .int .i64 keep, .bool hw, .string ⟨wt.toArray⟩, .string ⟨wb.toArray⟩, .int .i64 wq, .bool wr, .bool hu, .bool hp, .string ⟨u.toArray⟩, .string ⟨pw.toArray⟩, .bool pr, .int .i64 code, .slice A1 wants.length d1, .slice A2 codes.length d2, .slice A3 fs.length d3] 29) = W := ⟨_, rfl⟩
 have k0 : Keeps w W0 [] := by rw [← hW0]; exact Keeps.alloc _ _
 have r0 : Row W0 w.heap.size 29 #[.int .i64 k, .bool dup, .bool ret, .int .i64 q, .string ⟨t.toArray⟩, .string ⟨b.toArray⟩, .int .i64 id, .string ⟨c.toArray⟩, .bool cl, .int .i64 keep, .bool hw, .string ⟨wt.toArray⟩, .string ⟨wb.toArray⟩, .int .i64 wq, .bool wr, .bool hu, .bool hp, .string ⟨u.toArray⟩, .string ⟨pw.toArray⟩, .bool pr, .int .i64 code, .slice A1 wants.length d1, .slice A2 codes.length d2, .slice A3 fs.length d3] := by rw [← hW0]; exact Row.new _ _ _
 have HK := Lib.hid k0
 have x4 := r0.cell 4
 have x5 := r0.cell 5
 have x7 := r0.cell 7
 have x11 := r0.cell 11
 have x12 := r0.cell 12
 have x17 := r0.cell 17
 have x18 := r0.cell 18
 have x21 := r0.cell 21
 have x22 := r0.cell 22
 have x23 := r0.cell 23
 simp only [List.getElem?_toArray, List.getElem?_cons_zero, List.getElem?_cons_succ] at x4 x5 x7 x11 x12 x17 x18 x21 x22 x23
 have HLW := Lib.hid (HL.out.keeps k0)
 clear r0 k0 HL
 simp only at HQ hb HLW
 have hs1 : wrap64 ((t.length : Int) + (c.length : Int)) = (t.length : Int) + (c.length : Int) := IntWalk.wrap64_in _ (by omega)
 have hs2 : wrap64 ((t.length : Int) + (c.length : Int) + (u.length : Int)) = (t.length : Int) + (c.length : Int) + (u.length : Int) := IntWalk.wrap64_in _ (by omega)
 go_enter Tryz.func9, Tryz.ntmps9
 go_upto_region 1 with fail
 clear hW0
 by_cases g1 : (t.length : Int) + (c.length : Int) + (u.length : Int) > 3000
 ·skip
  have HN := Lib.hid (show ¬ PkFewP p0 from (fun h => by have := h.a; rw [← HQ.out] at this; simp only at this; omega))
  go_wp2_with fail
  go_ret
  exact ⟨HK.out, .inr ⟨HN.out, rfl⟩⟩
 by_cases g2 : (b.length : Int) > 3000
 ·skip
  have HN := Lib.hid (show ¬ PkFewP p0 from (fun h => by have := h.b; rw [← HQ.out] at this; simp only at this; omega))
  go_wp2_with fail
  go_ret
  exact ⟨HK.out, .inr ⟨HN.out, rfl⟩⟩
 by_cases g3 : (pw.length : Int) > 3000
 ·skip
  have HN := Lib.hid (show ¬ PkFewP p0 from (fun h => by have := h.pw; rw [← HQ.out] at this; simp only at this; omega))
  go_wp2_with fail
  go_ret
  exact ⟨HK.out, .inr ⟨HN.out, rfl⟩⟩
 by_cases g4 : (wt.length : Int) > 3000
 ·skip
  have HN := Lib.hid (show ¬ PkFewP p0 from (fun h => by have := h.wt; rw [← HQ.out] at this; simp only at this; omega))
  go_wp2_with fail
  go_ret
  exact ⟨HK.out, .inr ⟨HN.out, rfl⟩⟩
 by_cases g5 : (wb.length : Int) > 3000
 ·skip
  have HN := Lib.hid (show ¬ PkFewP p0 from (fun h => by have := h.wb; rw [← HQ.out] at this; simp only at this; omega))
  go_wp2_with fail
  go_ret
  exact ⟨HK.out, .inr ⟨HN.out, rfl⟩⟩
 by_cases g6 : (wants.length : Int) > 20
 ·skip
  have HN := Lib.hid (show ¬ PkFewP p0 from (fun h => by have := h.lw; rw [← HQ.out] at this; simp only at this; omega))
  go_wp2_with fail
  go_ret
  exact ⟨HK.out, .inr ⟨HN.out, rfl⟩⟩
 by_cases g7 : (codes.length : Int) > 20
 ·skip
  have HN := Lib.hid (show ¬ PkFewP p0 from (fun h => by have := h.lc; rw [← HQ.out] at this; simp only at this; omega))
  go_wp2_with fail
  go_ret
  exact ⟨HK.out, .inr ⟨HN.out, rfl⟩⟩
 by_cases g8 : (fs.length : Int) > 20
 ·skip
  have HN := Lib.hid (show ¬ PkFewP p0 from (fun h => by have := h.lf; rw [← HQ.out] at this; simp only at this; omega))
  go_wp2_with fail
  go_ret
  exact ⟨HK.out, .inr ⟨HN.out, rfl⟩⟩
 have HG := Lib.hid (And.intro g1 (And.intro g2 (And.intro g3 (And.intro g4 (And.intro g5 (And.intro g6 (And.intro g7 g8)))))))
 go_wp2_with fail
 clear g1 g2 g3 g4 g5 x4 x5 x7 x11 x12 x17 x18 x22 hs1 hs2
 go_loop [4] (fun i => ∃ j : Nat, j ≤ wants.length ∧ i = .int .i64 j ∧ Hid (∀ x ∈ wants.take j, x.1.length ≤ 300)) (fun i => wants.length - (intOf i).toNat)
 case atStart => exact ⟨0, by omega, rfl, Lib.hid (by simp)⟩
 case round =>
  obtain ⟨j, hj, rfl, HR⟩ := hrel
  by_cases hjl : j < wants.length
  ·obtain ⟨A9, d9, e9, hla⟩ := HLW.out.lw
   obtain ⟨b1, o1, e1, _, hc⟩ := hla.at_ hjl
   injection e9 with e9
   subst e9
   subst e1
   have m1 := hc 0 (by omega)
   have HW9 := Lib.hid (show ∀ n, wants[j].1.length ≤ n → ∀ x ∈ wants.take (j + 1), x.1.length ≤ 300 ∨ x.1.length ≤ n from fun n hn x hx => by
    rw [List.take_succ_eq_append_getElem hjl] at hx
    rcases List.mem_append.1 hx with hx | hx
    ·exact .inl (HR.out x hx)
    ·rw [List.mem_singleton] at hx
     subst hx
     exact .inr hn)
   have HW8 := Lib.hid (show ∀ m : Nat, m < wants[j].1.length → 300 ≤ m → ¬ PkFewP p0 from fun m hm hm3 h => by
    have := h.ws wants[j] (by rw [← HQ.out]; exact List.getElem_mem _)
    omega)
   simp only [wantC, List.getElem?_cons_zero, Nat.add_zero] at m1
   obtain ⟨y, hy⟩ : ∃ y, wants[j].1 = y := ⟨_, rfl⟩
   rw [hy] at m1 HW9 HW8
   clear hla hc hy
   by_cases hyl : (y.length : Int) > 300
   ·have HN := Lib.hid (HW8.out 300 (by omega) (by omega))
    go_wp2_with fail
    go_ret
    exact ⟨HK.out, .inr ⟨HN.out, rfl⟩⟩
   ·have HN := Lib.hid (show ∀ x ∈ wants.take (j + 1), x.1.length ≤ 300 from fun x hx => by
     rcases HW9.out 300 (by omega) x hx with h | h <;> exact h)
    go_wp2_with fail
    exact ⟨⟨j + 1, by omega, by go_num, HN⟩, by simp [intOf]; omega⟩
  ·obtain rfl : j = wants.length := by omega
   have HWS := Lib.hid (show ∀ x ∈ wants, x.1.length ≤ 300 by have := HR.out; rw [List.take_length] at this; exact this)
   clear HR
   go_wp2_with fail
   go_loop [5] (fun i => ∃ j : Nat, j ≤ fs.length ∧ i = .int .i64 j ∧ Hid (∀ x ∈ fs.take j, x.length ≤ 300)) (fun i => fs.length - (intOf i).toNat)
   case atStart => exact ⟨0, by omega, rfl, Lib.hid (by simp)⟩
   case round =>
    obtain ⟨j, hj, rfl, HR⟩ := hrel
    by_cases hjl : j < fs.length
    ·obtain ⟨A9, d9, e9, hla⟩ := HLW.out.lf
     obtain ⟨b1, o1, e1, _, hc⟩ := hla.at_ hjl
     injection e9 with e9
     subst e9
     subst e1
     have m1 := hc 0 (by omega)
     have HW9 := Lib.hid (show ∀ n, fs[j].length ≤ n → ∀ x ∈ fs.take (j + 1), x.length ≤ 300 ∨ x.length ≤ n from fun n hn x hx => by
      rw [List.take_succ_eq_append_getElem hjl] at hx
      rcases List.mem_append.1 hx with hx | hx
      ·exact .inl (HR.out x hx)
      ·rw [List.mem_singleton] at hx
       subst hx
       exact .inr hn)
     have HW8 := Lib.hid (show ∀ m : Nat, m < fs[j].length → 300 ≤ m → ¬ PkFewP p0 from fun m hm hm3 h => by
      have := h.fs fs[j] (by rw [← HQ.out]; exact List.getElem_mem _)
      omega)
     simp only [txtV, List.getElem?_cons_zero, Nat.add_zero, Nat.mul_one] at m1
     obtain ⟨y, hy⟩ : ∃ y, fs[j] = y := ⟨_, rfl⟩
     rw [hy] at m1 HW9 HW8
     clear hla hc hy
     by_cases hyl : (y.length : Int) > 300
     ·have HN := Lib.hid (HW8.out 300 (by omega) (by omega))
      go_wp2_with fail
      go_ret
      exact ⟨HK.out, .inr ⟨HN.out, rfl⟩⟩
     ·have HN := Lib.hid (show ∀ x ∈ fs.take (j + 1), x.length ≤ 300 from fun x hx => by
       rcases HW9.out 300 (by omega) x hx with h | h <;> exact h)
      go_wp2_with fail
      exact ⟨⟨j + 1, by omega, by go_num, HN⟩, by simp [intOf]; omega⟩
    ·obtain rfl : j = fs.length := by omega
     have HFS := Lib.hid (show PkFewP p0 by
      have := HR.out
      rw [List.take_length] at this
      have hg := HG.out
      rw [← HQ.out]
      exact ⟨by simp only; omega, by simp only; omega, by simp only; omega, by simp only; omega, by simp only; omega, by simp only; omega, by simp only; omega, by simp only; omega, HWS.out, this⟩)
     go_wp2_with fail
     go_ret
     exact ⟨HK.out, .inl ⟨HFS.out, rfl⟩⟩
end Go.Proofs.YtahbikfbjenfpaaGreatDoor
