/- Package packet: a writer that a call has made; how a packet is written, by its kind. Package packet: how lists are written, and a connect. -/
import Derived.Test.YtahbikfbjenfpaaGreatDoorPa20
import Derived.Test.YtahbikfbjenfpaaGreatDoorPa21

namespace Go.Proofs.YtahbikfbjenfpaaGreatDoor
open Go.RowKit

/-- A writer that was made since a world. -/
structure WrAt (w0 W : World) (p : Nat) (l : List UInt8) : Prop where
 k : Keeps w0 W []
 h : w0.heap.size ≤ p
 v : ∃ v, WrB W w0.heap.size p v l
/-- What writing leaves alone: all rows but writers' and bytes'. -/
def RowsGo (W W' : World) : Prop := ∀ b t cs, Row W b t cs → 120 ≠ t → 5 ≠ t → Row W' b t cs
theorem RowsGo.of_keeps {W W' : World} (h : Keeps W W' []) : RowsGo W W' := fun _ _ _ hr _ _ => hr.keeps h
theorem RowsGo.trans {W W' W'' : World} (h : RowsGo W W') (k : RowsGo W' W'') : RowsGo W W'' := fun b t cs hr h1 h2 => k b t cs (h b t cs hr h1 h2) h1 h2
theorem WrAt.keeps {w0 W W' : World} {p : Nat} {l : List UInt8} (h : WrAt w0 W p l) (hk : Keeps W W' []) : WrAt w0 W' p l := by
 obtain ⟨v, hv⟩ := h.v
 exact ⟨h.k.then_ hk, h.h, v, hv.keep hk (by simp) (by simp)⟩
theorem WrAt.of {w0 W W' : World} {p : Nat} {l l' : List UInt8} {v v' : Value} (hK : Keeps w0 W []) (hh : w0.heap.size ≤ p) (hv : WrB W w0.heap.size p v l) (hv' : WrB W' w0.heap.size p v' l') (hk : Keeps W W' (p :: v.ownBlock.toList)) : WrAt w0 W' p l' ∧ RowsGo W W' := by
 refine ⟨⟨hK.trans hk (fun x hx hlt => ?_), hh, v', hv'⟩, fun b t cs hr h1 h2 => hr.keep hk ?_⟩
 ·rcases List.mem_cons.1 hx with rfl | hx
  ·omega
  ·have := owned_lt hv.2 x (by simpa using hx)
   omega
 ·intro hb
  rcases List.mem_cons.1 hb with rfl | hb
  ·exact Row.ne_type hv.1 hr h1 rfl
  ·exact own_ne_row hv.2 hr h2 (by simpa using hb)
theorem wrT_any {w0 W : World} {p : Nat} {l : List UInt8} (h : WrAt w0 W p l) (s : List UInt8) (hs : s.length ≤ 65535) (hlen : l.length + (2 + s.length) ≤ 65536) :
  Calls Tryz.prog 67 #[.pointer (some ⟨p, 0, none⟩), .string ⟨s.toArray⟩] W fun e W' => e = .returned (.int .i64 0) ∧ WrAt w0 W' p (l ++ pkTx s) ∧ RowsGo W W' := by
 obtain ⟨v, hv⟩ := h.v
 refine (wrText_any W w0.heap.size p v l s hv hs hlen h.k.size).mono ?_
 rintro e W' ⟨rfl, v', h1, h2, _⟩
 exact ⟨rfl, WrAt.of h.k h.h hv h1 h2⟩
theorem wrN_any {w0 W : World} {p : Nat} {l : List UInt8} (h : WrAt w0 W p l) (n k : Nat) (hk1 : 1 ≤ k) (hk8 : k ≤ 8) (hn : n < 256 ^ k) (hlen : l.length + k ≤ 65536) {k' : Int} (hk : k' = k) :
  Calls Tryz.prog 56 #[.pointer (some ⟨p, 0, none⟩), .int .u64 n, .int .i64 k'] W fun e W' => e = .returned (.int .i64 0) ∧ WrAt w0 W' p (l ++ toBE k n) ∧ RowsGo W W' := by
 subst hk
 obtain ⟨v, hv⟩ := h.v
 refine (wrNumber_any W w0.heap.size p v l n k hv hk1 hk8 hn hlen h.k.size).mono ?_
 rintro e W' ⟨rfl, v', h1, h2, _⟩
 exact ⟨rfl, WrAt.of h.k h.h hv h1 h2⟩
theorem wrB_any {w0 W : World} {p : Nat} {l : List UInt8} (h : WrAt w0 W p l) (b : Bool) (hlen : l.length + 1 ≤ 65536) :
  Calls Tryz.prog 55 #[.pointer (some ⟨p, 0, none⟩), .bool b] W fun e W' => e = .returned (.int .i64 0) ∧ WrAt w0 W' p (l ++ pkOne (pkB b 1)) ∧ RowsGo W W' := by
 obtain ⟨v, hv⟩ := h.v
 refine (wrTruth_any W w0.heap.size p v l b hv hlen h.k.size).mono ?_
 rintro e W' ⟨rfl, v', h1, h2, _⟩
 have e : pkOne (pkB b 1) = [bif b then 1 else 0] := by cases b <;> rfl
 rw [e]
 exact ⟨rfl, WrAt.of h.k h.h hv h1 h2⟩
/-- What writing does. -/
def WrPost (w0 W : World) (p : Nat) (l : List UInt8) (e : Ending) (W' : World) : Prop := e = .returned (.tuple #[]) ∧ WrAt w0 W' p l ∧ RowsGo W W'
theorem u64_nat {n : Nat} (h1 : n ≤ 65535) : IntKind.u64.wrap (n : Int) = (n : Int) := IntWalk.u64_in _ ⟨by omega, by omega⟩
set_option maxRecDepth 100000 in
set_option maxHeartbeats 1000000 in
theorem pkWr2_any (p : Pk) (sw sc sf : Value) (w0 w : World) (r : Nat) (l : List UInt8) (h : WrAt w0 w r l) (hk : p.k = 2) (hs : 0 ≤ p.code ∧ p.code ≤ 5) (hl : l.length ≤ 60000) :
  Calls Tryz.prog 54 #[.pointer (some ⟨r, 0, none⟩), pkV p sw sc sf] w (WrPost w0 w r (l ++ pkBody p)) := by
 rw [pkBody2 hk]
 obtain ⟨N, hN⟩ : ∃ N : Nat, p.code = (N : Int) := ⟨p.code.toNat, by omega⟩
 rw [hN] at hs
 rw [hN, Int.toNat_natCast]
 obtain ⟨k, dup, ret, q, t, b, id, c, cl, keep, hw, wt, wb, wq, wr, hu, hp, u, pw, pr, code, wants, codes, fs⟩ := p
 simp only at hs hl hk
 have HKK := Lib.hid hk
 have HSS := Lib.hid hs
 clear hk hs
 obtain ⟨W0, hW0⟩ : ∃ W, (w).alloc (.cells #[.int .i64 k, .bool dup, .bool ret, .int .i64 q, .string ⟨t.toArray⟩, .string ⟨b.toArray⟩, .int .i64 id, .string ⟨c.toArray⟩, .bool cl, .int .i64 keep, .bool hw, .string ⟨wt.toArray⟩, .string ⟨wb.toArray⟩, .int .i64 wq, .bool wr, .bool hu, .bool hp, .string ⟨u.toArray⟩, .string ⟨pw.toArray⟩, .bool pr, .int .i64 code, sw, sc, sf] 29) = W := ⟨_, rfl⟩
 have k0 : Keeps (w) W0 [] := by rw [← hW0]; exact Keeps.alloc _ _
 have r0 : Row W0 (w).heap.size 29 #[.int .i64 k, .bool dup, .bool ret, .int .i64 q, .string ⟨t.toArray⟩, .string ⟨b.toArray⟩, .int .i64 id, .string ⟨c.toArray⟩, .bool cl, .int .i64 keep, .bool hw, .string ⟨wt.toArray⟩, .string ⟨wb.toArray⟩, .int .i64 wq, .bool wr, .bool hu, .bool hp, .string ⟨u.toArray⟩, .string ⟨pw.toArray⟩, .bool pr, .int .i64 code, sw, sc, sf] := by rw [← hW0]; exact Row.new _ _ _
 simp only at hN; subst hN
 have HP := Lib.hid r0
 have HA := Lib.hid (h.keeps k0)
 have HG := Lib.hid (RowsGo.of_keeps k0)
 clear k0 r0 h
 go_enter Tryz.func54, Tryz.ntmps54
 go_upto_region 1 with fail
 clear hW0
 have hwc := u64_nat (n := N) (by have := HSS.out; omega)
 refine wp_region_line KeepsAll _ 3 rfl (by kernel_rfl) (by kernel_rfl) (fun _ => Keeps.refl _ _) (fun _ _ _ h k => h.trans k (by simp)) ?_
 simp only [List.take_succ_cons, List.take_zero, List.drop_succ_cons, List.drop_zero]
 refine lq (.pointer (some ⟨r, 0, none⟩)) ?_
 refine lq (.pointer (some ⟨w.heap.size, 19, none⟩)) ?_
 refine ll 4 (.tmp 5) (⟨w.heap.size, 19, none⟩) (.bool pr) (fun W hW => ((HP.out.keeps hW).cell 19).trans (by kernel_rfl)) ?_
 refine loose_nil (fun W vals hW hkn => ?_)
 simp only [addEnt, knowsAll] at hkn
 try simp only [and_true] at hkn
 simp only [addEnt, fill, Act.put, List.setIfInBounds_toArray, List.set_cons_succ, List.set_cons_zero]
 clear hkn
 have HA1 := Lib.hid (HA.out.keeps hW)
 have HP1 := Lib.hid (HP.out.keeps hW)
 have HG1 := Lib.hid (HG.out.trans (RowsGo.of_keeps hW))
 clear hW
 go_wp2_with fail
 refine (wrB_any HA1.out pr (by omega)).mono ?_
 rintro e w1 ⟨rfl, ha, hg⟩
 have HP := Lib.hid (hg _ _ _ HP1.out (by decide) (by decide))
 have HA := Lib.hid ha
 have HG := Lib.hid (HG1.out.trans hg)
 clear ha hg HA1 HP1 HG1
 go_upto_region 2 with fail
 refine wp_region_line KeepsAll _ 4 rfl (by kernel_rfl) (by kernel_rfl) (fun _ => Keeps.refl _ _) (fun _ _ _ h k => h.trans k (by simp)) ?_
 simp only [List.take_succ_cons, List.take_zero, List.drop_succ_cons, List.drop_zero]
 refine lq (.pointer (some ⟨r, 0, none⟩)) ?_
 refine lq (.pointer (some ⟨w.heap.size, 20, none⟩)) ?_
 refine ll 3 (.tmp 9) (⟨w.heap.size, 20, none⟩) (.int .i64 (N : Int)) (fun W hW => ((HP.out.keeps hW).cell 20).trans (by kernel_rfl)) ?_
 refine loose_q (.int .u64 (N : Int)) (fun _ => by kernel_rfl) (fun W _ => (show _ = Result.ok (Next.value (.int .u64 (IntKind.u64.wrap (N : Int)))) W by kernel_rfl).trans (by rw [hwc])) ?_
 refine loose_nil (fun W vals hW hkn => ?_)
 simp only [addEnt, knowsAll] at hkn
 try simp only [and_true] at hkn
 simp only [addEnt, fill, Act.put, List.setIfInBounds_toArray, List.set_cons_succ, List.set_cons_zero]
 clear hkn
 have HA1 := Lib.hid (HA.out.keeps hW)
 have HP1 := Lib.hid (HP.out.keeps hW)
 have HG1 := Lib.hid (HG.out.trans (RowsGo.of_keeps hW))
 clear hW
 go_wp2_with fail
 refine (wrN_any HA1.out N 1 (by omega) (by omega) (by have := HSS.out; simp; omega) (by simp only [List.length_append, pkOne, toBE_length]; omega) rfl).mono ?_
 rintro e w2 ⟨rfl, ha, hg⟩
 have HP := Lib.hid (hg _ _ _ HP1.out (by decide) (by decide))
 have HA := Lib.hid ha
 have HG := Lib.hid (HG1.out.trans hg)
 clear ha hg HA1 HP1 HG1
 go_wp2_with fail
 refine bodyPost_end (results_none rfl _ _ _) rfl ⟨rfl, ?_, HG.out⟩
 rw [← List.append_assoc]
 exact HA.out
set_option maxRecDepth 100000 in
set_option maxHeartbeats 1000000 in
theorem pkWr3_any (p : Pk) (sw sc sf : Value) (w0 w : World) (r : Nat) (l : List UInt8) (h : WrAt w0 w r l) (hk : p.k = 3) (hs : p.t.length ≤ 200 ∧ 0 ≤ p.id ∧ p.id ≤ 65535) (hl : l.length ≤ 60000) :
  Calls Tryz.prog 136 #[.pointer (some ⟨r, 0, none⟩), pkV p sw sc sf] w (WrPost w0 w r (l ++ (pkTx p.t ++ pkIf (decide (0 < p.q)) (pkTwo p.id)))) := by
 obtain ⟨N, hN⟩ : ∃ N : Nat, p.id = (N : Int) := ⟨p.id.toNat, by omega⟩
 rw [hN] at hs
 rw [hN, pkTwo, Int.toNat_natCast]
 by_cases hq : 0 < p.q
 ·rw [decide_eq_true hq, show pkIf true (toBE 2 N) = toBE 2 N from rfl]
  have d1 : decide (p.q > 0) = true := decide_eq_true hq
  clear hq
  obtain ⟨k, dup, ret, q, t, b, id, c, cl, keep, hw, wt, wb, wq, wr, hu, hp, u, pw, pr, code, wants, codes, fs⟩ := p
  simp only at hs hl hk
  have HKK := Lib.hid hk
  have HSS := Lib.hid hs
  clear hk hs
  obtain ⟨W0, hW0⟩ : ∃ W, (w).alloc (.cells #[.int .i64 k, .bool dup, .bool ret, .int .i64 q, .string ⟨t.toArray⟩, .string ⟨b.toArray⟩, .int .i64 id, .string ⟨c.toArray⟩, .bool cl, .int .i64 keep, .bool hw, .string ⟨wt.toArray⟩, .string ⟨wb.toArray⟩, .int .i64 wq, .bool wr, .bool hu, .bool hp, .string ⟨u.toArray⟩, .string ⟨pw.toArray⟩, .bool pr, .int .i64 code, sw, sc, sf] 29) = W := ⟨_, rfl⟩
  have k0 : Keeps (w) W0 [] := by rw [← hW0]; exact Keeps.alloc _ _
  have r0 : Row W0 (w).heap.size 29 #[.int .i64 k, .bool dup, .bool ret, .int .i64 q, .string ⟨t.toArray⟩, .string ⟨b.toArray⟩, .int .i64 id, .string ⟨c.toArray⟩, .bool cl, .int .i64 keep, .bool hw, .string ⟨wt.toArray⟩, .string ⟨wb.toArray⟩, .int .i64 wq, .bool wr, .bool hu, .bool hp, .string ⟨u.toArray⟩, .string ⟨pw.toArray⟩, .bool pr, .int .i64 code, sw, sc, sf] := by rw [← hW0]; exact Row.new _ _ _
  simp only at hN d1; subst hN
  have HP := Lib.hid r0
  have HA := Lib.hid (h.keeps k0)
  have HG := Lib.hid (RowsGo.of_keeps k0)
  clear k0 r0 h
  go_enter Tryz.func136, Tryz.ntmps136
  go_upto_region 1 with fail
  clear hW0
  have hwc := u64_nat (n := N) (by have := HSS.out; omega)
  refine wp_region_line KeepsAll _ 3 rfl (by kernel_rfl) (by kernel_rfl) (fun _ => Keeps.refl _ _) (fun _ _ _ h k => h.trans k (by simp)) ?_
  simp only [List.take_succ_cons, List.take_zero, List.drop_succ_cons, List.drop_zero]
  refine lq (.pointer (some ⟨r, 0, none⟩)) ?_
  refine lq (.pointer (some ⟨w.heap.size, 4, none⟩)) ?_
  refine ll 9 (.tmp 5) (⟨w.heap.size, 4, none⟩) (.string ⟨t.toArray⟩) (fun W hW => ((HP.out.keeps hW).cell 4).trans (by kernel_rfl)) ?_
  refine loose_nil (fun W vals hW hkn => ?_)
  simp only [addEnt, knowsAll] at hkn
  try simp only [and_true] at hkn
  simp only [addEnt, fill, Act.put, List.setIfInBounds_toArray, List.set_cons_succ, List.set_cons_zero]
  clear hkn
  have HA1 := Lib.hid (HA.out.keeps hW)
  have HP1 := Lib.hid (HP.out.keeps hW)
  have HG1 := Lib.hid (HG.out.trans (RowsGo.of_keeps hW))
  clear hW
  go_wp2_with fail
  refine (wrT_any HA1.out t (by have := HSS.out; omega) (by have := HSS.out; omega)).mono ?_
  rintro e w1 ⟨rfl, ha, hg⟩
  have HP := Lib.hid (hg _ _ _ HP1.out (by decide) (by decide))
  have HA := Lib.hid ha
  have HG := Lib.hid (HG1.out.trans hg)
  clear ha hg HA1 HP1 HG1
  have x3 := HP.out.cell 3
  simp only [List.getElem?_toArray, List.getElem?_cons_zero, List.getElem?_cons_succ] at x3
  go_upto_region 3 with fail
  refine wp_region_line KeepsAll _ 4 rfl (by kernel_rfl) (by kernel_rfl) (fun _ => Keeps.refl _ _) (fun _ _ _ h k => h.trans k (by simp)) ?_
  simp only [List.take_succ_cons, List.take_zero, List.drop_succ_cons, List.drop_zero]
  refine lq (.pointer (some ⟨r, 0, none⟩)) ?_
  refine lq (.pointer (some ⟨w.heap.size, 6, none⟩)) ?_
  refine ll 2 (.tmp 12) (⟨w.heap.size, 6, none⟩) (.int .i64 (N : Int)) (fun W hW => ((HP.out.keeps hW).cell 6).trans (by kernel_rfl)) ?_
  refine loose_q (.int .u64 (N : Int)) (fun _ => by kernel_rfl) (fun W _ => (show _ = Result.ok (Next.value (.int .u64 (IntKind.u64.wrap (N : Int)))) W by kernel_rfl).trans (by rw [hwc])) ?_
  refine loose_nil (fun W vals hW hkn => ?_)
  simp only [addEnt, knowsAll] at hkn
  try simp only [and_true] at hkn
  simp only [addEnt, fill, Act.put, List.setIfInBounds_toArray, List.set_cons_succ, List.set_cons_zero]
  clear hkn
  have HA1 := Lib.hid (HA.out.keeps hW)
  have HP1 := Lib.hid (HP.out.keeps hW)
  have HG1 := Lib.hid (HG.out.trans (RowsGo.of_keeps hW))
  clear hW
  go_wp2_with fail
  refine (wrN_any HA1.out N 2 (by omega) (by omega) (by have := HSS.out; simp; omega) (by have := HSS.out; simp only [List.length_append, pkTx_length]; omega) rfl).mono ?_
  rintro e w2 ⟨rfl, ha, hg⟩
  have HP := Lib.hid (hg _ _ _ HP1.out (by decide) (by decide))
  have HA := Lib.hid ha
  have HG := Lib.hid (HG1.out.trans hg)
  clear ha hg HA1 HP1 HG1
  go_wp2_with fail
  refine bodyPost_end (results_none rfl _ _ _) rfl ⟨rfl, ?_, HG.out⟩
  rw [← List.append_assoc]
  exact HA.out
 ·rw [decide_eq_false hq, show pkIf false (toBE 2 N) = [] from rfl, List.append_nil]
  have d1 : decide (p.q > 0) = false := decide_eq_false hq
  clear hq
  obtain ⟨k, dup, ret, q, t, b, id, c, cl, keep, hw, wt, wb, wq, wr, hu, hp, u, pw, pr, code, wants, codes, fs⟩ := p
  simp only at hs hl hk
  have HKK := Lib.hid hk
  have HSS := Lib.hid hs
  clear hk hs
  obtain ⟨W0, hW0⟩ : ∃ W, (w).alloc (.cells #[.int .i64 k, .bool dup, .bool ret, .int .i64 q, .string ⟨t.toArray⟩, .string ⟨b.toArray⟩, .int .i64 id, .string ⟨c.toArray⟩, .bool cl, .int .i64 keep, .bool hw, .string ⟨wt.toArray⟩, .string ⟨wb.toArray⟩, .int .i64 wq, .bool wr, .bool hu, .bool hp, .string ⟨u.toArray⟩, .string ⟨pw.toArray⟩, .bool pr, .int .i64 code, sw, sc, sf] 29) = W := ⟨_, rfl⟩
  have k0 : Keeps (w) W0 [] := by rw [← hW0]; exact Keeps.alloc _ _
  have r0 : Row W0 (w).heap.size 29 #[.int .i64 k, .bool dup, .bool ret, .int .i64 q, .string ⟨t.toArray⟩, .string ⟨b.toArray⟩, .int .i64 id, .string ⟨c.toArray⟩, .bool cl, .int .i64 keep, .bool hw, .string ⟨wt.toArray⟩, .string ⟨wb.toArray⟩, .int .i64 wq, .bool wr, .bool hu, .bool hp, .string ⟨u.toArray⟩, .string ⟨pw.toArray⟩, .bool pr, .int .i64 code, sw, sc, sf] := by rw [← hW0]; exact Row.new _ _ _
  simp only at hN d1; subst hN
  have HP := Lib.hid r0
  have HA := Lib.hid (h.keeps k0)
  have HG := Lib.hid (RowsGo.of_keeps k0)
  clear k0 r0 h
  go_enter Tryz.func136, Tryz.ntmps136
  go_upto_region 1 with fail
  clear hW0
  refine wp_region_line KeepsAll _ 3 rfl (by kernel_rfl) (by kernel_rfl) (fun _ => Keeps.refl _ _) (fun _ _ _ h k => h.trans k (by simp)) ?_
  simp only [List.take_succ_cons, List.take_zero, List.drop_succ_cons, List.drop_zero]
  refine lq (.pointer (some ⟨r, 0, none⟩)) ?_
  refine lq (.pointer (some ⟨w.heap.size, 4, none⟩)) ?_
  refine ll 9 (.tmp 5) (⟨w.heap.size, 4, none⟩) (.string ⟨t.toArray⟩) (fun W hW => ((HP.out.keeps hW).cell 4).trans (by kernel_rfl)) ?_
  refine loose_nil (fun W vals hW hkn => ?_)
  simp only [addEnt, knowsAll] at hkn
  try simp only [and_true] at hkn
  simp only [addEnt, fill, Act.put, List.setIfInBounds_toArray, List.set_cons_succ, List.set_cons_zero]
  clear hkn
  have HA1 := Lib.hid (HA.out.keeps hW)
  have HP1 := Lib.hid (HP.out.keeps hW)
  have HG1 := Lib.hid (HG.out.trans (RowsGo.of_keeps hW))
  clear hW
  go_wp2_with fail
  refine (wrT_any HA1.out t (by have := HSS.out; omega) (by have := HSS.out; omega)).mono ?_
  rintro e w1 ⟨rfl, ha, hg⟩
  have HP := Lib.hid (hg _ _ _ HP1.out (by decide) (by decide))
  have HA := Lib.hid ha
  have HG := Lib.hid (HG1.out.trans hg)
  clear ha hg HA1 HP1 HG1
  have x3 := HP.out.cell 3
  simp only [List.getElem?_toArray, List.getElem?_cons_zero, List.getElem?_cons_succ] at x3
  go_wp2_with fail
  exact bodyPost_end (results_none rfl _ _ _) rfl ⟨rfl, HA.out, HG.out⟩
set_option maxRecDepth 100000 in
theorem pkWrAns_any (p : Pk) (sw sc sf : Value) (w0 w : World) (r : Nat) (l : List UInt8) (h : WrAt w0 w r l) :
  Calls Tryz.prog 141 #[.pointer (some ⟨r, 0, none⟩), pkV p sw sc sf] w (WrPost w0 w r l) := by
 obtain ⟨k, dup, ret, q, t, b, id, c, cl, keep, hw, wt, wb, wq, wr, hu, hp, u, pw, pr, code, wants, codes, fs⟩ := p
 have HA := Lib.hid h
 clear h
 go_enter Tryz.func141, Tryz.ntmps141
 go_wp2_with fail
 exact bodyPost_end (results_none rfl _ _ _) rfl ⟨rfl, HA.out.keeps (Keeps.alloc _ _), RowsGo.of_keeps (Keeps.alloc _ _)⟩
set_option maxRecDepth 100000 in
set_option maxHeartbeats 1000000 in
/-- A kind that has an ID: that, and what is written besides. -/
theorem pkWrList_any (p : Pk) (sw sc sf : Value) (w0 w : World) (r : Nat) (l B : List UInt8) (i : FuncId) (bx : Nat) (h : WrAt w0 w r l) (hk : 4 ≤ p.k ∧ p.k ≤ 11) (hs : 0 ≤ p.id ∧ p.id ≤ 65535) (hl : l.length ≤ 60000) (hr : ∀ (args : Array Value) (w : World), (callFunc i args).run Tryz.prog w = .ok (.enter i args) w) (hb : Row w bx 53 #[.func (.func i) #[] #[]])
  (HC : ∀ W l', WrAt w0 W r l' → l'.length ≤ 60002 → Calls Tryz.prog i #[.pointer (some ⟨r, 0, none⟩), pkV p sw sc sf] W (WrPost w0 W r (l' ++ B))) :
  Calls Tryz.prog 112 #[.pointer (some ⟨r, 0, none⟩), pkV p sw sc sf, .pointer (some ⟨bx, 0, none⟩)] w (WrPost w0 w r (l ++ (pkTwo p.id ++ B))) := by
 obtain ⟨N, hN⟩ : ∃ N : Nat, p.id = (N : Int) := ⟨p.id.toNat, by omega⟩
 have HC := Lib.hid HC
 rw [hN] at hs
 rw [hN, pkTwo, Int.toNat_natCast]
 obtain ⟨k, dup, ret, q, t, b, id, c, cl, keep, hw, wt, wb, wq, wr, hu, hp, u, pw, pr, code, wants, codes, fs⟩ := p
 simp only at hs hl hk
 have HKK := Lib.hid hk
 have HSS := Lib.hid hs
 clear hk hs
 obtain ⟨W0, hW0⟩ : ∃ W, (w).alloc (.cells #[.int .i64 k, .bool dup, .bool ret, .int .i64 q, .string ⟨t.toArray⟩, .string ⟨b.toArray⟩, .int .i64 id, .string ⟨c.toArray⟩, .bool cl, .int .i64 keep, .bool hw, .string ⟨wt.toArray⟩, .string ⟨wb.toArray⟩, .int .i64 wq, .bool wr, .bool hu, .bool hp, .string ⟨u.toArray⟩, .string ⟨pw.toArray⟩, .bool pr, .int .i64 code, sw, sc, sf] 29) = W := ⟨_, rfl⟩
 have k0 : Keeps (w) W0 [] := by rw [← hW0]; exact Keeps.alloc _ _
 have r0 : Row W0 (w).heap.size 29 #[.int .i64 k, .bool dup, .bool ret, .int .i64 q, .string ⟨t.toArray⟩, .string ⟨b.toArray⟩, .int .i64 id, .string ⟨c.toArray⟩, .bool cl, .int .i64 keep, .bool hw, .string ⟨wt.toArray⟩, .string ⟨wb.toArray⟩, .int .i64 wq, .bool wr, .bool hu, .bool hp, .string ⟨u.toArray⟩, .string ⟨pw.toArray⟩, .bool pr, .int .i64 code, sw, sc, sf] := by rw [← hW0]; exact Row.new _ _ _
 simp only at hN; subst hN
 have HP := Lib.hid r0
 have HA := Lib.hid (h.keeps k0)
 have HG := Lib.hid (RowsGo.of_keeps k0)
 clear k0 r0 h
 go_enter Tryz.func112, Tryz.ntmps112
 go_upto_region 1 with fail
 clear hW0
 have HB := Lib.hid (HG.out _ _ _ hb (by decide) (by decide))
 clear hb
 have hwc := u64_nat (n := N) (by have := HSS.out; omega)
 refine wp_region_line KeepsAll _ 4 rfl (by kernel_rfl) (by kernel_rfl) (fun _ => Keeps.refl _ _) (fun _ _ _ h k => h.trans k (by simp)) ?_
 simp only [List.take_succ_cons, List.take_zero, List.drop_succ_cons, List.drop_zero]
 refine lq (.pointer (some ⟨r, 0, none⟩)) ?_
 refine lq (.pointer (some ⟨w.heap.size, 6, none⟩)) ?_
 refine ll 2 (.tmp 6) (⟨w.heap.size, 6, none⟩) (.int .i64 (N : Int)) (fun W hW => ((HP.out.keeps hW).cell 6).trans (by kernel_rfl)) ?_
 refine loose_q (.int .u64 (N : Int)) (fun _ => by kernel_rfl) (fun W _ => (show _ = Result.ok (Next.value (.int .u64 (IntKind.u64.wrap (N : Int)))) W by kernel_rfl).trans (by rw [hwc])) ?_
 refine loose_nil (fun W vals hW hkn => ?_)
 simp only [addEnt, knowsAll] at hkn
 try simp only [and_true] at hkn
 simp only [addEnt, fill, Act.put, List.setIfInBounds_toArray, List.set_cons_succ, List.set_cons_zero]
 have HB1 := Lib.hid (HB.out.keeps hW)
 clear hkn
 have HA1 := Lib.hid (HA.out.keeps hW)
 have HP1 := Lib.hid (HP.out.keeps hW)
 have HG1 := Lib.hid (HG.out.trans (RowsGo.of_keeps hW))
 clear hW
 go_wp2_with fail
 refine (wrN_any HA1.out N 2 (by omega) (by omega) (by have := HSS.out; simp; omega) (by omega) rfl).mono ?_
 rintro e w2 ⟨rfl, ha, hg⟩
 have HB := Lib.hid (hg _ _ _ HB1.out (by decide) (by decide))
 have HP := Lib.hid (hg _ _ _ HP1.out (by decide) (by decide))
 have HA := Lib.hid ha
 have HG := Lib.hid (HG1.out.trans hg)
 clear ha hg HA1 HP1 HG1
 go_upto_region 2 with fail
 refine wp_region_line KeepsAll _ 3 rfl (by kernel_rfl) (by kernel_rfl) (fun _ => Keeps.refl _ _) (fun _ _ _ h k => h.trans k (by simp)) ?_
 simp only [List.take_succ_cons, List.take_zero, List.drop_succ_cons, List.drop_zero]
 refine ll 53 (.tmp 2) (⟨bx, 0, none⟩) (.func (.func i) #[] #[]) (fun W hW => ((HB.out.keeps hW).cell 0).trans (by kernel_rfl)) ?_
 refine lq (.pointer (some ⟨r, 0, none⟩)) ?_
 refine lw 29 (.tmp 4) (w.heap.size) ([.int .i64 k, .bool dup, .bool ret, .int .i64 q, .string ⟨t.toArray⟩, .string ⟨b.toArray⟩, .int .i64 (N : Int), .string ⟨c.toArray⟩, .bool cl, .int .i64 keep, .bool hw, .string ⟨wt.toArray⟩, .string ⟨wb.toArray⟩, .int .i64 wq, .bool wr, .bool hu, .bool hp, .string ⟨u.toArray⟩, .string ⟨pw.toArray⟩, .bool pr, .int .i64 code, sw, sc, sf]) Tryz.underlying29 (fun W hW => range_row (HP.out.keeps hW)) ?_
 refine loose_nil (fun W vals hW hkn => ?_)
 simp only [addEnt, knowsAll] at hkn
 try simp only [and_true] at hkn
 simp only [addEnt, fill, Act.put, List.setIfInBounds_toArray, List.set_cons_succ, List.set_cons_zero]
 clear hkn
 have HA1 := Lib.hid (HA.out.keeps hW)
 have HP1 := Lib.hid (HP.out.keeps hW)
 have HG1 := Lib.hid (HG.out.trans (RowsGo.of_keeps hW))
 clear hW
 go_wp2_with fail
 refine (HC.out _ _ HA1.out (by simp only [List.length_append, toBE_length]; omega)).mono ?_
 rintro e w3 ⟨rfl, ha, hg⟩
 have HA := Lib.hid ha
 have HG := Lib.hid (HG1.out.trans hg)
 clear ha hg HA1 HP1 HG1
 go_wp2_with fail
 refine bodyPost_end (results_none rfl _ _ _) rfl ⟨rfl, ?_, HG.out⟩
 rw [← List.append_assoc]
 exact HA.out

theorem flat_take {α : Type} (f : α → List UInt8) (l : List α) {j : Nat} (hj : j < l.length) : (l.take (j + 1)).flatMap f = (l.take j).flatMap f ++ f l[j] := by
 rw [List.take_succ_eq_append_getElem hj, List.flatMap_append, List.flatMap_cons, List.flatMap_nil, List.append_nil]
theorem take_mem {α : Type} {l : List α} {j : Nat} {x : α} (h : x ∈ l.take j) : x ∈ l := List.mem_of_mem_take h
set_option maxRecDepth 100000 in
set_option maxHeartbeats 2000000 in
theorem pkWr9_any (p : Pk) (sw sc sf : Value) (w0 w : World) (r : Nat) (l : List UInt8) (h : WrAt w0 w r l) (hlw : PkL w0 p sw sc sf) (hk : p.k = 9) (hs : p.codes.length ≤ 8 ∧ ∀ x ∈ p.codes, 0 ≤ x ∧ x ≤ 255) (hl : l.length ≤ 60002) :
  Calls Tryz.prog 76 #[.pointer (some ⟨r, 0, none⟩), pkV p sw sc sf] w (WrPost w0 w r (l ++ p.codes.flatMap (fun c : Int => pkOne c.toNat))) := by
 obtain ⟨A, c9, hsw, hlst⟩ := hlw.lc
 have HL := Lib.hid hlst
 clear hlw hlst
 obtain ⟨k, dup, ret, q, t, b, id, c, cl, keep, hw, wt, wb, wq, wr, hu, hp, u, pw, pr, code, wants, codes, fs⟩ := p
 simp only at hs hl hk
 have HKK := Lib.hid hk
 have HSS := Lib.hid hs
 clear hk hs
 obtain ⟨W0, hW0⟩ : ∃ W, (w).alloc (.cells #[.int .i64 k, .bool dup, .bool ret, .int .i64 q, .string ⟨t.toArray⟩, .string ⟨b.toArray⟩, .int .i64 id, .string ⟨c.toArray⟩, .bool cl, .int .i64 keep, .bool hw, .string ⟨wt.toArray⟩, .string ⟨wb.toArray⟩, .int .i64 wq, .bool wr, .bool hu, .bool hp, .string ⟨u.toArray⟩, .string ⟨pw.toArray⟩, .bool pr, .int .i64 code, sw, sc, sf] 29) = W := ⟨_, rfl⟩
 have k0 : Keeps (w) W0 [] := by rw [← hW0]; exact Keeps.alloc _ _
 have r0 : Row W0 (w).heap.size 29 #[.int .i64 k, .bool dup, .bool ret, .int .i64 q, .string ⟨t.toArray⟩, .string ⟨b.toArray⟩, .int .i64 id, .string ⟨c.toArray⟩, .bool cl, .int .i64 keep, .bool hw, .string ⟨wt.toArray⟩, .string ⟨wb.toArray⟩, .int .i64 wq, .bool wr, .bool hu, .bool hp, .string ⟨u.toArray⟩, .string ⟨pw.toArray⟩, .bool pr, .int .i64 code, sw, sc, sf] := by rw [← hW0]; exact Row.new _ _ _
 (simp only at hsw HL; have HSW := Lib.hid hsw; clear hsw)
 have HP := Lib.hid r0
 have HA := Lib.hid (h.keeps k0)
 have HG := Lib.hid (RowsGo.of_keeps k0)
 clear k0 r0 h
 go_enter Tryz.func76, Tryz.ntmps76
 go_upto_region 1 with fail
 clear hW0
 have x21 := HP.out.cell 22
 simp only [List.getElem?_toArray, List.getElem?_cons_zero, List.getElem?_cons_succ] at x21
 rw [HSW.out] at x21
 have hle : codes.length ≤ 8 := HSS.out.1
 have HLN := Lib.hid (fun j : Nat => (flat_len (f := (fun c : Int => pkOne c.toNat)) (m := 1) (l := codes.take j) (fun x hx => by
  have := HSS.out.2 x (take_mem hx)
  simp [pkOne, toBE_length])))
 have HLM := Lib.hid (fun j : Nat => show (codes.take j).length * 1 ≤ 8 by
  have := HSS.out.1
  have h2 : (codes.take j).length ≤ 8 := by rw [List.length_take]; omega
  omega)
 go_wp2_with fail
 go_loopw [9] (fun i wr => ∃ j : Nat, j ≤ codes.length ∧ i = .int .i64 j ∧ Hid (WrAt w0 wr r (l ++ (codes.take j).flatMap (fun c : Int => pkOne c.toNat)) ∧ RowsGo w wr)) (fun i _ => codes.length - (intOf i).toNat)
 case atStart => exact ⟨0, by omega, rfl, Lib.hid ⟨by simpa using HA.out, HG.out⟩⟩
 case round =>
  obtain ⟨j, hj, rfl, HJ⟩ := hrel
  by_cases hjl : j < codes.length
  ·obtain ⟨b1, o1, cs1, rfl, hr1, hc1⟩ := HL.out (by omega)
   have hr2 := hr1.keeps HJ.out.1.k
   have hc2 := hc1 j hjl
   have HST := Lib.hid (flat_take ((fun c : Int => pkOne c.toNat)) codes hjl)
   have HLJ := Lib.hid (And.intro (HLN.out j) (HLM.out j))
   have HE := Lib.hid (HSS.out.2 codes[j] (List.getElem_mem hjl))
   generalize codes[j] = x at hc2 HST HE
   obtain ⟨N, hN⟩ : ∃ N : Nat, x = (N : Int) := ⟨x.toNat, by have := HE.out; omega⟩
   subst hN
   rw [Int.toNat_natCast] at HST
   have m0 := (hr2.cell (o1 + j * 1 + 0)).trans (hc2 0 (by omega))
   simp only [intC, List.getElem?_cons_zero, Nat.mul_one, Nat.add_zero] at m0
   have hwc := u64_nat (n := N) (by have := HE.out; omega)
   clear hr1 hr2 hc1 hc2
   go_upto_region 4 with fail
   clear m0
   refine wp_region_line KeepsAll _ 3 rfl (by kernel_rfl) (by kernel_rfl) (fun _ => Keeps.refl _ _) (fun _ _ _ h k => h.trans k (by simp)) ?_
   simp only [List.take_succ_cons, List.take_zero, List.drop_succ_cons, List.drop_zero]
   refine lq (.pointer (some ⟨r, 0, none⟩)) ?_
   refine lq (.int .i64 (N : Int)) ?_
   refine loose_q (.int .u64 (N : Int)) (fun _ => by kernel_rfl) (fun W _ => (show _ = Result.ok (Next.value (.int .u64 (IntKind.u64.wrap (N : Int)))) W by kernel_rfl).trans (by rw [hwc])) ?_
   refine loose_nil (fun W vals hW hkn => ?_)
   simp only [addEnt, knowsAll] at hkn
   try simp only [and_true] at hkn
   simp only [addEnt, fill, Act.put, List.setIfInBounds_toArray, List.set_cons_succ, List.set_cons_zero]
   clear hkn
   have HA8 := Lib.hid (HJ.out.1.keeps hW)
   have HG8 := Lib.hid (HJ.out.2.trans (RowsGo.of_keeps hW))
   clear hW
   go_wp2_with fail
   refine (wrN_any HA8.out N 1 (by omega) (by omega) (by have := HE.out; simp; omega) (by have := HE.out; have := HLJ.out; rw [List.length_append]; omega) rfl).mono ?_
   rintro e w9 ⟨rfl, ha, hg⟩
   have HA9 := Lib.hid ha
   have HG9 := Lib.hid (HG8.out.trans hg)
   clear ha hg
   go_wp2_with fail
   refine ⟨⟨j + 1, by omega, by go_num, Lib.hid ⟨?_, HG9.out⟩⟩, by simp [intOf]; omega⟩
   rw [HST.out]
   have := HA9.out
   rwa [List.append_assoc] at this
  ·obtain rfl : j = codes.length := by omega
   rw [List.take_length] at HJ
   go_wp2_with fail
   exact bodyPost_end (results_none rfl _ _ _) rfl ⟨rfl, HJ.out.1, HJ.out.2⟩
set_option maxRecDepth 100000 in
set_option maxHeartbeats 2000000 in
theorem pkWr10_any (p : Pk) (sw sc sf : Value) (w0 w : World) (r : Nat) (l : List UInt8) (h : WrAt w0 w r l) (hlw : PkL w0 p sw sc sf) (hk : p.k = 10) (hs : p.fs.length ≤ 8 ∧ ∀ x ∈ p.fs, x.length ≤ 200) (hl : l.length ≤ 60002) :
  Calls Tryz.prog 83 #[.pointer (some ⟨r, 0, none⟩), pkV p sw sc sf] w (WrPost w0 w r (l ++ p.fs.flatMap pkTx)) := by
 obtain ⟨A, c9, hsw, hlst⟩ := hlw.lf
 have HL := Lib.hid hlst
 clear hlw hlst
 obtain ⟨k, dup, ret, q, t, b, id, c, cl, keep, hw, wt, wb, wq, wr, hu, hp, u, pw, pr, code, wants, codes, fs⟩ := p
 simp only at hs hl hk
 have HKK := Lib.hid hk
 have HSS := Lib.hid hs
 clear hk hs
 obtain ⟨W0, hW0⟩ : ∃ W, (w).alloc (.cells #[.int .i64 k, .bool dup, .bool ret, .int .i64 q, .string ⟨t.toArray⟩, .string ⟨b.toArray⟩, .int .i64 id, .string ⟨c.toArray⟩, .bool cl, .int .i64 keep, .bool hw, .string ⟨wt.toArray⟩, .string ⟨wb.toArray⟩, .int .i64 wq, .bool wr, .bool hu, .bool hp, .string ⟨u.toArray⟩, .string ⟨pw.toArray⟩, .bool pr, .int .i64 code, sw, sc, sf] 29) = W := ⟨_, rfl⟩
 have k0 : Keeps (w) W0 [] := by rw [← hW0]; exact Keeps.alloc _ _
 have r0 : Row W0 (w).heap.size 29 #[.int .i64 k, .bool dup, .bool ret, .int .i64 q, .string ⟨t.toArray⟩, .string ⟨b.toArray⟩, .int .i64 id, .string ⟨c.toArray⟩, .bool cl, .int .i64 keep, .bool hw, .string ⟨wt.toArray⟩, .string ⟨wb.toArray⟩, .int .i64 wq, .bool wr, .bool hu, .bool hp, .string ⟨u.toArray⟩, .string ⟨pw.toArray⟩, .bool pr, .int .i64 code, sw, sc, sf] := by rw [← hW0]; exact Row.new _ _ _
 (simp only at hsw HL; have HSW := Lib.hid hsw; clear hsw)
 have HP := Lib.hid r0
 have HA := Lib.hid (h.keeps k0)
 have HG := Lib.hid (RowsGo.of_keeps k0)
 clear k0 r0 h
 go_enter Tryz.func83, Tryz.ntmps83
 go_upto_region 1 with fail
 clear hW0
 have x21 := HP.out.cell 23
 simp only [List.getElem?_toArray, List.getElem?_cons_zero, List.getElem?_cons_succ] at x21
 rw [HSW.out] at x21
 have hle : fs.length ≤ 8 := HSS.out.1
 have HLN := Lib.hid (fun j : Nat => (flat_len (f := pkTx) (m := 202) (l := fs.take j) (fun x hx => by
  have := HSS.out.2 x (take_mem hx)
  rw [pkTx_length]; omega)))
 have HLM := Lib.hid (fun j : Nat => show (fs.take j).length * 202 ≤ 1616 by
  have := HSS.out.1
  have h2 : (fs.take j).length ≤ 8 := by rw [List.length_take]; omega
  omega)
 go_wp2_with fail
 go_loopw [9] (fun i wr => ∃ j : Nat, j ≤ fs.length ∧ i = .int .i64 j ∧ Hid (WrAt w0 wr r (l ++ (fs.take j).flatMap pkTx) ∧ RowsGo w wr)) (fun i _ => fs.length - (intOf i).toNat)
 case atStart => exact ⟨0, by omega, rfl, Lib.hid ⟨by simpa using HA.out, HG.out⟩⟩
 case round =>
  obtain ⟨j, hj, rfl, HJ⟩ := hrel
  by_cases hjl : j < fs.length
  ·obtain ⟨b1, o1, cs1, rfl, hr1, hc1⟩ := HL.out (by omega)
   have hr2 := hr1.keeps HJ.out.1.k
   have hc2 := hc1 j hjl
   have HST := Lib.hid (flat_take (pkTx) fs hjl)
   have HLJ := Lib.hid (And.intro (HLN.out j) (HLM.out j))
   have HE := Lib.hid (HSS.out.2 fs[j] (List.getElem_mem hjl))
   generalize fs[j] = x at hc2 HST HE
   have m0 := (hr2.cell (o1 + j * 1 + 0)).trans (hc2 0 (by omega))
   simp only [txtV, List.getElem?_cons_zero, Nat.mul_one, Nat.add_zero] at m0
   clear hr1 hr2 hc1 hc2
   go_wp2_with fail
   refine (wrT_any HJ.out.1 x (by have := HE.out; omega) (by have := HE.out; have := HLJ.out; rw [List.length_append]; omega)).mono ?_
   rintro e w9 ⟨rfl, ha, hg⟩
   have HA9 := Lib.hid ha
   have HG9 := Lib.hid (HJ.out.2.trans hg)
   clear ha hg m0
   go_wp2_with fail
   refine ⟨⟨j + 1, by omega, by go_num, Lib.hid ⟨?_, HG9.out⟩⟩, by simp [intOf]; omega⟩
   rw [HST.out]
   have := HA9.out
   rwa [List.append_assoc] at this
  ·obtain rfl : j = fs.length := by omega
   rw [List.take_length] at HJ
   go_wp2_with fail
   exact bodyPost_end (results_none rfl _ _ _) rfl ⟨rfl, HJ.out.1, HJ.out.2⟩
set_option maxRecDepth 100000 in
set_option maxHeartbeats 2000000 in
theorem pkWr8_any (p : Pk) (sw sc sf : Value) (w0 w : World) (r : Nat) (l : List UInt8) (h : WrAt w0 w r l) (hlw : PkL w0 p sw sc sf) (hk : p.k = 8) (hs : p.wants.length ≤ 8 ∧ ∀ x ∈ p.wants, x.1.length ≤ 200 ∧ 0 ≤ x.2 ∧ x.2 ≤ 2) (hl : l.length ≤ 60002) :
  Calls Tryz.prog 66 #[.pointer (some ⟨r, 0, none⟩), pkV p sw sc sf] w (WrPost w0 w r (l ++ p.wants.flatMap fun w => pkTx w.1 ++ pkOne w.2.toNat)) := by
 obtain ⟨A, c9, hsw, hlst⟩ := hlw.lw
 have HL := Lib.hid hlst
 clear hlw hlst
 obtain ⟨k, dup, ret, q, t, b, id, c, cl, keep, hw, wt, wb, wq, wr, hu, hp, u, pw, pr, code, wants, codes, fs⟩ := p
 simp only at hs hl hk
 have HKK := Lib.hid hk
 have HSS := Lib.hid hs
 clear hk hs
 obtain ⟨W0, hW0⟩ : ∃ W, (w).alloc (.cells #[.int .i64 k, .bool dup, .bool ret, .int .i64 q, .string ⟨t.toArray⟩, .string ⟨b.toArray⟩, .int .i64 id, .string ⟨c.toArray⟩, .bool cl, .int .i64 keep, .bool hw, .string ⟨wt.toArray⟩, .string ⟨wb.toArray⟩, .int .i64 wq, .bool wr, .bool hu, .bool hp, .string ⟨u.toArray⟩, .string ⟨pw.toArray⟩, .bool pr, .int .i64 code, sw, sc, sf] 29) = W := ⟨_, rfl⟩
 have k0 : Keeps (w) W0 [] := by rw [← hW0]; exact Keeps.alloc _ _
 have r0 : Row W0 (w).heap.size 29 #[.int .i64 k, .bool dup, .bool ret, .int .i64 q, .string ⟨t.toArray⟩, .string ⟨b.toArray⟩, .int .i64 id, .string ⟨c.toArray⟩, .bool cl, .int .i64 keep, .bool hw, .string ⟨wt.toArray⟩, .string ⟨wb.toArray⟩, .int .i64 wq, .bool wr, .bool hu, .bool hp, .string ⟨u.toArray⟩, .string ⟨pw.toArray⟩, .bool pr, .int .i64 code, sw, sc, sf] := by rw [← hW0]; exact Row.new _ _ _
 (simp only at hsw HL; have HSW := Lib.hid hsw; clear hsw)
 have HP := Lib.hid r0
 have HA := Lib.hid (h.keeps k0)
 have HG := Lib.hid (RowsGo.of_keeps k0)
 clear k0 r0 h
 go_enter Tryz.func66, Tryz.ntmps66
 go_upto_region 1 with fail
 clear hW0
 have x21 := HP.out.cell 21
 simp only [List.getElem?_toArray, List.getElem?_cons_zero, List.getElem?_cons_succ] at x21
 rw [HSW.out] at x21
 have hle : wants.length ≤ 8 := HSS.out.1
 have HLN := Lib.hid (fun j : Nat => (flat_len (f := fun w : List UInt8 × Int => pkTx w.1 ++ pkOne w.2.toNat) (m := 203) (l := wants.take j) (fun x hx => by
  have := (HSS.out.2 x (take_mem hx)).1
  rw [List.length_append, pkTx_length]
  simp only [pkOne, toBE_length]
  omega)))
 have HLM := Lib.hid (fun j : Nat => show (wants.take j).length * 203 ≤ 1624 by
  have := HSS.out.1
  have h2 : (wants.take j).length ≤ 8 := by rw [List.length_take]; omega
  omega)
 go_wp2_with fail
 go_loopw [9] (fun i wr => ∃ j : Nat, j ≤ wants.length ∧ i = .int .i64 j ∧ Hid (WrAt w0 wr r (l ++ (wants.take j).flatMap fun w => pkTx w.1 ++ pkOne w.2.toNat) ∧ RowsGo w wr)) (fun i _ => wants.length - (intOf i).toNat)
 case atStart => exact ⟨0, by omega, rfl, Lib.hid ⟨by simpa using HA.out, HG.out⟩⟩
 case round =>
  obtain ⟨j, hj, rfl, HJ⟩ := hrel
  by_cases hjl : j < wants.length
  ·obtain ⟨b1, o1, cs1, rfl, hr1, hc1⟩ := HL.out (by omega)
   have hr2 := hr1.keeps HJ.out.1.k
   have hc2 := hc1 j hjl
   have HST := Lib.hid (flat_take (fun w : List UInt8 × Int => pkTx w.1 ++ pkOne w.2.toNat) wants hjl)
   have HLJ := Lib.hid (And.intro (HLN.out j) (HLM.out j))
   have HE := Lib.hid (HSS.out.2 wants[j] (List.getElem_mem hjl))
   generalize wants[j] = x at hc2 HST HE
   obtain ⟨f, q'⟩ := x
   simp only at HST HE
   obtain ⟨N, hN⟩ : ∃ N : Nat, q' = (N : Int) := ⟨q'.toNat, by have := HE.out; omega⟩
   subst hN
   rw [Int.toNat_natCast] at HST
   have m0 := (hr2.cell (o1 + j * 2 + 0)).trans (hc2 0 (by omega))
   have m1 := (hr2.cell (o1 + j * 2 + 1)).trans (hc2 1 (by omega))
   simp only [wantC, List.getElem?_cons_zero, List.getElem?_cons_succ, Nat.add_zero] at m0 m1
   have hwc := u64_nat (n := N) (by have := HE.out; omega)
   clear hr1 hr2 hc1 hc2
   obtain ⟨W5, hW5⟩ : ∃ W5, wr.alloc (.cells #[.string ⟨f.toArray⟩, .int .i64 (N : Int)] 50) = W5 := ⟨_, rfl⟩
   have HR5 := Lib.hid (show Row W5 wr.heap.size 50 #[.string ⟨f.toArray⟩, .int .i64 (N : Int)] by rw [← hW5]; exact Row.new _ _ _)
   have HK5 := Lib.hid (show Keeps wr W5 [] by rw [← hW5]; exact Keeps.alloc _ _)
   go_upto_region 4 with fail
   clear m0 m1 hW5
   refine wp_region_line KeepsAll _ 3 rfl (by kernel_rfl) (by kernel_rfl) (fun _ => Keeps.refl _ _) (fun _ _ _ h k => h.trans k (by simp)) ?_
   simp only [List.take_succ_cons, List.take_zero, List.drop_succ_cons, List.drop_zero]
   refine lq (.pointer (some ⟨r, 0, none⟩)) ?_
   refine lq (.pointer (some ⟨wr.heap.size, 0, none⟩)) ?_
   refine ll 9 (.tmp 14) (⟨wr.heap.size, 0, none⟩) (.string ⟨f.toArray⟩) (fun W hW => ((HR5.out.keeps hW).cell 0).trans (by kernel_rfl)) ?_
   refine loose_nil (fun W vals hW hkn => ?_)
   simp only [addEnt, knowsAll] at hkn
   try simp only [and_true] at hkn
   simp only [addEnt, fill, Act.put, List.setIfInBounds_toArray, List.set_cons_succ, List.set_cons_zero]
   clear hkn
   have HK6 := Lib.hid (HK5.out.then_ hW)
   have HR6 := Lib.hid (HR5.out.keeps hW)
   clear hW
   go_wp2_with fail
   refine (wrT_any (HJ.out.1.keeps HK6.out) f (by have := HE.out; omega) (by have := HE.out; have := HLJ.out; rw [List.length_append]; omega)).mono ?_
   rintro e w7 ⟨rfl, ha, hg⟩
   have HR7 := Lib.hid (hg _ _ _ HR6.out (by decide) (by decide))
   have HA7 := Lib.hid ha
   have HG7 := Lib.hid ((HJ.out.2.trans (RowsGo.of_keeps HK6.out)).trans hg)
   clear ha hg
   go_upto_region 5 with fail
   refine wp_region_line KeepsAll _ 4 rfl (by kernel_rfl) (by kernel_rfl) (fun _ => Keeps.refl _ _) (fun _ _ _ h k => h.trans k (by simp)) ?_
   simp only [List.take_succ_cons, List.take_zero, List.drop_succ_cons, List.drop_zero]
   refine lq (.pointer (some ⟨r, 0, none⟩)) ?_
   refine lq (.pointer (some ⟨wr.heap.size, 1, none⟩)) ?_
   refine ll 3 (.tmp 18) (⟨wr.heap.size, 1, none⟩) (.int .i64 (N : Int)) (fun W hW => ((HR7.out.keeps hW).cell 1).trans (by kernel_rfl)) ?_
   refine loose_q (.int .u64 (N : Int)) (fun _ => by kernel_rfl) (fun W _ => (show _ = Result.ok (Next.value (.int .u64 (IntKind.u64.wrap (N : Int)))) W by kernel_rfl).trans (by rw [hwc])) ?_
   refine loose_nil (fun W vals hW hkn => ?_)
   simp only [addEnt, knowsAll] at hkn
   try simp only [and_true] at hkn
   simp only [addEnt, fill, Act.put, List.setIfInBounds_toArray, List.set_cons_succ, List.set_cons_zero]
   clear hkn
   have HA8 := Lib.hid (HA7.out.keeps hW)
   have HG8 := Lib.hid (HG7.out.trans (RowsGo.of_keeps hW))
   clear hW
   go_wp2_with fail
   refine (wrN_any HA8.out N 1 (by omega) (by omega) (by have := HE.out; simp; omega) (by have := HE.out; have := HLJ.out; rw [List.length_append, List.length_append, pkTx_length]; omega) rfl).mono ?_
   rintro e w9 ⟨rfl, ha, hg⟩
   have HA9 := Lib.hid ha
   have HG9 := Lib.hid (HG8.out.trans hg)
   clear ha hg
   go_wp2_with fail
   refine ⟨⟨j + 1, by omega, by go_num, Lib.hid ⟨?_, HG9.out⟩⟩, by simp [intOf]; omega⟩
   rw [HST.out]
   have := HA9.out
   rwa [List.append_assoc, List.append_assoc] at this
  ·obtain rfl : j = wants.length := by omega
   rw [List.take_length] at HJ
   go_wp2_with fail
   exact bodyPost_end (results_none rfl _ _ _) rfl ⟨rfl, HJ.out.1, HJ.out.2⟩
end Go.Proofs.YtahbikfbjenfpaaGreatDoor
