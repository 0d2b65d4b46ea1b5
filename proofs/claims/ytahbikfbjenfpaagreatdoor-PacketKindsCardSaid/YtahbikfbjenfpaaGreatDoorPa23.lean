/- Package packet: how a connect is written. -/
import Derived.Test.YtahbikfbjenfpaaGreatDoorPa22

namespace Go.Proofs.YtahbikfbjenfpaaGreatDoor
open Go.RowKit

def pairC (x : Bool × List UInt8) : List Value := [.bool x.1, .string ⟨x.2.toArray⟩]
theorem encPairC : Enc 2 pairC := ⟨by omega, fun _ => rfl, fun p u hu => by
 simp only [pairC, List.mem_cons, List.not_mem_nil, or_false] at hu
 rcases hu with rfl | rfl <;> rfl⟩
def pkFour (p : Pk) : List (Bool × List UInt8) := [(p.hw, p.wt), (p.hw, p.wb), (p.hu, p.u), (p.hp, p.pw)]
def pkPre (p : Pk) : List UInt8 := pkTx [77, 81, 84, 84] ++ (pkOne 4 ++ (pkOne (pkConn p) ++ (pkTwo p.keep ++ pkTx p.c)))
theorem pkBody1_four {p : Pk} (h : p.k = 1) : pkBody p = pkPre p ++ (pkFour p).flatMap fun x => pkIf x.1 (pkTx x.2) := by
 rw [pkBody1 h]
 unfold pkPre pkFour
 have ew : pkIf p.hw (pkTx p.wt ++ pkTx p.wb) = pkIf p.hw (pkTx p.wt) ++ pkIf p.hw (pkTx p.wb) := by cases p.hw <;> rfl
 rw [ew]
 simp
set_option maxRecDepth 100000 in
set_option maxHeartbeats 4000000 in
theorem pkWr1_any (p : Pk) (sw sc sf : Value) (w0 w : World) (r : Nat) (l : List UInt8) (h : WrAt w0 w r l) (hk : p.k = 1) (hf : PkFit1 p) (hl : l.length ≤ 1000) :
  Calls Tryz.prog 129 #[.pointer (some ⟨r, 0, none⟩), pkV p sw sc sf] w (WrPost w0 w r (l ++ pkBody p)) := by
 rw [pkBody1_four hk]
 have CN := Lib.hid (fun W => pkConnects_any p sw sc sf W ⟨hf.will.2.2.1, by have := hf.will.2.2.2; omega⟩)
 have hcn := pkConn_lt hf.will.2.2.2
 have hs : ((pkConn p < 256 ∧ 0 ≤ p.keep ∧ p.keep ≤ 65535) ∧ p.c.length ≤ 23) ∧ p.wt.length ≤ 200 ∧ p.wb.length ≤ 2000 ∧ p.u.length ≤ 200 ∧ p.pw.length ≤ 200 := ⟨⟨⟨hcn, hf.keep⟩, hf.c⟩, hf.will.1, hf.will.2.1, hf.u.1, hf.pw.1⟩
 unfold pkPre pkFour
 obtain ⟨KP, hN⟩ : ∃ N : Nat, p.keep = (N : Int) := ⟨p.keep.toNat, by have := hf.keep; omega⟩
 clear hf hcn
 rw [hN] at hs
 rw [hN, pkTwo, Int.toNat_natCast]
 generalize pkConn p = X at CN hs ⊢
 obtain ⟨k, dup, ret, q, t, b, id, c, cl, keep, hw, wt, wb, wq, wr, hu, hp, u, pw, pr, code, wants, codes, fs⟩ := p
 simp only at hs hl hk
 have HKK := Lib.hid hk
 have HSS := Lib.hid hs
 clear hk hs
 obtain ⟨W0, hW0⟩ : ∃ W, (w).alloc (.cells #[.int .i64 k, .bool dup, .bool ret, .int .i64 q, .string ⟨t.toArray⟩, .string ⟨b.toArray⟩, .int .i64 id, .string ⟨c.toArray⟩, .bool cl, .int .i64 keep, .bool hw, .string ⟨wt.toArray⟩, .string ⟨wb.toArray⟩, .int .i64 wq, .bool wr, .bool hu, .bool hp, .string ⟨u.toArray⟩, .string ⟨pw.toArray⟩, .bool pr, .int .i64 code, sw, sc, sf] 29) = W := ⟨_, rfl⟩
 have k0 : Keeps (w) W0 [] := by rw [← hW0]; exact Keeps.alloc _ _
 have r0 : Row W0 (w).heap.size 29 #[.int .i64 k, .bool dup, .bool ret, .int .i64 q, .string ⟨t.toArray⟩, .string ⟨b.toArray⟩, .int .i64 id, .string ⟨c.toArray⟩, .bool cl, .int .i64 keep, .bool hw, .string ⟨wt.toArray⟩, .string ⟨wb.toArray⟩, .int .i64 wq, .bool wr, .bool hu, .bool hp, .string ⟨u.toArray⟩, .string ⟨pw.toArray⟩, .bool pr, .int .i64 code, sw, sc, sf] := by rw [← hW0]; exact Row.new _ _ _
 (simp only at hN CN; subst hN)
 have HP := Lib.hid r0
 have HA := Lib.hid (h.keeps k0)
 have HG := Lib.hid (RowsGo.of_keeps k0)
 clear k0 r0 h
 go_enter Tryz.func129, Tryz.ntmps129
 go_upto_region 1 with fail
 clear hW0
 have hwk := u64_nat (n := KP) (by have := HSS.out; omega)
 have hwx := u64_nat (n := X) (by have := HSS.out; omega)
 go_wp2_with fail
 refine (wrT_any HA.out [77, 81, 84, 84] (by simp) (by simp; omega)).mono ?_
 rintro e w1 ⟨rfl, ha, hg⟩
 have HP1 := Lib.hid (hg _ _ _ HP.out (by decide) (by decide))
 have HA1 := Lib.hid ha
 have HG1 := Lib.hid (HG.out.trans hg)
 clear ha hg HA HP HG
 go_wp2_with fail
 refine (wrN_any HA1.out 4 1 (by omega) (by omega) (by simp) (by rw [List.length_append, pkTx_length]; simp; omega) rfl).mono ?_
 rintro e w2 ⟨rfl, ha, hg⟩
 have HP := Lib.hid (hg _ _ _ HP1.out (by decide) (by decide))
 have HA := Lib.hid ha
 have HG := Lib.hid (HG1.out.trans hg)
 clear ha hg HA1 HP1 HG1
 go_upto_region 3 with fail
 refine wp_region_line KeepsAll _ 4 rfl (by kernel_rfl) (by kernel_rfl) (fun _ => Keeps.refl _ _) (fun _ _ _ h k => h.trans k (by simp)) ?_
 simp only [List.take_succ_cons, List.take_zero, List.drop_succ_cons, List.drop_zero]
 refine lq (.pointer (some ⟨r, 0, none⟩)) ?_
 refine lw 29 (.tmp 3) (w.heap.size) ([.int .i64 k, .bool dup, .bool ret, .int .i64 q, .string ⟨t.toArray⟩, .string ⟨b.toArray⟩, .int .i64 id, .string ⟨c.toArray⟩, .bool cl, .int .i64 (KP : Int), .bool hw, .string ⟨wt.toArray⟩, .string ⟨wb.toArray⟩, .int .i64 wq, .bool wr, .bool hu, .bool hp, .string ⟨u.toArray⟩, .string ⟨pw.toArray⟩, .bool pr, .int .i64 code, sw, sc, sf]) Tryz.underlying29 (fun W hW => range_row (HP.out.keeps hW)) ?_
 refine loose_qc 130 (#[.agg #[.int .i64 k, .bool dup, .bool ret, .int .i64 q, .string ⟨t.toArray⟩, .string ⟨b.toArray⟩, .int .i64 id, .string ⟨c.toArray⟩, .bool cl, .int .i64 (KP : Int), .bool hw, .string ⟨wt.toArray⟩, .string ⟨wb.toArray⟩, .int .i64 wq, .bool wr, .bool hu, .bool hp, .string ⟨u.toArray⟩, .string ⟨pw.toArray⟩, .bool pr, .int .i64 code, sw, sc, sf]]) (.int .i64 (X : Int)) (fun _ => by kernel_rfl) (fun _ _ => by kernel_rfl) (fun W hW => CN.out W) ?_
 refine loose_q (.int .u64 (X : Int)) (fun _ => by kernel_rfl) (fun W _ => (show _ = Result.ok (Next.value (.int .u64 (IntKind.u64.wrap (X : Int)))) W by kernel_rfl).trans (by rw [hwx])) ?_
 refine loose_nil (fun W vals hW hkn => ?_)
 simp only [addEnt, knowsAll] at hkn
 try simp only [and_true] at hkn
 simp only [addEnt, fill, Act.put, List.setIfInBounds_toArray, List.set_cons_succ, List.set_cons_zero]
 clear hkn
 have HA1 := Lib.hid (HA.out.keeps hW)
 have HP1 := Lib.hid (HP.out.keeps hW)
 have HG1 := Lib.hid (HG.out.trans (RowsGo.of_keeps hW))
 clear hW
 go_wp2_with fail
 refine (wrN_any HA1.out X 1 (by omega) (by omega) (by have := HSS.out; simp; omega) (by rw [List.length_append, List.length_append, pkTx_length, toBE_length]; simp; omega) rfl).mono ?_
 rintro e w3 ⟨rfl, ha, hg⟩
 have HP := Lib.hid (hg _ _ _ HP1.out (by decide) (by decide))
 have HA := Lib.hid ha
 have HG := Lib.hid (HG1.out.trans hg)
 clear ha hg HA1 HP1 HG1
 go_upto_region 4 with fail
 refine wp_region_line KeepsAll _ 4 rfl (by kernel_rfl) (by kernel_rfl) (fun _ => Keeps.refl _ _) (fun _ _ _ h k => h.trans k (by simp)) ?_
 simp only [List.take_succ_cons, List.take_zero, List.drop_succ_cons, List.drop_zero]
 refine lq (.pointer (some ⟨r, 0, none⟩)) ?_
 refine lq (.pointer (some ⟨w.heap.size, 9, none⟩)) ?_
 refine ll 2 (.tmp 16) (⟨w.heap.size, 9, none⟩) (.int .i64 (KP : Int)) (fun W hW => ((HP.out.keeps hW).cell 9).trans (by kernel_rfl)) ?_
 refine loose_q (.int .u64 (KP : Int)) (fun _ => by kernel_rfl) (fun W _ => (show _ = Result.ok (Next.value (.int .u64 (IntKind.u64.wrap (KP : Int)))) W by kernel_rfl).trans (by rw [hwk])) ?_
 refine loose_nil (fun W vals hW hkn => ?_)
 simp only [addEnt, knowsAll] at hkn
 try simp only [and_true] at hkn
 simp only [addEnt, fill, Act.put, List.setIfInBounds_toArray, List.set_cons_succ, List.set_cons_zero]
 clear hkn
 have HA1 := Lib.hid (HA.out.keeps hW)
 have HP1 := Lib.hid (HP.out.keeps hW)
 have HG1 := Lib.hid (HG.out.trans (RowsGo.of_keeps hW))
 clear hW
 go_wp2_with fail
 refine (wrN_any HA1.out KP 2 (by omega) (by omega) (by have := HSS.out; simp; omega) (by simp only [List.length_append, pkTx_length, toBE_length, List.length_cons, List.length_nil]; omega) rfl).mono ?_
 rintro e w4 ⟨rfl, ha, hg⟩
 have HP := Lib.hid (hg _ _ _ HP1.out (by decide) (by decide))
 have HA := Lib.hid ha
 have HG := Lib.hid (HG1.out.trans hg)
 clear ha hg HA1 HP1 HG1
 go_upto_region 5 with fail
 refine wp_region_line KeepsAll _ 3 rfl (by kernel_rfl) (by kernel_rfl) (fun _ => Keeps.refl _ _) (fun _ _ _ h k => h.trans k (by simp)) ?_
 simp only [List.take_succ_cons, List.take_zero, List.drop_succ_cons, List.drop_zero]
 refine lq (.pointer (some ⟨r, 0, none⟩)) ?_
 refine lq (.pointer (some ⟨w.heap.size, 7, none⟩)) ?_
 refine ll 9 (.tmp 21) (⟨w.heap.size, 7, none⟩) (.string ⟨c.toArray⟩) (fun W hW => ((HP.out.keeps hW).cell 7).trans (by kernel_rfl)) ?_
 refine loose_nil (fun W vals hW hkn => ?_)
 simp only [addEnt, knowsAll] at hkn
 try simp only [and_true] at hkn
 simp only [addEnt, fill, Act.put, List.setIfInBounds_toArray, List.set_cons_succ, List.set_cons_zero]
 clear hkn
 have HA1 := Lib.hid (HA.out.keeps hW)
 have HP1 := Lib.hid (HP.out.keeps hW)
 have HG1 := Lib.hid (HG.out.trans (RowsGo.of_keeps hW))
 clear hW
 go_wp2_with fail
 refine (wrT_any HA1.out c (by have := HSS.out; omega) (by have := HSS.out; simp only [List.length_append, pkTx_length, toBE_length, List.length_cons, List.length_nil]; omega)).mono ?_
 rintro e w5 ⟨rfl, ha, hg⟩
 have HP := Lib.hid (hg _ _ _ HP1.out (by decide) (by decide))
 have HA := Lib.hid ha
 have HG := Lib.hid (HG1.out.trans hg)
 clear ha hg HA1 HP1 HG1
 obtain ⟨L, hL⟩ : ∃ L, l ++ pkTx [77, 81, 84, 84] ++ toBE 1 4 ++ toBE 1 X ++ toBE 2 KP ++ pkTx c = L := ⟨_, rfl⟩
 have HLn := Lib.hid (show L.length ≤ 1100 by rw [← hL]; have := HSS.out; simp only [List.length_append, pkTx_length, toBE_length, List.length_cons, List.length_nil]; omega)
 have HLe := Lib.hid (show ∀ R : List UInt8, l ++ (pkTx [77, 81, 84, 84] ++ (pkOne 4 ++ (pkOne X ++ (toBE 2 KP ++ pkTx c))) ++ R) = L ++ R by
  intro R
  rw [← hL]
  simp only [List.append_assoc, pkOne])
 rw [hL] at HA
 clear hL
 obtain ⟨F, hF⟩ : ∃ F : List (Bool × List UInt8), [(hw, wt), (hw, wb), (hu, u), (hp, pw)] = F := ⟨_, rfl⟩
 have HF := Lib.hid (show F.length = 4 ∧ ∀ x ∈ F, x.2.length ≤ 2000 by
  rw [← hF]
  refine ⟨rfl, fun x hx => ?_⟩
  have := HSS.out
  simp only [List.mem_cons, List.not_mem_nil, or_false] at hx
  rcases hx with rfl | rfl | rfl | rfl <;> simp only <;> omega)
 have y0 := HP.out
 have x0 := y0.cell 0
 have x1 := y0.cell 1
 have x2 := y0.cell 2
 have x3 := y0.cell 3
 have x4 := y0.cell 4
 have x5 := y0.cell 5
 have x6 := y0.cell 6
 have x7 := y0.cell 7
 have x8 := y0.cell 8
 have x9 := y0.cell 9
 have x10 := y0.cell 10
 have x11 := y0.cell 11
 have x12 := y0.cell 12
 have x13 := y0.cell 13
 have x14 := y0.cell 14
 have x15 := y0.cell 15
 have x16 := y0.cell 16
 have x17 := y0.cell 17
 have x18 := y0.cell 18
 have x19 := y0.cell 19
 have x20 := y0.cell 20
 have x21 := y0.cell 21
 have x22 := y0.cell 22
 have x23 := y0.cell 23
 simp only [List.getElem?_toArray, List.getElem?_cons_zero, List.getElem?_cons_succ] at x0 x1 x2 x3 x4 x5 x6 x7 x8 x9 x10 x11 x12 x13 x14 x15 x16 x17 x18 x19 x20 x21 x22 x23
 clear y0
 obtain ⟨W6, hW6⟩ : ∃ W6, w5.alloc (.cells #[.bool hw, .string ⟨wt.toArray⟩, .bool hw, .string ⟨wb.toArray⟩, .bool hu, .string ⟨u.toArray⟩, .bool hp, .string ⟨pw.toArray⟩] 145) = W6 := ⟨_, rfl⟩
 have HLA := Lib.hid (show ListAt W6 145 2 pairC (some ⟨w5.heap.size, 0, none⟩) F by
  rw [← hF, ← hW6]
  exact listAt_row encPairC (Row.new _ _ _))
 have HA6 := Lib.hid (show WrAt w0 W6 r L from HA.out.keeps (by rw [← hW6]; exact Keeps.alloc _ _))
 have HG6 := Lib.hid (show RowsGo w W6 from HG.out.trans (RowsGo.of_keeps (by rw [← hW6]; exact Keeps.alloc _ _)))
 have HFe := Lib.hid hF
 have HLN := Lib.hid (fun j : Nat => (flat_len (f := fun x : Bool × List UInt8 => pkIf x.1 (pkTx x.2)) (m := 2002) (l := F.take j) (fun x hx => by
  have h1 := pkIf_length x.1 (pkTx x.2)
  have h2 := HF.out.2 x (take_mem hx)
  rw [pkTx_length] at h1
  omega)))
 have HLM := Lib.hid (fun j : Nat => show (F.take j).length * 2002 ≤ 8008 by
  have := HF.out.1
  have h2 : (F.take j).length ≤ 4 := by rw [List.length_take]; omega
  omega)
 clear hF
 go_wp2_with fail
 clear x0 x1 x2 x3 x4 x5 x6 x7 x8 x9 x10 x11 x12 x13 x14 x15 x16 x17 x18 x19 x20 x21 x22 x23
 clear hW6
 go_loopw [48] (fun i wr9 => ∃ j : Nat, j ≤ 4 ∧ i = .int .i64 j ∧ Hid ((WrAt w0 wr9 r (L ++ (F.take j).flatMap fun x => pkIf x.1 (pkTx x.2)) ∧ RowsGo w wr9) ∧ RowsGo W6 wr9)) (fun i _ => 4 - (intOf i).toNat)
 case atStart => exact ⟨0, by omega, rfl, Lib.hid ⟨⟨by simpa using HA6.out, HG6.out⟩, RowsGo.of_keeps (Keeps.refl _ _)⟩⟩
 case round =>
  obtain ⟨j, hj, rfl, HJ⟩ := hrel
  by_cases hjl : j < 4
  ·have hjF : j < F.length := by have := HF.out.1; omega
   obtain ⟨b1, o1, cs1, e1, hr1, hc1⟩ := HLA.out (by omega)
   injection e1 with e1
   injection e1 with e2 e3
   subst e2 e3
   have hr2 := HJ.out.2 _ _ _ hr1 (by decide) (by decide)
   have hc2 := hc1 j hjF
   have HST := Lib.hid (flat_take (fun x : Bool × List UInt8 => pkIf x.1 (pkTx x.2)) F hjF)
   have HLJ := Lib.hid (And.intro (HLN.out j) (HLM.out j))
   have HE := Lib.hid (HF.out.2 F[j] (List.getElem_mem hjF))
   generalize F[j] = x at hc2 HST HE
   obtain ⟨is, s⟩ := x
   simp only at HST HE
   have m0 := (hr2.cell (0 + j * 2 + 0)).trans (hc2 0 (by omega))
   have m1 := (hr2.cell (0 + j * 2 + 1)).trans (hc2 1 (by omega))
   simp only [pairC, List.getElem?_cons_zero, List.getElem?_cons_succ, Nat.add_zero, Nat.zero_add] at m0 m1
   clear hr1 hr2 hc1 hc2
   obtain ⟨W7, hW7⟩ : ∃ W7, wr.alloc (.cells #[.bool is, .string ⟨s.toArray⟩] 145) = W7 := ⟨_, rfl⟩
   have HR7 := Lib.hid (show Row W7 wr.heap.size 145 #[.bool is, .string ⟨s.toArray⟩] by rw [← hW7]; exact Row.new _ _ _)
   have HK7 := Lib.hid (show Keeps wr W7 [] by rw [← hW7]; exact Keeps.alloc _ _)
   have n0 := HR7.out.cell 0
   have n1 := HR7.out.cell 1
   simp only [List.getElem?_toArray, List.getElem?_cons_zero, List.getElem?_cons_succ] at n0 n1
   cases is with
   | true =>
    go_wp2_with fail
    clear m0 m1 n0 n1 hW7
    refine (wrT_any (HJ.out.1.1.keeps HK7.out) s (by have := HE.out; omega) (by have := HE.out; have := HLJ.out; have := HLn.out; rw [List.length_append]; omega)).mono ?_
    rintro e w9 ⟨rfl, ha, hg⟩
    have HA9 := Lib.hid ha
    have HG9 := Lib.hid ((HJ.out.1.2.trans (RowsGo.of_keeps HK7.out)).trans hg)
    have HG8 := Lib.hid ((HJ.out.2.trans (RowsGo.of_keeps HK7.out)).trans hg)
    clear ha hg
    go_wp2_with fail
    refine ⟨⟨j + 1, by omega, by go_num, Lib.hid ⟨⟨?_, HG9.out⟩, HG8.out⟩⟩, by simp [intOf]; omega⟩
    rw [HST.out]
    have := HA9.out
    rwa [List.append_assoc] at this
   | false =>
    go_wp2_with fail
    clear m0 m1 n0 n1 hW7
    refine ⟨⟨j + 1, by omega, by go_num, Lib.hid ⟨⟨?_, HJ.out.1.2.trans (RowsGo.of_keeps HK7.out)⟩, HJ.out.2.trans (RowsGo.of_keeps HK7.out)⟩⟩, by simp [intOf]; omega⟩
    rw [HST.out]
    have := HJ.out.1.1.keeps HK7.out
    rwa [show pkIf false (pkTx s) = [] from rfl, List.append_nil]
  ·obtain rfl : j = 4 := by omega
   rw [show F.take 4 = F from List.take_of_length_le (by rw [HF.out.1]; exact Nat.le_refl _)] at HJ
   go_wp2_with fail
   exact bodyPost_end (results_none rfl _ _ _) rfl ⟨rfl, by rw [HLe.out, HFe.out]; exact HJ.out.1.1, HJ.out.1.2⟩
end Go.Proofs.YtahbikfbjenfpaaGreatDoor
