/- Package packet: how a publish is read. -/
import Derived.Test.YtahbikfbjenfpaaGreatDoorPa30

namespace Go.Proofs.YtahbikfbjenfpaaGreatDoor
open Go.RowKit

theorem pub_bits : ∀ f : Fin 16, decide (0 < bits BinOp.and IntKind.i64 ((f.val : Nat) : Int) 8) = pkBit f.val 8 ∧ decide (0 < bits BinOp.and IntKind.i64 ((f.val : Nat) : Int) 1) = pkBit f.val 1 ∧ bits BinOp.and IntKind.i64 (((f.val : Nat) : Int) / 2) 3 = ((f.val / 2 % 4 : Nat) : Int) := by decide +kernel
/-- What is known of a reading: the reader's box, the result's, the packet's. -/
structure RdSt (w W : World) (base r A R G : Nat) (X : Array Value) (l : List UInt8) : Prop where
 k : Keeps w W [r]
 b : Row W A 74 #[.pointer (some ⟨r, 0, none⟩)]
 rr : Row W R 29 #[.int .i64 0, .bool false, .bool false, .int .i64 0, .string ⟨#[]⟩, .string ⟨#[]⟩, .int .i64 0, .string ⟨#[]⟩, .bool false, .int .i64 0, .bool false, .string ⟨#[]⟩, .string ⟨#[]⟩, .int .i64 0, .bool false, .bool false, .bool false, .string ⟨#[]⟩, .string ⟨#[]⟩, .bool false, .int .i64 0, .slice none 0 0, .slice none 0 0, .slice none 0 0]
 g : Row W G 29 X
 rd : Rd W base r l
 o : r < A ∧ A < R ∧ R < G ∧ w.heap.size ≤ A
section
variable {w W W' : World} {base r A R G : Nat} {X : Array Value} {l t : List UInt8}
theorem RdSt.put (h : RdSt w W base r A R G X l) (i : Nat) (v : Value) : RdSt w (W.setCell ⟨G, i, none⟩ v) base r A R G (X.setIfInBounds i v) l := by
 have hk : Keeps W (W.setCell ⟨G, i, none⟩ v) [G] := Keeps.setCell _ _ _
 obtain ⟨o1, o2, o3, o4⟩ := h.o
 exact ⟨h.k.trans hk (fun x hx hlt => by simp at hx; omega), h.b.keep hk (by simp; omega), h.rr.keep hk (by simp; omega), h.g.store i v, h.rd.far hk (fun x hx => by simp at hx; omega), h.o⟩
theorem RdSt.read (h : RdSt w W base r A R G X l) (hk : Keeps W W' [r]) (hr : Rd W' base r t) : RdSt w W' base r A R G X t := by
 obtain ⟨o1, o2, o3, o4⟩ := h.o
 exact ⟨h.k.trans hk (fun _ hx _ => hx), h.b.keep hk (by simp; omega), h.rr.keep hk (by simp; omega), h.g.keep hk (by simp; omega), hr, h.o⟩
theorem RdSt.keeps (h : RdSt w W base r A R G X l) (hk : Keeps W W' []) : RdSt w W' base r A R G X l :=
 h.read (hk.weaken (by simp)) (h.rd.keep hk (by simp))
end
set_option maxRecDepth 100000 in
set_option maxHeartbeats 4000000 in
theorem pkRd3_any (w : World) (base r : Nat) (f : Nat) (l : List UInt8) (h : Rd w base r l) (hl : l.length ≤ 100000) (hf : f < 16) :
  Calls Tryz.prog 137 #[.agg #[.pointer (some ⟨r, 0, none⟩)], .int .i64 (f : Nat)] w (PkRdPost w base r (rdPub f l)) := by
 obtain ⟨e8, e1, e3⟩ : decide (0 < bits BinOp.and IntKind.i64 ((f : Nat) : Int) 8) = pkBit f 8 ∧ decide (0 < bits BinOp.and IntKind.i64 ((f : Nat) : Int) 1) = pkBit f 1 ∧ bits BinOp.and IntKind.i64 (((f : Nat) : Int) / 2) 3 = ((f / 2 % 4 : Nat) : Int) := pub_bits ⟨f, hf⟩
 have HD := Lib.hid (show rdPub f l = (rdTx l).bind fun t => if 0 < f / 2 % 4 then (rdN 2 t.2).bind fun i => some ({ pkZ with k := 3, dup := pkBit f 8, ret := pkBit f 1, q := (f / 2 % 4 : Nat), t := t.1, id := (i.1 : Int), b := i.2 }, [])
  else some ({ pkZ with k := 3, dup := pkBit f 8, ret := pkBit f 1, q := (f / 2 % 4 : Nat), t := t.1, b := t.2 }, []) from rfl)
 generalize pkBit f 8 = B8 at e8 HD
 generalize pkBit f 1 = B1 at e1 HD
 generalize f / 2 % 4 = Q at e3 HD
 have HNR := Lib.hid h.lt
 obtain ⟨W0, hW0⟩ : ∃ W0, w.alloc (.cells #[.pointer (some ⟨r, 0, none⟩)] 74) = W0 := ⟨_, rfl⟩
 obtain ⟨W1, hW1⟩ : ∃ W1, W0.alloc (.cells #[.int .i64 0, .bool false, .bool false, .int .i64 0, .string ⟨#[]⟩, .string ⟨#[]⟩, .int .i64 0, .string ⟨#[]⟩, .bool false, .int .i64 0, .bool false, .string ⟨#[]⟩, .string ⟨#[]⟩, .int .i64 0, .bool false, .bool false, .bool false, .string ⟨#[]⟩, .string ⟨#[]⟩, .bool false, .int .i64 0, .slice none 0 0, .slice none 0 0, .slice none 0 0] 29) = W1 := ⟨_, rfl⟩
 have k0 : Keeps w W0 [] := by rw [← hW0]; exact Keeps.alloc _ _
 have k1 : Keeps W0 W1 [] := by rw [← hW1]; exact Keeps.alloc _ _
 have s0 : W0.heap.size = w.heap.size + 1 := by rw [← hW0]; simp
 have s1 : W1.heap.size = w.heap.size + 2 := by rw [← hW1]; simp [s0]
 have HB := Lib.hid (show Row W1 w.heap.size 74 #[.pointer (some ⟨r, 0, none⟩)] from (show Row W0 w.heap.size 74 #[.pointer (some ⟨r, 0, none⟩)] by rw [← hW0]; exact Row.new _ _ _).keeps k1)
 have HR := Lib.hid (show Row W1 W0.heap.size 29 #[.int .i64 0, .bool false, .bool false, .int .i64 0, .string ⟨#[]⟩, .string ⟨#[]⟩, .int .i64 0, .string ⟨#[]⟩, .bool false, .int .i64 0, .bool false, .string ⟨#[]⟩, .string ⟨#[]⟩, .int .i64 0, .bool false, .bool false, .bool false, .string ⟨#[]⟩, .string ⟨#[]⟩, .bool false, .int .i64 0, .slice none 0 0, .slice none 0 0, .slice none 0 0] by rw [← hW1]; exact Row.new _ _ _)
 have HK := Lib.hid (k0.then_ k1)
 have HS := Lib.hid (And.intro s0 s1)
 have HRD := Lib.hid ((h.keep k0 (by simp)).keep k1 (by simp))
 have c0 := HB.out.cell 0
 simp only [List.getElem?_toArray, List.getElem?_cons_zero] at c0
 clear k0 k1 s0 s1 h hf
 rcases hE : rdTx l with _ | ⟨s, V1⟩
 ·have HT := Lib.hid (show rdPub f l = none by rw [HD.out, hE]; rfl)
  have HE := Lib.hid hE
  clear hE
  go_enter Tryz.func137, Tryz.ntmps137
  go_wp2_with fail
  refine (pvTxt_none HRD.out HE.out).mono ?_
  rintro e w3 ⟨hk, rfl⟩
  exact ⟨rfl, (HK.out.weaken (T := [r]) (by simp)).trans hk (fun _ hx _ => hx), by rw [HT.out]⟩
 ·have HE := Lib.hid hE
  have HLV1 := Lib.hid (show V1.length ≤ 100000 by have := (rdTx_sound hE).2.2; omega)
  have HD2 := Lib.hid (HD.out.trans (by rw [hE]))
  clear hE
  go_enter Tryz.func137, Tryz.ntmps137
  go_wp2_with fail
  refine (pvTxt_some HRD.out HE.out).mono ?_
  rintro e w3 ⟨hk, rfl, hrd⟩
  unfold strV
  have HK3 := Lib.hid hk
  have HRD3 := Lib.hid hrd
  clear hk hrd hW0 hW1 c0
  obtain ⟨W4, hW4⟩ : ∃ W4, w3.alloc (.cells #[.int .i64 0, .bool false, .bool false, .int .i64 0, .string ⟨#[]⟩, .string ⟨#[]⟩, .int .i64 0, .string ⟨#[]⟩, .bool false, .int .i64 0, .bool false, .string ⟨#[]⟩, .string ⟨#[]⟩, .int .i64 0, .bool false, .bool false, .bool false, .string ⟨#[]⟩, .string ⟨#[]⟩, .bool false, .int .i64 0, .slice none 0 0, .slice none 0 0, .slice none 0 0] 29) = W4 := ⟨_, rfl⟩
  go_wp2_with (refine wpList_store_new rfl (.tmp 5) (.tmp 17) rfl #[.int .i64 0, .bool B8, .bool B1, .int .i64 (Q : Nat), .string ⟨s.toArray⟩, .string ⟨#[]⟩, .int .i64 0, .string ⟨#[]⟩, .bool false, .int .i64 0, .bool false, .string ⟨#[]⟩, .string ⟨#[]⟩, .int .i64 0, .bool false, .bool false, .bool false, .string ⟨#[]⟩, .string ⟨#[]⟩, .bool false, .int .i64 0, .slice none 0 0, .slice none 0 0, .slice none 0 0] #[.int .i64 0, .bool false, .bool false, .int .i64 0, .string ⟨#[]⟩, .string ⟨#[]⟩, .int .i64 0, .string ⟨#[]⟩, .bool false, .int .i64 0, .bool false, .string ⟨#[]⟩, .string ⟨#[]⟩, .int .i64 0, .bool false, .bool false, .bool false, .string ⟨#[]⟩, .string ⟨#[]⟩, .bool false, .int .i64 0, .slice none 0 0, .slice none 0 0, .slice none 0 0] w3 hW4.symm (by kernel_rfl) rfl (by simp [Value.oneCell']) rfl rfl ?_; intro w5 hw5)
  refine Lib.hid ?_
  have q9 : Row w5 w3.heap.size 29 #[.int .i64 0, .bool B8, .bool B1, .int .i64 (Q : Nat), .string ⟨s.toArray⟩, .string ⟨#[]⟩, .int .i64 0, .string ⟨#[]⟩, .bool false, .int .i64 0, .bool false, .string ⟨#[]⟩, .string ⟨#[]⟩, .int .i64 0, .bool false, .bool false, .bool false, .string ⟨#[]⟩, .string ⟨#[]⟩, .bool false, .int .i64 0, .slice none 0 0, .slice none 0 0, .slice none 0 0] := by rw [← hw5]; exact Row.new _ _ _
  have k9 : Keeps w3 w5 [] := by rw [← hw5]; exact Keeps.alloc _ _
  obtain ⟨G, hG⟩ : ∃ G, w3.heap.size = G := ⟨_, rfl⟩
  have hGs : w.heap.size + 2 ≤ G := by have := HK3.out.size; have := HS.out.2; omega
  have HK5 := Lib.hid (show Keeps W1 w5 [r] from HK3.out.trans k9 (by simp))
  rw [hG] at q9 ⊢
  have ST := Lib.hid (show RdSt w w5 base r w.heap.size W0.heap.size G #[.int .i64 0, .bool B8, .bool B1, .int .i64 (Q : Nat), .string ⟨s.toArray⟩, .string ⟨#[]⟩, .int .i64 0, .string ⟨#[]⟩, .bool false, .int .i64 0, .bool false, .string ⟨#[]⟩, .string ⟨#[]⟩, .int .i64 0, .bool false, .bool false, .bool false, .string ⟨#[]⟩, .string ⟨#[]⟩, .bool false, .int .i64 0, .slice none 0 0, .slice none 0 0, .slice none 0 0] V1 from ⟨(HK.out.weaken (T := [r]) (by simp)).trans HK5.out (fun _ hx _ => hx), HB.out.keep HK5.out (by have := HNR.out; simp; omega), HR.out.keep HK5.out (by have := HNR.out; have := HS.out; simp; omega), q9, HRD3.out.keep k9 (by simp), by have := HNR.out; have := HS.out; omega⟩)
  clear k9 hW4 q9 hw5 hG hGs HK5 HRD3 HK3 HB HR HRD HK
  have g3 := ST.out.g.cell 3
  simp only [List.getElem?_toArray, List.getElem?_cons_zero, List.getElem?_cons_succ] at g3
  by_cases hq : 0 < Q
  ·rcases hE2 : rdN 2 V1 with _ | ⟨n, V2⟩
   ·have HT := Lib.hid (show rdPub f l = none by rw [HD2.out, Option.bind_some, if_pos hq]; simp only; rw [hE2]; rfl)
    have HE2 := Lib.hid hE2
    have c0 := ST.out.b.cell 0
    simp only [List.getElem?_toArray, List.getElem?_cons_zero] at c0
    clear hE2
    go_wp2_with fail
    refine (pvNum_none (k' := 2) ST.out.rd HE2.out (by omega) (by omega) rfl).mono ?_
    rintro e w6 ⟨hk, rfl⟩
    exact ⟨rfl, ST.out.k.trans hk (fun _ hx _ => hx), by rw [HT.out]⟩
   ·have HT := Lib.hid (show rdPub f l = some ({ pkZ with k := 3, dup := B8, ret := B1, q := (Q : Nat), t := s, id := (n : Int), b := V2 }, []) by rw [HD2.out, Option.bind_some, if_pos hq]; simp only; rw [hE2]; rfl)
    have HLV := Lib.hid (show V2.length ≤ 100000 by have := (rdN_sound hE2).2.2; have := HLV1.out; omega)
    have HE2 := Lib.hid hE2
    have c0 := ST.out.b.cell 0
    simp only [List.getElem?_toArray, List.getElem?_cons_zero] at c0
    clear hE2
    go_wp2_with fail
    refine (pvNum2_some ST.out.rd HE2.out).mono ?_
    rintro e w6 ⟨hk, rfl, hrd⟩
    have ST2 := Lib.hid (ST.out.read hk hrd)
    have f6 := ST2.out.g.frozen 6
    have g6 := ST2.out.g.cell 6
    simp only [List.getElem?_toArray, List.getElem?_cons_zero, List.getElem?_cons_succ] at g6
    clear c0 hk hrd g3 ST hq
    go_upto_region 4 with fail
    obtain ⟨W7, hW7⟩ : ∃ W7, w6.setCell ⟨G, 6, none⟩ (.int .i64 (n : Nat)) = W7 := ⟨_, rfl⟩
    have ST := Lib.hid (show RdSt w W7 base r w.heap.size W0.heap.size G #[.int .i64 0, .bool B8, .bool B1, .int .i64 (Q : Nat), .string ⟨s.toArray⟩, .string ⟨#[]⟩, .int .i64 (n : Nat), .string ⟨#[]⟩, .bool false, .int .i64 0, .bool false, .string ⟨#[]⟩, .string ⟨#[]⟩, .int .i64 0, .bool false, .bool false, .bool false, .string ⟨#[]⟩, .string ⟨#[]⟩, .bool false, .int .i64 0, .slice none 0 0, .slice none 0 0, .slice none 0 0] V2 by rw [← hW7]; exact ST2.out.put 6 _)
    rw [hW7]
    clear hW7 f6 g6 ST2
    have c0 := ST.out.b.cell 0
    simp only [List.getElem?_toArray, List.getElem?_cons_zero] at c0
    go_wp2_with fail
    refine (pkRest_any _ base r V2 ST.out.rd HLV.out).mono ?_
    rintro e w8 ⟨hk8, rfl, hrd8⟩
    have ST2 := Lib.hid (ST.out.read hk8 hrd8)
    have f5 := ST2.out.g.frozen 5
    have g5 := ST2.out.g.cell 5
    simp only [List.getElem?_toArray, List.getElem?_cons_zero, List.getElem?_cons_succ] at g5
    clear c0 hk8 hrd8
    go_upto_region 5 with fail
    obtain ⟨W9, hW9⟩ : ∃ W9, w8.setCell ⟨G, 5, none⟩ (.string ⟨V2.toArray⟩) = W9 := ⟨_, rfl⟩
    have ST3 := Lib.hid (show RdSt w W9 base r w.heap.size W0.heap.size G #[.int .i64 0, .bool B8, .bool B1, .int .i64 (Q : Nat), .string ⟨s.toArray⟩, .string ⟨V2.toArray⟩, .int .i64 (n : Nat), .string ⟨#[]⟩, .bool false, .int .i64 0, .bool false, .string ⟨#[]⟩, .string ⟨#[]⟩, .int .i64 0, .bool false, .bool false, .bool false, .string ⟨#[]⟩, .string ⟨#[]⟩, .bool false, .int .i64 0, .slice none 0 0, .slice none 0 0, .slice none 0 0] [] by rw [← hW9]; exact ST2.out.put 5 _)
    rw [hW9]
    clear hW9 f5 g5
    refine wp_region_line KeepsAll _ 1 rfl (by kernel_rfl) (by kernel_rfl) (fun _ => Keeps.refl _ _) (fun _ _ _ h k => h.trans k (by simp)) ?_
    simp only [List.take_succ_cons, List.take_zero, List.drop_succ_cons, List.drop_zero]
    refine lw 29 (.tmp 5) (G) ([.int .i64 0, .bool B8, .bool B1, .int .i64 (Q : Nat), .string ⟨s.toArray⟩, .string ⟨V2.toArray⟩, .int .i64 (n : Nat), .string ⟨#[]⟩, .bool false, .int .i64 0, .bool false, .string ⟨#[]⟩, .string ⟨#[]⟩, .int .i64 0, .bool false, .bool false, .bool false, .string ⟨#[]⟩, .string ⟨#[]⟩, .bool false, .int .i64 0, .slice none 0 0, .slice none 0 0, .slice none 0 0]) Tryz.underlying29 (fun W hW => range_row (ST3.out.g.keeps hW)) ?_
    refine loose_nil (fun W vals hW hkn => ?_)
    simp only [addEnt, knowsAll] at hkn
    try simp only [and_true] at hkn
    simp only [addEnt, fill, Act.put, List.setIfInBounds_toArray, List.set_cons_succ, List.set_cons_zero]
    clear hkn
    have ST4 := Lib.hid (ST3.out.keeps hW)
    clear hW
    refine wpList_store_row rfl (.tmp 4) (.tmp 27) 29 rfl W0.heap.size #[.int .i64 0, .bool B8, .bool B1, .int .i64 (Q : Nat), .string ⟨s.toArray⟩, .string ⟨V2.toArray⟩, .int .i64 (n : Nat), .string ⟨#[]⟩, .bool false, .int .i64 0, .bool false, .string ⟨#[]⟩, .string ⟨#[]⟩, .int .i64 0, .bool false, .bool false, .bool false, .string ⟨#[]⟩, .string ⟨#[]⟩, .bool false, .int .i64 0, .slice none 0 0, .slice none 0 0, .slice none 0 0] #[.int .i64 0, .bool false, .bool false, .int .i64 0, .string ⟨#[]⟩, .string ⟨#[]⟩, .int .i64 0, .string ⟨#[]⟩, .bool false, .int .i64 0, .bool false, .string ⟨#[]⟩, .string ⟨#[]⟩, .int .i64 0, .bool false, .bool false, .bool false, .string ⟨#[]⟩, .string ⟨#[]⟩, .bool false, .int .i64 0, .slice none 0 0, .slice none 0 0, .slice none 0 0] ST4.out.rr (by kernel_rfl) rfl (by simp [Value.oneCell']) rfl rfl ?_
    intro w7 r7 k7
    have HR7 := Lib.hid r7
    have HRD7 := Lib.hid (ST4.out.rd.far k7 (fun x hx => by have := ST4.out.o; simp at hx; omega))
    have HK7 := Lib.hid (ST4.out.k.trans k7 (fun x hx hlt => by have := ST4.out.o; simp at hx; omega))
    clear r7 k7
    go_wp2_with fail
    obtain ⟨d, hu, hd⟩ := undPack
    refine bodyPost_ret (results_row (s := 4) (cs := [.int .i64 0, .bool B8, .bool B1, .int .i64 (Q : Nat), .string ⟨s.toArray⟩, .string ⟨V2.toArray⟩, .int .i64 (n : Nat), .string ⟨#[]⟩, .bool false, .int .i64 0, .bool false, .string ⟨#[]⟩, .string ⟨#[]⟩, .int .i64 0, .bool false, .bool false, .bool false, .string ⟨#[]⟩, .string ⟨#[]⟩, .bool false, .int .i64 0, .slice none 0 0, .slice none 0 0, .slice none 0 0]) rfl rfl (range_row HR7.out) hu hd (by kernel_rfl)) rfl ⟨HK7.out, ?_⟩
    rw [HT.out]
    exact ⟨_, _, _, rfl, PkT.empty rfl rfl rfl, HRD7.out⟩
  ·have HT := Lib.hid (show rdPub f l = some ({ pkZ with k := 3, dup := B8, ret := B1, q := (Q : Nat), t := s, b := V1 }, []) by rw [HD2.out, Option.bind_some, if_neg hq])
   have HLV := HLV1
   go_upto_region 4 with fail
   clear g3 hq
   have c0 := ST.out.b.cell 0
   simp only [List.getElem?_toArray, List.getElem?_cons_zero] at c0
   go_wp2_with fail
   refine (pkRest_any _ base r V1 ST.out.rd HLV.out).mono ?_
   rintro e w8 ⟨hk8, rfl, hrd8⟩
   have ST2 := Lib.hid (ST.out.read hk8 hrd8)
   have f5 := ST2.out.g.frozen 5
   have g5 := ST2.out.g.cell 5
   simp only [List.getElem?_toArray, List.getElem?_cons_zero, List.getElem?_cons_succ] at g5
   clear c0 hk8 hrd8
   go_upto_region 5 with fail
   obtain ⟨W9, hW9⟩ : ∃ W9, w8.setCell ⟨G, 5, none⟩ (.string ⟨V1.toArray⟩) = W9 := ⟨_, rfl⟩
   have ST3 := Lib.hid (show RdSt w W9 base r w.heap.size W0.heap.size G #[.int .i64 0, .bool B8, .bool B1, .int .i64 (Q : Nat), .string ⟨s.toArray⟩, .string ⟨V1.toArray⟩, .int .i64 0, .string ⟨#[]⟩, .bool false, .int .i64 0, .bool false, .string ⟨#[]⟩, .string ⟨#[]⟩, .int .i64 0, .bool false, .bool false, .bool false, .string ⟨#[]⟩, .string ⟨#[]⟩, .bool false, .int .i64 0, .slice none 0 0, .slice none 0 0, .slice none 0 0] [] by rw [← hW9]; exact ST2.out.put 5 _)
   rw [hW9]
   clear hW9 f5 g5
   refine wp_region_line KeepsAll _ 1 rfl (by kernel_rfl) (by kernel_rfl) (fun _ => Keeps.refl _ _) (fun _ _ _ h k => h.trans k (by simp)) ?_
   simp only [List.take_succ_cons, List.take_zero, List.drop_succ_cons, List.drop_zero]
   refine lw 29 (.tmp 5) (G) ([.int .i64 0, .bool B8, .bool B1, .int .i64 (Q : Nat), .string ⟨s.toArray⟩, .string ⟨V1.toArray⟩, .int .i64 0, .string ⟨#[]⟩, .bool false, .int .i64 0, .bool false, .string ⟨#[]⟩, .string ⟨#[]⟩, .int .i64 0, .bool false, .bool false, .bool false, .string ⟨#[]⟩, .string ⟨#[]⟩, .bool false, .int .i64 0, .slice none 0 0, .slice none 0 0, .slice none 0 0]) Tryz.underlying29 (fun W hW => range_row (ST3.out.g.keeps hW)) ?_
   refine loose_nil (fun W vals hW hkn => ?_)
   simp only [addEnt, knowsAll] at hkn
   try simp only [and_true] at hkn
   simp only [addEnt, fill, Act.put, List.setIfInBounds_toArray, List.set_cons_succ, List.set_cons_zero]
   clear hkn
   have ST4 := Lib.hid (ST3.out.keeps hW)
   clear hW
   refine wpList_store_row rfl (.tmp 4) (.tmp 27) 29 rfl W0.heap.size #[.int .i64 0, .bool B8, .bool B1, .int .i64 (Q : Nat), .string ⟨s.toArray⟩, .string ⟨V1.toArray⟩, .int .i64 0, .string ⟨#[]⟩, .bool false, .int .i64 0, .bool false, .string ⟨#[]⟩, .string ⟨#[]⟩, .int .i64 0, .bool false, .bool false, .bool false, .string ⟨#[]⟩, .string ⟨#[]⟩, .bool false, .int .i64 0, .slice none 0 0, .slice none 0 0, .slice none 0 0] #[.int .i64 0, .bool false, .bool false, .int .i64 0, .string ⟨#[]⟩, .string ⟨#[]⟩, .int .i64 0, .string ⟨#[]⟩, .bool false, .int .i64 0, .bool false, .string ⟨#[]⟩, .string ⟨#[]⟩, .int .i64 0, .bool false, .bool false, .bool false, .string ⟨#[]⟩, .string ⟨#[]⟩, .bool false, .int .i64 0, .slice none 0 0, .slice none 0 0, .slice none 0 0] ST4.out.rr (by kernel_rfl) rfl (by simp [Value.oneCell']) rfl rfl ?_
   intro w7 r7 k7
   have HR7 := Lib.hid r7
   have HRD7 := Lib.hid (ST4.out.rd.far k7 (fun x hx => by have := ST4.out.o; simp at hx; omega))
   have HK7 := Lib.hid (ST4.out.k.trans k7 (fun x hx hlt => by have := ST4.out.o; simp at hx; omega))
   clear r7 k7
   go_wp2_with fail
   obtain ⟨d, hu, hd⟩ := undPack
   refine bodyPost_ret (results_row (s := 4) (cs := [.int .i64 0, .bool B8, .bool B1, .int .i64 (Q : Nat), .string ⟨s.toArray⟩, .string ⟨V1.toArray⟩, .int .i64 0, .string ⟨#[]⟩, .bool false, .int .i64 0, .bool false, .string ⟨#[]⟩, .string ⟨#[]⟩, .int .i64 0, .bool false, .bool false, .bool false, .string ⟨#[]⟩, .string ⟨#[]⟩, .bool false, .int .i64 0, .slice none 0 0, .slice none 0 0, .slice none 0 0]) rfl rfl (range_row HR7.out) hu hd (by kernel_rfl)) rfl ⟨HK7.out, ?_⟩
   rw [HT.out]
   exact ⟨_, _, _, rfl, PkT.empty rfl rfl rfl, HRD7.out⟩
end Go.Proofs.YtahbikfbjenfpaaGreatDoor
