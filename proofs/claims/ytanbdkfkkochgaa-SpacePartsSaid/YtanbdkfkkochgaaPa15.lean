/- Package space: of, and the pages that it goes over. -/
import Derived.Test.YtanbdkfkkochgaaPa9
import Derived.Test.YtanbdkfkkochgaaPa13
import Derived.Test.YtanbdkfkkochgaaPa14
import Derived.RangeFuncNested
import Derived.RangeFuncBound
import Derived.RangeFuncCalls
import Derived.RangeFuncLeaves
import Derived.RangeFuncBox

namespace Go.Proofs.Ytanbdkfkkochgaa
open Go.RowKit Go.Maps Go.Shelf

attribute [local go_sem] Oper.semAt_some

theorem Keeps.grown {w w' : World} (h : Keeps w w' []) : w.grownBy w' none := ⟨h.os, h.tape, h.output, h.size, fun k hk _ => h.block k hk (by simp)⟩
/-- Does the box hold a slice in that block? -/
def OwnB (Bx : Nat) (W : World) (k : Nat) : Prop := ∃ n c, W.cell? ⟨Bx, 0, none⟩ = some (.slice (some ⟨k, 0, none⟩) n c)
theorem OwnB.of_cell {Bx k : Nat} {W W' : World} (h : OwnB Bx W' k) (hc : W'.cell? ⟨Bx, 0, none⟩ = W.cell? ⟨Bx, 0, none⟩) : OwnB Bx W k := by
  obtain ⟨n, c, h⟩ := h
  exact ⟨n, c, hc ▸ h⟩
/-- What a round leaves alone: all below n₀, and cells from N1 on but for those of the slice in its box. -/
structure KpC (n₀ N1 Bx : Nat) (W W' : World) : Prop where
  b : Below n₀ W W'
  same : ∀ (k : Nat) (cs : Array Value) (t : TypeId) (d : Nat × Nat), N1 ≤ k → W.heap[k]? = some (.cells cs t d) → ¬ OwnB Bx W k → W'.heap[k]? = some (.cells cs t d) ∧ ¬ OwnB Bx W' k
theorem KpC.t {n₀ N1 Bx : Nat} {A B C : World} (h : KpC n₀ N1 Bx A B) (k : KpC n₀ N1 Bx B C) : KpC n₀ N1 Bx A C := ⟨h.b.trans k.b, fun i cs t d hi ho hn => by
  obtain ⟨h1, h2⟩ := h.same i cs t d hi ho hn
  exact k.same i cs t d hi h1 h2⟩
theorem KpC.put {n₀ N1 Bx : Nat} {w : World} (hn : n₀ ≤ w.heap.size) (hx : Bx < w.heap.size) (W : World) (l : Nat) (o o' : Obj) (hl : w.heap.size ≤ l) (h : W.heap[l]? = some o) (hc : o.isCells = false) (hw : o.isWalk = false) : KpC n₀ N1 Bx W (W.putObj l o') :=
  ⟨belowK_b hn W l o o' hl h hc hw, fun k cs t d _ hk hno => by
    refine ⟨?_, fun ho => hno (ho.of_cell (World.cell?_of_block (World.putObj_heap_other (by show Bx ≠ l; omega))))⟩
    by_cases e : k = l
    · subst e
      rw [h] at hk
      cases hk
      cases hc
    · exact (World.putObj_heap_other e).trans hk⟩
theorem KpC.of {n₀ N1 Bx : Nat} {W W' : World} (h : Keeps W W' []) (hn : n₀ ≤ W.heap.size) (hx : Bx < W.heap.size) : KpC n₀ N1 Bx W W' :=
  ⟨h.below hn (by simp), fun k _ _ _ _ hk hno => ⟨(h.block k (Array.getElem?_eq_some_iff.1 hk).1 (by simp)).trans hk, fun ho => hno (ho.of_cell (h.cell (p := ⟨Bx, 0, none⟩) hx (by simp)))⟩⟩

set_option maxRecDepth 100000 in
theorem spOf_any (w : World) (s g : Nat) (lb : Array Value) :
    Calls Try.prog 29 #[.pointer (some ⟨s, 0, none⟩), .func (.func g) #[] lb] w fun e w' => e = .returned (.func (.func 40) #[] #[.pointer (some ⟨w.heap.size, 0, none⟩), .pointer (some ⟨w.heap.size + 1, 0, none⟩)]) ∧
      w' = (w.alloc (.cells #[.pointer (some ⟨s, 0, none⟩)] 26)).alloc (.cells #[.func (.func g) #[] lb] 66) := by
  go_enter Try.func29, Try.ntmps29
  go_wp2
  go_ret
  exact ⟨rfl, rfl⟩
/-- What the iterator reads, in a world. -/
structure OfAt (W : World) (n₀ Bs Bi s m1 g : Nat) (lb : Array Value) (L : List Nat) (p : Nat → Bool) : Prop where
  bs : W.cell? ⟨Bs, 0, none⟩ = some (.pointer (some ⟨s, 0, none⟩))
  bi : W.cell? ⟨Bi, 0, none⟩ = some (.func (.func g) #[] lb)
  sm : W.cell? ⟨s, 1, none⟩ = some (.map (some m1))
  m : PMap W m1 (spF L)
  is : ∀ W', Below n₀ W W' → ∀ v : Nat, Calls Try.prog g (#[.int .i64 (v : Int)] ++ lb) W' fun e w' => e = .returned (.bool (p v)) ∧ W' = w'
  ls : Bs < n₀
  li : Bi < n₀
  lss : s < n₀
  lm : m1 < n₀
theorem IMap.below {P : Program} {k : TypeId} {W W' : World} {B b : Nat} {f : Int → Option Value} (h : IMap W P k b f) (hb : Below B W W') (hlt : b < B) : IMap W' P k b f := by
  obtain ⟨D, ⟨es, clock, hh, F, hs, hD⟩, hT⟩ := h
  exact ⟨D, ⟨es, clock, (hb.block b hlt).trans hh, F, hs, hD⟩, hT⟩
theorem OfAt.below {W W' : World} {n₀ Bs Bi s m1 g : Nat} {lb : Array Value} {L : List Nat} {p : Nat → Bool} (h : OfAt W n₀ Bs Bi s m1 g lb L p) (hb : Below n₀ W W') : OfAt W' n₀ Bs Bi s m1 g lb L p :=
  ⟨(hb.cell (p := ⟨Bs, 0, none⟩) h.ls).trans h.bs, (hb.cell (p := ⟨Bi, 0, none⟩) h.li).trans h.bi, (hb.cell (p := ⟨s, 1, none⟩) h.lss).trans h.sm, h.m.below hb h.lm, fun W2 h2 => h.is W2 (hb.trans h2), h.ls, h.li, h.lss, h.lm⟩
/-- What has come when k pages have been looked at. -/
def spPre (p : Nat → Bool) (L : List Nat) (k : Nat) : List Int := ((spKeys L).take k).filter fun x => p (codeAt L x)
theorem spPre_snoc (p : Nat → Bool) (L : List Nat) {k : Nat} (hk : k < (spKeys L).length) : spPre p L (k + 1) = spPre p L k ++ (if p (codeAt L (spKeys L)[k]) then [(spKeys L)[k]] else []) := by
  unfold spPre
  rw [List.take_succ_eq_append_getElem hk, List.filter_append]
  congr 1
  by_cases h : p (codeAt L (spKeys L)[k]) = true
  · simp [h]
  · simp [h]
theorem spPre_all {p : Nat → Bool} (hp : ∀ v, p v = true → 2 ≤ v) (L : List Nat) : spPre p L (spKeys L).length = spSel p L := by
  unfold spPre
  rw [List.take_length, spSel_filter hp]
theorem spPre_prefix {p : Nat → Bool} (hp : ∀ v, p v = true → 2 ≤ v) (L : List Nat) (k : Nat) : spPre p L k <+: spSel p L := by
  rw [← spSel_filter hp]
  unfold spPre
  exact (List.take_prefix k _).filter _
/-- The pages in a slice that no round turns. -/
def KSl (N1 Bx : Nat) (A : Option Addr) (K : List Int) (w : World) : Prop := K = [] ∨ ∃ gb cur, A = some ⟨gb, 0, none⟩ ∧ N1 ≤ gb ∧ w.heap[gb]? = some (.cells cur 2 (0, 0)) ∧ cur.toList.take K.length = K.map encZ ∧ ¬ OwnB Bx w gb
theorem KSl.of {N1 Bx c : Nat} {A : Option Addr} {K : List Int} {w : World} {B : Nat} (h : w.ownsRow B 2 1 (.slice A K.length c) K.length (K.map encZ)) (hB : N1 ≤ B) (hx : ∀ k, B ≤ k → ¬ OwnB Bx w k) : KSl N1 Bx A K w := by
  rcases h.2 with ⟨_, h0⟩ | ⟨gb, cap, cur, hv, hg, hh, _, _, _, htk⟩
  · exact .inl (List.eq_nil_of_length_eq_zero h0)
  · injection hv with e1 e2 e3
    subst e1
    exact .inr ⟨gb, cur, rfl, Nat.le_trans hB hg, hh, by simpa using htk, hx gb hg⟩
theorem KSl.kp {n₀ N1 Bx : Nat} {A : Option Addr} {K : List Int} {w w' : World} (h : KSl N1 Bx A K w) (hk : KpC n₀ N1 Bx w w') : KSl N1 Bx A K w' := by
  rcases h with h | ⟨gb, cur, h1, h2, h3, h4, h5⟩
  · exact .inl h
  · obtain ⟨g1, g2⟩ := hk.same gb _ _ _ h2 h3 h5
    exact .inr ⟨gb, cur, h1, h2, g1, h4, g2⟩
theorem KSl.keeps {N1 Bx : Nat} {A : Option Addr} {K : List Int} {w w' : World} (h : KSl N1 Bx A K w) (hk : Keeps w w' []) (hx : Bx < w.heap.size) : KSl N1 Bx A K w' := by
  rcases h with h | ⟨gb, cur, h1, h2, h3, h4, h5⟩
  · exact .inl h
  · exact .inr ⟨gb, cur, h1, h2, (hk.block gb (Array.getElem?_eq_some_iff.1 h3).1 (by simp)).trans h3, h4, fun ho => h5 (ho.of_cell (hk.cell (p := ⟨Bx, 0, none⟩) hx (by simp)))⟩
theorem KSl.at_ {N1 Bx : Nat} {A : Option Addr} {K : List Int} {w : World} (h : KSl N1 Bx A K w) {j : Nat} (hj : j < K.length) : ∃ gb, A = some ⟨gb, 0, none⟩ ∧ w.cell? ⟨gb, j, none⟩ = some (encZ K[j]) := by
  rcases h with h | ⟨gb, cur, h1, h2, h3, h4, _⟩
  · subst h; simp at hj
  · refine ⟨gb, h1, ?_⟩
    rw [cell_of_row w gb j cur _ (0, 0) h3, ← Array.getElem?_toList]
    have e : (cur.toList.take K.length)[j]? = (K.map encZ)[j]? := by rw [h4]
    rw [List.getElem?_take, if_pos hj] at e
    rw [e, List.getElem?_map, List.getElem?_eq_getElem hj]
    rfl
set_option maxRecDepth 100000 in
set_option maxHeartbeats 8000000 in
theorem of1_in (F : Fence) (n : Nat) (hF : F.plain = Fence.wide) (hf : F.fn 40) (hro : F.round = none) (hn : 1 ≤ n) (l n₀ N1 Bx Bs Bi s m1 g : Nat) (lb : Array Value) (L : List Nat) (p : Nat → Bool) (hp : ∀ v, p v = true → 2 ≤ v) (hok : SpOk L)
    (eg : ∀ args w, (callFunc g args).run Try.prog w = .ok (.enter g args) w) (W : World) (J Jx : List Int → World → Prop)
    (hAb : AbidesFrom W.heap.size J) (hn₀ : n₀ ≤ W.heap.size) (hN1 : N1 ≤ W.heap.size) (hBx : Bx < W.heap.size) (hXX : ∀ k, W.heap.size ≤ k → ¬ OwnB Bx W k) (hO : OfAt W n₀ Bs Bi s m1 g lb L p)
    (hY : ∀ pre x W1, J pre W1 → pre.length < 4097 → 0 ≤ x ∧ x < 4096 → YieldAt F (n - 1) Try.prog l #[.int .i64 x] W1 fun e W' =>
      (e = .returned (.bool true) ∧ J (pre ++ [x]) W' ∧ KpC n₀ N1 Bx W1 W') ∨ (e = .returned (.bool false) ∧ Jx (pre ++ [x]) W')) (h0 : J [] W) :
    CallsIn F n Try.prog 40 #[.func (.yield l) #[] #[], .pointer (some ⟨Bs, 0, none⟩), .pointer (some ⟨Bi, 0, none⟩)] W fun e W' => (∃ v, e = .returned v) ∧
      ((∃ ys, ys = spSel p L ∧ J ys W') ∨ (∃ pre, pre <+: spSel p L ∧ Jx pre W')) := by
  have hfn : ∀ f, F.fn f := fun f => by
    have : F.plain.fn f := by rw [hF]; trivial
    exact this
  have HF := Lib.hid (And.intro hF hfn)
  have HO := Lib.hid hO
  have HJ := Lib.hid hAb
  have hAb' := HJ.out
  have HY := Lib.hid hY
  have HP := Lib.hid hp
  have HOK := Lib.hid hok
  have HN := Lib.hid (And.intro hn₀ (And.intro hN1 hBx))
  have HX := Lib.hid hXX
  have b1 := hO.bs
  have b2 := hO.bi
  have b3 := hO.sm
  clear hfn hO hAb hY hp hok hXX
  refine callsIn_of_wp Try.func40 rfl hf ?_ hro
  simp only [Try.ntmps40, List.size_toArray, List.length_cons, List.length_nil, Nat.reduceAdd, Nat.reduceSub, Array.replicate_succ, Array.replicate_zero, List.push_toArray, List.append_toArray, List.nil_append, List.cons_append]
  apply wpIn_scope_straight
  gi_wp2_with fail
  apply wpIn_label
  gi_wp2_with fail
  refine ⟨HF.out.2 _, (callsIn_of HF.out.1 (mapsKeys_any _ _)).mono ?_⟩
  rintro e w1 ⟨rfl, rfl⟩
  gi_wp2_with fail
  obtain ⟨W2, hW2⟩ : ∃ W2, W.alloc (.cells #[.map (some m1)] 55) = W2 := ⟨_, rfl⟩
  have hk2 : Keeps W W2 [] := by rw [← hW2]; exact Keeps.alloc _ _
  have hc2 : W2.cell? ⟨W.heap.size, 0, none⟩ = some (.map (some m1)) := by rw [← hW2]; exact (Row.new W 55 #[.map (some m1)]).cell 0
  have hs2 : W2.heap.size = W.heap.size + 1 := by rw [← hW2]; simp
  rw [hW2]
  have hlen := spSel_length (fun v => decide (2 ≤ v)) L
  refine ⟨HF.out.2 _, (callsIn_of HF.out.1 (sortedKeys_any (W := W2) (ks := spKeys L) (HO.out.m.keep hk2 (by simp)) hc2 (by omega) (spSel_sorted _ _) (fun x => spKeys_mem.symm) (Nat.le_trans hlen (by have := HOK.out.le; omega)))).mono ?_⟩
  rintro e w3 ⟨v, rfl, hrow, hb3⟩
  obtain ⟨A, c, rfl⟩ : ∃ A c, v = .slice A (spKeys L).length c := by
    rcases hrow.2 with ⟨rfl, h0⟩ | ⟨gb, cap, cur, rfl, _⟩
    · exact ⟨none, 0, by rw [h0]⟩
    · exact ⟨_, _, rfl⟩
  have hk3 : Keeps W w3 [] := hk2.trans (Keeps.of_below hb3) (by simp)
  have HK := Lib.hid (KSl.of (Bx := Bx) hrow (show N1 ≤ W2.heap.size by omega) (fun k hk ho => HX.out k (by omega) (ho.of_cell (hk3.cell (p := ⟨Bx, 0, none⟩) hBx (by simp)))))
  have HB3 := Lib.hid (hk3.below (B := n₀) hn₀ (by simp))
  have HJ3 := Lib.hid (hAb' [] W w3 none h0 hk3.grown (fun _ h => by cases h))
  obtain ⟨K, hK⟩ : ∃ K, spKeys L = K := ⟨_, rfl⟩
  have HKK := Lib.hid hK
  have hKl : K.length ≤ 4096 := by rw [← hK]; exact Nat.le_trans hlen HOK.out.le
  rw [hK] at HK ⊢
  clear hrow hb3 hk3 hk2 hc2 hs2 hlen hW2 hK h0 b1 b2 b3 hn₀ hN1 hBx
  gi_wp2_with fail
  gi_loopw [14] (fun i wr => ∃ k : Nat, k ≤ K.length ∧ i = .int .i64 k ∧ Hid (J (spPre p L k) wr) ∧ Hid (Below n₀ W wr) ∧ Hid (KSl N1 Bx A K wr)) (fun i _ => K.length - (intOf i).toNat)
  case atStart => exact ⟨0, by omega, rfl, HJ3, HB3, HK⟩
  case round =>
    obtain ⟨k, hk, rfl, HJr, HBr, HKr⟩ := hrel
    by_cases hkl : k < K.length
    · obtain ⟨gb, rfl, hcx⟩ := HKr.out.at_ hkl
      have HSN := Lib.hid (show spPre p L (k + 1) = spPre p L k ++ (if p (codeAt L K[k]) then [K[k]] else []) by have := HKK.out; subst this; exact spPre_snoc p L hkl)
      have hin : K[k] ∈ spKeys L := by rw [HKK.out]; exact List.getElem_mem _
      obtain ⟨x, hx⟩ : ∃ x, K[k] = x := ⟨_, rfl⟩
      rw [hx] at hcx HSN hin
      have hx1 := spSel_in hin
      have HC2 := Lib.hid (spKeys_mem.1 hin)
      have hLe := HOK.out.le
      have hxb : 0 ≤ x ∧ x < 4096 := by omega
      have HM := Lib.hid (fun (W' : World) (hW : Keeps wr W' []) => show (Instr.lookup 55 (.map (some m1)) (.int .i64 x) false).run Try.prog W' = .ok (.int .i64 (codeAt L x : Nat)) W' by
        have hm := ((HO.out.below HBr.out).m.keep hW (by simp)).look undI64 undPl (zeroPl W') (x := x) (by omega) (by omega) false
        rw [if_neg (by simp)] at hm
        rw [hm]
        have h2 := HC2.out
        unfold spF at h2 ⊢
        split
        · rename_i hc; rw [if_pos hc] at h2; exact absurd rfl h2
        · rfl)
      have hpl : (spPre p L k).length < 4097 := by
        have := List.length_filter_le (fun x => p (codeAt L x)) ((spKeys L).take k)
        have h2 : ((spKeys L).take k).length ≤ k := List.length_take_le _ _
        unfold spPre
        omega
      have HPL := Lib.hid (And.intro hpl hxb)
      obtain ⟨C, hC⟩ : ∃ C, codeAt L x = C := ⟨_, rfl⟩
      rw [hC] at HM HSN
      have HB1 := Lib.hid (HO.out.below HBr.out)
      have HIS := Lib.hid (fun (W' : World) (hW : Keeps wr W' []) => HB1.out.is W' (hW.below (Nat.le_trans HN.out.1 HBr.out.size) (by simp)) C)
      have M1 := fun (W' : World) (hW : Keeps wr W' []) => (hW.cell (p := ⟨Bs, 0, none⟩) (Nat.lt_of_lt_of_le HO.out.ls (Nat.le_trans HN.out.1 HBr.out.size)) (by simp)).trans HB1.out.bs
      have M2 := fun (W' : World) (hW : Keeps wr W' []) => (hW.cell (p := ⟨Bi, 0, none⟩) (Nat.lt_of_lt_of_le HO.out.li (Nat.le_trans HN.out.1 HBr.out.size)) (by simp)).trans HB1.out.bi
      have M3 := fun (W' : World) (hW : Keeps wr W' []) => (hW.cell (p := ⟨s, 1, none⟩) (Nat.lt_of_lt_of_le HO.out.lss (Nat.le_trans HN.out.1 HBr.out.size)) (by simp)).trans HB1.out.sm
      have HXX := Lib.hid (And.intro hC hx)
      clear hC hin hx1 hLe hpl hx
      obtain ⟨B, hB⟩ : ∃ B, p C = B := ⟨_, rfl⟩
      rw [hB] at HIS HSN
      clear hB
      gi_wp2_with fail
      cases B
      · refine wpIn_region_keeps HF.out.1 _ (by kernel_rfl) rfl (by kernel_rfl) (by kernel_rfl) ?_
        apply loose_is
        · intro W vals hW hkn
          clear hkn
          refine ⟨?_⟩
          simp only [fill]
          go_simp
          first | exact ⟨Keeps.refl _ _, rfl⟩ | exact ⟨Keeps.alloc _ _, rfl⟩
        simp only [addEnt]
        apply loose_is
        · intro W vals hW hkn
          clear hkn
          refine ⟨?_⟩
          simp only [fill]
          go_simp
          first | exact ⟨Keeps.refl _ _, rfl⟩ | exact ⟨Keeps.alloc _ _, rfl⟩
        simp only [addEnt]
        apply loose_is
        · intro W vals hW hkn
          clear hkn
          refine ⟨?_⟩
          simp only [fill]
          go_simp
          first | exact ⟨Keeps.refl _ _, rfl⟩ | exact ⟨Keeps.alloc _ _, rfl⟩
        simp only [addEnt]
        apply loose_is
        · intro W vals hW hkn
          clear hkn
          refine ⟨?_⟩
          simp only [fill]
          go_simp
          first | exact ⟨Keeps.refl _ _, rfl⟩ | exact ⟨Keeps.alloc _ _, rfl⟩
        simp only [addEnt]
        apply loose_is
        · intro W vals hW hkn
          clear hkn
          refine ⟨?_⟩
          simp only [fill]
          go_simp
          first | exact ⟨Keeps.refl _ _, rfl⟩ | exact ⟨Keeps.alloc _ _, rfl⟩
        simp only [addEnt]
        apply loose_is
        · intro W vals hW hkn
          clear hkn
          refine ⟨?_⟩
          simp only [fill]
          go_simp
          first | exact ⟨Keeps.refl _ _, rfl⟩ | exact ⟨Keeps.alloc _ _, rfl⟩
        simp only [addEnt]
        apply loose_is
        · intro W vals hW hkn
          clear hkn
          refine ⟨?_⟩
          simp only [fill]
          go_simp
          first | exact ⟨Keeps.refl _ _, rfl⟩ | exact ⟨Keeps.alloc _ _, rfl⟩
        simp only [addEnt]
        apply loose_is
        · intro W vals hW hkn
          simp only [knows] at hkn
          try simp only [and_true] at hkn
          have hlk := HM.out W hW
          refine ⟨?_⟩
          simp only [fill]
          go_simp
          first | exact ⟨Keeps.refl _ _, rfl⟩ | exact ⟨Keeps.alloc _ _, rfl⟩
        simp only [addEnt]
        apply loose_is
        · intro W vals hW hkn
          clear hkn
          refine ⟨?_⟩
          simp only [fill]
          go_simp
          refine looseUpon_calls ?_
          exact (HIS.out W hW).mono (by rintro e w3 ⟨rfl, rfl⟩; exact ⟨_, rfl, Keeps.refl _ _, rfl⟩)
        simp only [addEnt]
        apply loose_is
        · intro W vals hW hkn
          clear hkn
          refine ⟨?_⟩
          simp only [fill]
          go_simp
          first | exact ⟨Keeps.refl _ _, rfl⟩ | exact ⟨Keeps.alloc _ _, rfl⟩
        simp only [addEnt]
        refine loose_off (fun vals => by kernel_rfl) ?_
        simp only [addEnt]
        refine loose_off (fun vals => by kernel_rfl) ?_
        simp only [addEnt]
        refine loose_off (fun vals => by kernel_rfl) ?_
        simp only [addEnt]
        refine loose_off (fun vals => by kernel_rfl) ?_
        simp only [addEnt]
        apply loose_is
        · intro W vals hW hkn
          clear hkn
          refine ⟨?_⟩
          simp only [fill]
          go_simp
          first | exact ⟨Keeps.refl _ _, rfl⟩ | exact ⟨Keeps.alloc _ _, rfl⟩
        simp only [addEnt]
        refine loose_nil (fun W vals hW hkn => ?_)
        simp only [knowsAll] at hkn
        try simp only [and_true] at hkn
        simp only [fill, Act.put, List.setIfInBounds_toArray, List.set_cons_succ, List.set_cons_zero]
        clear hkn
        have HW4 := Lib.hid hW
        clear hW
        gi_wp2_with fail
        refine ⟨⟨k + 1, by omega, by go_num, Lib.hid ?_, Lib.hid ?_, Lib.hid (HKr.out.keeps HW4.out (Nat.lt_of_lt_of_le HN.out.2.2 HBr.out.size))⟩, by simp [intOf]; omega⟩
        · rw [HSN.out, if_neg (by simp), List.append_nil]
          exact HJ.out _ wr W none HJr.out HW4.out.grown (fun _ h => by cases h)
        · exact HBr.out.trans (HW4.out.below (Nat.le_trans HN.out.1 HBr.out.size) (by simp))
      · skip
        refine wpIn_region_tail HF.out.1 _ 12 (by kernel_rfl) rfl (by kernel_rfl) (by kernel_rfl) ?_
        simp only [List.take_succ_cons, List.take_zero, List.drop_succ_cons, List.drop_zero]
        apply loose_is
        · intro W vals hW hkn
          clear hkn
          refine ⟨?_⟩
          simp only [fill]
          go_simp
          first | exact ⟨Keeps.refl _ _, rfl⟩ | exact ⟨Keeps.alloc _ _, rfl⟩
        simp only [addEnt]
        apply loose_is
        · intro W vals hW hkn
          clear hkn
          refine ⟨?_⟩
          simp only [fill]
          go_simp
          first | exact ⟨Keeps.refl _ _, rfl⟩ | exact ⟨Keeps.alloc _ _, rfl⟩
        simp only [addEnt]
        apply loose_is
        · intro W vals hW hkn
          clear hkn
          refine ⟨?_⟩
          simp only [fill]
          go_simp
          first | exact ⟨Keeps.refl _ _, rfl⟩ | exact ⟨Keeps.alloc _ _, rfl⟩
        simp only [addEnt]
        apply loose_is
        · intro W vals hW hkn
          clear hkn
          refine ⟨?_⟩
          simp only [fill]
          go_simp
          first | exact ⟨Keeps.refl _ _, rfl⟩ | exact ⟨Keeps.alloc _ _, rfl⟩
        simp only [addEnt]
        apply loose_is
        · intro W vals hW hkn
          clear hkn
          refine ⟨?_⟩
          simp only [fill]
          go_simp
          first | exact ⟨Keeps.refl _ _, rfl⟩ | exact ⟨Keeps.alloc _ _, rfl⟩
        simp only [addEnt]
        apply loose_is
        · intro W vals hW hkn
          clear hkn
          refine ⟨?_⟩
          simp only [fill]
          go_simp
          first | exact ⟨Keeps.refl _ _, rfl⟩ | exact ⟨Keeps.alloc _ _, rfl⟩
        simp only [addEnt]
        apply loose_is
        · intro W vals hW hkn
          clear hkn
          refine ⟨?_⟩
          simp only [fill]
          go_simp
          first | exact ⟨Keeps.refl _ _, rfl⟩ | exact ⟨Keeps.alloc _ _, rfl⟩
        simp only [addEnt]
        apply loose_is
        · intro W vals hW hkn
          simp only [knows] at hkn
          try simp only [and_true] at hkn
          have hlk := HM.out W hW
          refine ⟨?_⟩
          simp only [fill]
          go_simp
          first | exact ⟨Keeps.refl _ _, rfl⟩ | exact ⟨Keeps.alloc _ _, rfl⟩
        simp only [addEnt]
        apply loose_is
        · intro W vals hW hkn
          clear hkn
          refine ⟨?_⟩
          simp only [fill]
          go_simp
          refine looseUpon_calls ?_
          exact (HIS.out W hW).mono (by rintro e w3 ⟨rfl, rfl⟩; exact ⟨_, rfl, Keeps.refl _ _, rfl⟩)
        simp only [addEnt]
        apply loose_is
        · intro W vals hW hkn
          clear hkn
          refine ⟨?_⟩
          simp only [fill]
          go_simp
          first | exact ⟨Keeps.refl _ _, rfl⟩ | exact ⟨Keeps.alloc _ _, rfl⟩
        simp only [addEnt]
        apply loose_is
        · intro W vals hW hkn
          clear hkn
          refine ⟨?_⟩
          simp only [fill]
          go_simp
          first | exact ⟨Keeps.refl _ _, rfl⟩ | exact ⟨Keeps.alloc _ _, rfl⟩
        simp only [addEnt]
        apply loose_is
        · intro W vals hW hkn
          clear hkn
          refine ⟨?_⟩
          simp only [fill]
          go_simp
          first | exact ⟨Keeps.refl _ _, rfl⟩ | exact ⟨Keeps.alloc _ _, rfl⟩
        simp only [addEnt]
        refine loose_nil (fun W vals hW hkn => ?_)
        simp only [knowsAll] at hkn
        try simp only [and_true] at hkn
        simp only [fill, Act.put, List.setIfInBounds_toArray, List.set_cons_succ, List.set_cons_zero]
        clear hkn
        have HW4 := Lib.hid (show Keeps wr W [] from hW)
        clear hW
        have hJ5 := HJ.out _ _ _ none HJr.out HW4.out.grown (fun _ h => by cases h)
        obtain ⟨fn, tmps, assign, body, hy, hR⟩ := HY.out _ x W hJ5 HPL.out.1 HPL.out.2
        have HR := Lib.hid hR
        clear hR hJ5
        refine ⟨?_⟩
        gi_wp2_with fail
        refine HR.out.mono ?_
        rintro e W5 (⟨rfl, hJ5, hk5⟩ | ⟨rfl, hJx⟩)
        · have HE := Lib.hid (And.intro hJ5 hk5)
          clear hJ5 hk5 hy
          gi_wp2_with fail
          refine ⟨⟨k + 1, by omega, by go_num, Lib.hid ?_, Lib.hid ?_, Lib.hid ((HKr.out.keeps HW4.out (Nat.lt_of_lt_of_le HN.out.2.2 HBr.out.size)).kp HE.out.2)⟩, by simp [intOf]; omega⟩
          · rw [HSN.out, if_pos trivial]
            exact HE.out.1
          · exact (HBr.out.trans (HW4.out.below (Nat.le_trans HN.out.1 HBr.out.size) (by simp))).trans HE.out.2.b
        · have HE := Lib.hid hJx
          clear hJx hy
          gi_wp2_with fail
          simp only [Exit.noGoto]
          go_end0
          refine ⟨⟨_, rfl⟩, .inr ⟨spPre p L k ++ [x], ?_, HE.out⟩⟩
          have hs := HSN.out
          rw [if_pos trivial] at hs
          rw [← hs]
          exact spPre_prefix HP.out L (k + 1)
    · obtain rfl : k = K.length := by omega
      gi_wp2_with fail
      simp only [Exit.noGoto]
      go_end0
      exact ⟨⟨_, rfl⟩, .inl ⟨_, by rw [← HKK.out, spPre_all HP.out], HJr.out⟩⟩
end Go.Proofs.Ytanbdkfkkochgaa
