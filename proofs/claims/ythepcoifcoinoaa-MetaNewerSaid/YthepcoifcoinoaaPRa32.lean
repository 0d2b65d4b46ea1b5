/- Walks over package meta (layer 6): the metas of two runs of bytes (a range over a function). -/
import Derived.Test.YthepcoifcoinoaaPRa30
import Derived.Test.YthepcoifcoinoaaPRa13
import Derived.Test.YthepcoifcoinoaaPRa31

namespace Go.Proofs.Ythepcoifcoinoaa
open Go.RowKit Go.Shelf

attribute [local go_sem] Oper.semAt_some

theorem Keeps.grown {w w' : World} (h : Keeps w w' []) : w.grownBy w' none := ⟨h.os, h.tape, h.output, h.size, fun k hk _ => h.block k hk (by simp)⟩
/-- The ones among the first k of two that are metas. -/
def mSeq (a b : List UInt8) : Nat → List (List UInt8)
  | 0 => []
  | 1 => if mpErr 0 a = 0 then [a] else []
  | _ => (if mpErr 0 a = 0 then [a] else []) ++ (if mpErr 1 b = 0 then [b] else [])

theorem mSeq_len (a b : List UInt8) (k : Nat) (hk : k < 2) : (mSeq a b k).length < 2 := by
  match k, hk with
  | 0, _ => simp [mSeq]
  | 1, _ => show (if mpErr 0 a = 0 then [a] else []).length < 2; split <;> simp

theorem mSeq_prefix (a b : List UInt8) (k : Nat) (hk : k ≤ 2) : mSeq a b k <+: mSeq a b 2 := by
  match k, hk with
  | 0, _ => simp [mSeq]
  | 1, _ => exact List.prefix_append _ _
  | 2, _ => exact List.prefix_refl _
theorem metas_in (F : Fence) (n : Nat) (hf : F.fn 55) (hro : F.round = none) (p : Option Addr) (len cap : Nat) (w : World) :
    CallsIn F n Try.prog 55 #[.slice p len cap] w fun e w' => e = .returned (.func (.func 72) #[] #[.pointer (some ⟨w.heap.size, 0, none⟩)]) ∧ w' = w.alloc (.cells #[.slice p len cap] 115) := by
  refine callsIn_of_wp Try.func55 rfl hf ?_ hro
  simp only [Try.ntmps55, List.size_toArray, List.length_cons, List.length_nil, Nat.reduceAdd, Nat.reduceSub, Array.replicate_succ, Array.replicate_zero, List.push_toArray, List.append_toArray, List.nil_append, List.cons_append]
  gi_wp2
  go_ret
  exact ⟨rfl, rfl⟩

set_option maxRecDepth 100000 in
set_option maxHeartbeats 4000000 in
theorem metas1_in (F : Fence) (n : Nat) (hF : F.plain = Fence.wide) (hf : F.fn 72) (hro : F.round = none) (hn : 1 ≤ n) (l Bp n₀ pb : Nat) (A B : Option Addr) (c d : Nat) (a b : List UInt8) (W : World) (J Jx : List (List UInt8) → World → Prop)
    (hAb : AbidesFrom W.heap.size J) (hn₀ : n₀ ≤ W.heap.size) (hpb : pb < n₀)
    (hA : Bytes W n₀ (.slice A a.length c) a) (hB : Bytes W n₀ (.slice B b.length d) b)
    (hY : ∀ pre x W1, J pre W1 → pre.length < 2 → YieldAt F (n - 1) Try.prog l #[mAgg x] W1 fun e W' =>
      (e = .returned (.bool true) ∧ J (pre ++ [x]) W' ∧ Below n₀ W1 W') ∨ (e = .returned (.bool false) ∧ Jx (pre ++ [x]) W'))
    (hBp : W.cell? ⟨Bp, 0, none⟩ = some (.slice (some ⟨pb, 0, none⟩) 2 2)) (hp0 : W.cell? ⟨pb, 0, none⟩ = some (.slice A a.length c)) (hp1 : W.cell? ⟨pb, 1, none⟩ = some (.slice B b.length d)) (h0 : J [] W) :
    CallsIn F n Try.prog 72 #[.func (.yield l) #[] #[], .pointer (some ⟨Bp, 0, none⟩)] W fun e W' => (∃ v, e = .returned v) ∧
      ((∃ ys, ys = mSeq a b 2 ∧ J ys W') ∨ (∃ pre, pre <+: mSeq a b 2 ∧ Jx pre W')) := by
  have hfn : ∀ f, F.fn f := fun f => by
    have : F.plain.fn f := by rw [hF]; trivial
    exact this
  have HA := Lib.hid (And.intro hA hB)
  have HF := Lib.hid (And.intro hF hfn)
  clear hfn
  have HJ := Lib.hid hAb
  have HY := Lib.hid hY
  have HP := Lib.hid (And.intro hp0 hp1)
  clear hA hB hAb hY hp0 hp1
  refine callsIn_of_wp Try.func72 rfl hf ?_ hro
  simp only [Try.ntmps72, List.size_toArray, List.length_cons, List.length_nil, Nat.reduceAdd, Nat.reduceSub, Array.replicate_succ, Array.replicate_zero, List.push_toArray, List.append_toArray, List.nil_append, List.cons_append]
  gi_wp2
  gi_loopw [9] (fun i wr => ∃ k : Nat, k ≤ 2 ∧ i = .int .i64 k ∧ J (mSeq a b k) wr ∧ Below n₀ W wr) (fun i _ => 2 - (intOf i).toNat)
  case atStart => exact ⟨0, by omega, rfl, h0, Below.refl _ _⟩
  case round =>
    obtain ⟨k, hk, rfl, hJs, hnx⟩ := hrel
    have hsz := hnx.size
    by_cases hlt : k < 2
    · rcases (show k = 0 ∨ k = 1 by omega) with rfl | rfl
      · skip
        have hlen := mSeq_len a b 0 (by omega)
        have cx : wr.cell? ⟨pb, 0, none⟩ = some (.slice A a.length c) := (hnx.cell (p := ⟨pb, 0, none⟩) hpb).trans HP.out.1
        have HB := Lib.hid ((HA.out.1.below hnx).mono (B' := wr.heap.size) (by omega))
        have HS := Lib.hid (And.intro hJs hnx)
        have hl := HA.out.1.len
        clear hJs hnx
        gi_wp2_with fail
        refine ⟨HF.out.2 _, (callsIn_of HF.out.1 (mParse_any wr 0 A c a HB.out)).mono ?_⟩
        rintro e w2 ⟨hk2, ⟨h2, rfl⟩ | ⟨h2, rfl⟩⟩
        · have r5 := Row.new w2 49 #[.int .i64 (pgTxid a), .int .i64 (mbNum a 0 : Nat), .int .i64 (mbNum a 1 : Nat), .int .i64 (mbNum a 2 : Nat)]
          have k5 := hk2.then_alloc (.cells #[.int .i64 (pgTxid a), .int .i64 (mbNum a 0 : Nat), .int .i64 (mbNum a 1 : Nat), .int .i64 (mbNum a 2 : Nat)] 49)
          obtain ⟨W5, hW5⟩ : ∃ W5, w2.alloc (.cells #[.int .i64 (pgTxid a), .int .i64 (mbNum a 0 : Nat), .int .i64 (mbNum a 1 : Nat), .int .i64 (mbNum a 2 : Nat)] 49) = W5 := ⟨_, rfl⟩
          rw [hW5] at r5 k5
          have hJ5 := HJ.out _ _ _ none HS.out.1 k5.grown (fun _ h => by cases h)
          obtain ⟨fn, tmps, assign, body, hy, hR⟩ := HY.out _ a W5 hJ5 hlen
          have hB5 := HS.out.2.trans (k5.below (B := n₀) (by omega) (by simp))
          have HR := Lib.hid (And.intro hR hB5)
          have HW5 := Lib.hid hW5
          have HE := Lib.hid h2
          have q0 := r5.cell 0
          have q1 := r5.cell 1
          have q2 := r5.cell 2
          have q3 := r5.cell 3
          simp only [List.getElem?_toArray, List.getElem?_cons_zero, List.getElem?_cons_succ] at q0 q1 q2 q3
          clear hR hB5 hJ5 k5 r5 hW5 hk2 h2
          simp only [metaV]
          unfold mAgg at hy
          rw [← HW5.out] at hy
          rw [← HW5.out] at HR
          have hn2 := n - 1
          gi_wp2_with fail
          refine HR.out.1.mono ?_
          rintro e W3 (⟨rfl, hJ3, hk3⟩ | ⟨rfl, hJx3⟩)
          · gi_wp2
            go_roundw
            case rel => exact ⟨1, by omega, by go_num, by
              have he : mSeq a b 1 = mSeq a b 0 ++ [a] := by simp [mSeq, HE.out]
              rw [he]; exact hJ3, HR.out.2.trans hk3⟩
            case measure => simp [intOf]
          · gi_wp2
            refine bodyPost_ret (results_none rfl _ _ _) rfl ?_
            exact ⟨⟨_, rfl⟩, .inr ⟨_, by
              have he : mSeq a b 1 = mSeq a b 0 ++ [a] := by simp [mSeq, HE.out]
              rw [← he]; exact mSeq_prefix a b 1 (by omega), hJx3⟩⟩
        · have r5 := Row.new w2 49 #[.int .i64 0, .int .i64 0, .int .i64 0, .int .i64 0]
          have k5 := hk2.then_alloc (.cells #[.int .i64 0, .int .i64 0, .int .i64 0, .int .i64 0] 49)
          have hJ5 := HJ.out _ _ _ none HS.out.1 k5.grown (fun _ h => by cases h)
          have hB5 := HS.out.2.trans (k5.below (B := n₀) (by omega) (by simp))
          have HR := Lib.hid (And.intro hJ5 hB5)
          have h2b : (((mpErr 0 a : Nat) : Int) == 0) = false := by simp; omega
          have HE := Lib.hid h2
          clear hB5 hJ5 k5 r5 hk2 h2
          simp only [metaV]
          gi_wp2_with fail
          refine ⟨(fun f h => by cases h), ?_⟩
          gi_wp2_with fail
          go_roundw
          case rel => exact ⟨1, by omega, by go_num, by
            have he : mSeq a b 1 = mSeq a b 0 := by simp [mSeq, HE.out]
            rw [he]; exact HR.out.1, HR.out.2⟩
          case measure => simp [intOf]
      · skip
        have hlen := mSeq_len a b 1 (by omega)
        have cx : wr.cell? ⟨pb, 1, none⟩ = some (.slice B b.length d) := (hnx.cell (p := ⟨pb, 1, none⟩) hpb).trans HP.out.2
        have HB := Lib.hid ((HA.out.2.below hnx).mono (B' := wr.heap.size) (by omega))
        have HS := Lib.hid (And.intro hJs hnx)
        have hl := HA.out.2.len
        clear hJs hnx
        gi_wp2_with fail
        refine ⟨HF.out.2 _, (callsIn_of HF.out.1 (mParse_any wr 1 B d b HB.out)).mono ?_⟩
        rintro e w2 ⟨hk2, ⟨h2, rfl⟩ | ⟨h2, rfl⟩⟩
        · have r5 := Row.new w2 49 #[.int .i64 (pgTxid b), .int .i64 (mbNum b 0 : Nat), .int .i64 (mbNum b 1 : Nat), .int .i64 (mbNum b 2 : Nat)]
          have k5 := hk2.then_alloc (.cells #[.int .i64 (pgTxid b), .int .i64 (mbNum b 0 : Nat), .int .i64 (mbNum b 1 : Nat), .int .i64 (mbNum b 2 : Nat)] 49)
          obtain ⟨W5, hW5⟩ : ∃ W5, w2.alloc (.cells #[.int .i64 (pgTxid b), .int .i64 (mbNum b 0 : Nat), .int .i64 (mbNum b 1 : Nat), .int .i64 (mbNum b 2 : Nat)] 49) = W5 := ⟨_, rfl⟩
          rw [hW5] at r5 k5
          have hJ5 := HJ.out _ _ _ none HS.out.1 k5.grown (fun _ h => by cases h)
          obtain ⟨fn, tmps, assign, body, hy, hR⟩ := HY.out _ b W5 hJ5 hlen
          have hB5 := HS.out.2.trans (k5.below (B := n₀) (by omega) (by simp))
          have HR := Lib.hid (And.intro hR hB5)
          have HW5 := Lib.hid hW5
          have HE := Lib.hid h2
          have q0 := r5.cell 0
          have q1 := r5.cell 1
          have q2 := r5.cell 2
          have q3 := r5.cell 3
          simp only [List.getElem?_toArray, List.getElem?_cons_zero, List.getElem?_cons_succ] at q0 q1 q2 q3
          clear hR hB5 hJ5 k5 r5 hW5 hk2 h2
          simp only [metaV]
          unfold mAgg at hy
          rw [← HW5.out] at hy
          rw [← HW5.out] at HR
          have hn2 := n - 1
          gi_wp2_with fail
          refine HR.out.1.mono ?_
          rintro e W3 (⟨rfl, hJ3, hk3⟩ | ⟨rfl, hJx3⟩)
          · gi_wp2
            go_roundw
            case rel => exact ⟨2, by omega, by go_num, by
              have he : mSeq a b 2 = mSeq a b 1 ++ [b] := by simp [mSeq, HE.out]
              rw [he]; exact hJ3, HR.out.2.trans hk3⟩
            case measure => simp [intOf]
          · gi_wp2
            refine bodyPost_ret (results_none rfl _ _ _) rfl ?_
            exact ⟨⟨_, rfl⟩, .inr ⟨_, by
              have he : mSeq a b 2 = mSeq a b 1 ++ [b] := by simp [mSeq, HE.out]
              rw [← he]; exact mSeq_prefix a b 2 (by omega), hJx3⟩⟩
        · have r5 := Row.new w2 49 #[.int .i64 0, .int .i64 0, .int .i64 0, .int .i64 0]
          have k5 := hk2.then_alloc (.cells #[.int .i64 0, .int .i64 0, .int .i64 0, .int .i64 0] 49)
          have hJ5 := HJ.out _ _ _ none HS.out.1 k5.grown (fun _ h => by cases h)
          have hB5 := HS.out.2.trans (k5.below (B := n₀) (by omega) (by simp))
          have HR := Lib.hid (And.intro hJ5 hB5)
          have h2b : (((mpErr 1 b : Nat) : Int) == 0) = false := by simp; omega
          have HE := Lib.hid h2
          clear hB5 hJ5 k5 r5 hk2 h2
          simp only [metaV]
          gi_wp2_with fail
          refine ⟨(fun f h => by cases h), ?_⟩
          gi_wp2_with fail
          go_roundw
          case rel => exact ⟨2, by omega, by go_num, by
            have he : mSeq a b 2 = mSeq a b 1 := by simp [mSeq, HE.out]
            rw [he]; exact HR.out.1, HR.out.2⟩
          case measure => simp [intOf]
    · obtain rfl : k = 2 := by omega
      gi_wp2
      go_end0
      exact ⟨⟨_, rfl⟩, .inl ⟨_, rfl, hJs⟩⟩
end Go.Proofs.Ythepcoifcoinoaa
