/- Walks over package crc (layer 1): the bytes of parts, one behind the other (a range over a function), at one part. Walks over package crc (layer 1): the sum of one part; the reference's word and sum. -/
import Derived.Test.YtfglgeoookbppaaGreatDoorPa18
import Derived.RangeFuncNested
import Derived.RangeFuncBound
import Derived.RangeFuncCalls
import Derived.RangeFuncLeaves
import Derived.RangeFuncBox
import Derived.Shelf.Abstract
import Derived.Shelf.RegionOpen
import Derived.OwnWalkIn
import Derived.TacticsInMore
import Derived.LoopNIn
import Derived.LoopIn

namespace Go.Proofs.YtfglgeoookbppaaGreatDoor
open Go.RowKit Go.Shelf

attribute [local go_sem] Oper.semAt_some

set_option maxRecDepth 100000 in
set_option maxHeartbeats 1000000 in
theorem each1_in (F : Fence) (n : Nat) (hf : F.fn 169) (hro : F.round = none) (hn : 1 ≤ n) (l Bp n₀ pb : Nat) (A : Option Addr) (c : Nat) (xs : List UInt8) (_hc : xs.length ≤ c) (hlen : xs.length ≤ 140737488355328) (_hpb : pb < n₀) (J Jx : List UInt8 → World → Prop)
  (hY : ∀ pre x W, J pre W → pre.length < xs.length → YieldAt F (n - 1) Tryz.prog l #[byteV x] W fun e W' =>
   (e = .returned (.bool true) ∧ J (pre ++ [x]) W' ∧ Below n₀ W W') ∨ (e = .returned (.bool false) ∧ Jx (pre ++ [x]) W'))
  (W : World) (hBp : W.cell? ⟨Bp, 0, none⟩ = some (.slice (some ⟨pb, 0, none⟩) 1 1)) (hp : W.cell? ⟨pb, 0, none⟩ = some (.slice A xs.length c)) (hL : Lies W n₀ A (xs.map byteV)) (h0 : J [] W) :
  CallsIn F n Tryz.prog 169 #[.func (.yield l) #[] #[], .pointer (some ⟨Bp, 0, none⟩)] W fun e W' => (∃ v, e = .returned v) ∧
   ((∃ ys, ys = xs ∧ J ys W') ∨ (∃ pre, pre <+: xs ∧ Jx pre W')) := by
 refine callsIn_of_wp Tryz.func169 rfl hf ?_ hro
 simp only [Tryz.ntmps169, List.size_toArray, List.length_cons, List.length_nil, Nat.reduceAdd, Nat.reduceSub, Array.replicate_succ, Array.replicate_zero, List.push_toArray, List.append_toArray, List.nil_append, List.cons_append]
 gi_wp2
 gi_loopw [4, 6, 9, 13, 14, 15] (fun _ _ i _ _ _ wr => (i = .int .i64 0 ∧ wr = W) ∨ (i = .int .i64 1 ∧ J xs wr)) (fun _ _ i _ _ _ _ => 1 - (intOf i).toNat)
 case atStart => exact .inl ⟨rfl, rfl⟩
 case round =>
  rcases hrel with ⟨rfl, rfl⟩ | ⟨rfl, hJ⟩
  ·gi_wp2
   gi_loopw [6, 15] (fun _ i W1 => ∃ k : Nat, k ≤ xs.length ∧ i = .int .i64 k ∧ J (xs.take k) W1 ∧ Below n₀ wr W1) (fun _ i _ => xs.length - (intOf i).toNat)
   case atStart => exact ⟨0, Nat.zero_le _, rfl, h0, Below.refl _ _⟩
   case round =>
    obtain ⟨k, hk, rfl, hJs, hnx⟩ := hrel
    by_cases hlt : k < xs.length
    ·obtain ⟨b, o, rfl, hb, hcx⟩ := (hL.below hnx).at_ (k := k) (by simpa using hlt)
     rw [byteV_get xs hlt] at hcx
     obtain ⟨fn, tmps, assign, body, hy, hR⟩ := hY _ xs[k] _ hJs (by rw [List.length_take]; omega)
     unfold byteV at hy
     have HL := Lib.hid hL
     clear hL
     gi_wp2
     refine hR.mono ?_
     rintro e W3 (⟨rfl, hJ3, hk3⟩ | ⟨rfl, hJx3⟩)
     ·gi_wp2
      go_roundw
      case rel => exact ⟨k + 1, by omega, by go_num, by rw [List.take_succ_eq_append_getElem hlt]; exact hJ3, hnx.trans hk3⟩
      case measure => simp [intOf]; omega
     ·gi_wp2
      refine bodyPost_ret (results_none rfl _ _ _) rfl ?_
      exact ⟨⟨_, rfl⟩, .inr ⟨_, by rw [← List.take_succ_eq_append_getElem hlt]; exact List.take_prefix _ _, hJx3⟩⟩
    ·obtain rfl : k = xs.length := by omega
     rw [List.take_length] at hJs
     gi_wp2
     go_roundw
     case rel => exact .inr ⟨by go_num, hJs⟩
     case measure => simp [intOf]
  ·gi_wp2
   go_end0
   exact ⟨⟨_, rfl⟩, .inl ⟨_, rfl, hJ⟩⟩

set_option maxHeartbeats 1000000 in
theorem each_in (F : Fence) (n : Nat) (hf : F.fn 153) (hro : F.round = none) (p : Option Addr) (len cap : Nat) (w : World) :
  CallsIn F n Tryz.prog 153 #[.slice p len cap] w fun e w' => e = .returned (.func (.func 169) #[] #[.pointer (some ⟨w.heap.size, 0, none⟩)]) ∧ w' = w.alloc (.cells #[.slice p len cap] 154) := by
 refine callsIn_of_wp Tryz.func153 rfl hf ?_ hro
 simp only [Tryz.ntmps153, List.size_toArray, List.length_cons, List.length_nil, Nat.reduceAdd, Nat.reduceSub, Array.replicate_succ, Array.replicate_zero, List.push_toArray, List.append_toArray, List.nil_append, List.cons_append]
 gi_wp2
 go_ret
 exact ⟨rfl, rfl⟩

theorem each_stops (F : Fence) (n : Nat) (hf : F.fn 169) (hro : F.round = none) (hn : 1 ≤ n) (Bp n₀ pb : Nat) (A : Option Addr) (c : Nat) (xs : List UInt8) (hc : xs.length ≤ c) (hlen : xs.length ≤ 140737488355328) (hpb : pb < n₀)
  (w : World) (hBs : Bp < w.heap.size) (hn₀ : n₀ ≤ w.heap.size)
  (hBp : w.cell? ⟨Bp, 0, none⟩ = some (.slice (some ⟨pb, 0, none⟩) 1 1)) (hp : w.cell? ⟨pb, 0, none⟩ = some (.slice A xs.length c)) (hL : Lies w n₀ A (xs.map byteV)) :
  SeqStopsK F n Tryz.prog 169 #[.pointer (some ⟨Bp, 0, none⟩)] (fun x : UInt8 => #[byteV x]) (Below n₀) (fun ys => ys = xs) (fun pre => pre <+: xs) xs.length w := fun l J Jx W hW _ _ hY h0 =>
 each1_in F n hf hro hn l Bp n₀ pb A c xs hc hlen hpb J Jx hY W ((hW.cell (p := ⟨Bp, 0, none⟩) hBs).trans hBp) ((hW.cell (p := ⟨pb, 0, none⟩) (Nat.lt_of_lt_of_le hpb hn₀)).trans hp) (hL.below (hW.mono hn₀)) h0

theorem cell_of_box_l {W : World} {B : Nat} {v : Value} {t : TypeId} (h : W.heap[B]? = some (.cells #[v] t (0, 0))) : W.cell? ⟨B, 0, none⟩ = some v ∧ W.frozen? ⟨B, 0, none⟩ = false := by
 constructor <;> simp [World.cell?, World.frozen?, h]
theorem cell_new_l (W : World) (v : Value) (t : TypeId) : (W.alloc (.cells #[v] t)).cell? ⟨W.heap.size, 0, none⟩ = some v ∧ (W.alloc (.cells #[v] t)).frozen? ⟨W.heap.size, 0, none⟩ = false :=
 cell_of_box_l (World.alloc_heap_new W _)

/-- The turn of a block that is no cells leaves a row. -/
theorem Row.own {W W' : World} {row : Option Nat} {g : Nat} {t : TypeId} {cs : Array Value} (h : Row W g t cs) (hg : W.grownBy W' row) (hr : ∀ r, row = some r → ∃ o : Obj, W.heap[r]? = some o ∧ o.isCells = false) : Row W' g t cs :=
 (hg.block g h.lt (fun e => by
  obtain ⟨o, ho, hc⟩ := hr g e.symm
  unfold Row at h
  rw [h] at ho
  cases ho
  cases hc)).trans h
theorem Adder.own {W W' : World} {row : Option Nat} {g a : Nat} {n : Int} {s : Nat} (h : Adder W g a n s) (hg : W.grownBy W' row) (hr : ∀ r, row = some r → ∃ o : Obj, W.heap[r]? = some o ∧ o.isCells = false) : Adder W' g a n s := by
 obtain ⟨⟨cs, hw, hc⟩, h2, h3⟩ := h
 exact ⟨⟨cs, hw.own hg hr, hc⟩, h2.own hg hr, h3⟩
theorem Adder.keep {W W' : World} {S : List Nat} {g a : Nat} {n : Int} {s : Nat} (h : Adder W g a n s) (hk : Keeps W W' S) (hg : g ∉ S) (ha : a ∉ S) : Adder W' g a n s := by
 obtain ⟨h1, h2, h3⟩ := h
 exact ⟨h1.keep hk hg, h2.keep hk ha, h3⟩

set_option maxRecDepth 100000 in
set_option maxHeartbeats 2000000 in
theorem add_in (n : Nat) (hn : 3 ≤ n)
  (w : World) (n₀ g a pb : Nat) (A : Option Addr) (c : Nat) (xs : List UInt8) (hc : xs.length ≤ c) (hlen : xs.length ≤ 140737488355328) (hpb : pb < n₀) (hn₀ : n₀ ≤ g) (hA : Adder w g a 0 4294967295)
  (hp : w.cell? ⟨pb, 0, none⟩ = some (.slice A xs.length c)) (hL : Lies w n₀ A (xs.map byteV)) :
  CallsIn Fence.wide n Tryz.prog 134 #[.pointer (some ⟨a, 0, none⟩), .slice (some ⟨pb, 0, none⟩) 1 1] w fun e W' => (∃ v, e = .returned v) ∧ Adder W' g a (xs.length : Int) (crcRun 4294967295 xs) ∧ Below n₀ w W' := by
 have hn1 : 1 ≤ n := by omega
 have hro : Fence.wide.round = none := rfl
 refine callsIn_of_wp_marks Tryz.func134 rfl trivial ?_ rfl
 simp only [Tryz.ntmps134, List.size_toArray, List.length_cons, List.length_nil, Nat.reduceAdd, Nat.reduceSub, Array.replicate_succ, Array.replicate_zero, List.push_toArray, List.append_toArray, List.nil_append, List.cons_append]
 have HA := Lib.hid hA
 clear hA
 have HL := Lib.hid hL
 clear hL
 gi_wp2_with (refine ⟨trivial, ?_⟩; gi_at_call 153; refine (each_in Fence.wide (n - 1) trivial rfl _ _ _ _).mono ?_; rintro e w' ⟨rfl, rfl⟩)
 have hlt := HA.out.2.1.lt
 have hlg := HA.out.1.lt
 have hA0 : Adder ((w.alloc (.cells #[.pointer (some ⟨a, 0, none⟩)] 155)).alloc (.cells #[.slice (some ⟨pb, 0, none⟩) 1 1] 154)) g a 0 4294967295 :=
  (HA.out.keep (Keeps.alloc _ _) (by simp) (by simp)).keep (Keeps.alloc _ _) (by simp) (by simp)
 have hB0 : Below n₀ w ((w.alloc (.cells #[.pointer (some ⟨a, 0, none⟩)] 155)).alloc (.cells #[.slice (some ⟨pb, 0, none⟩) 1 1] 154)) := ((Below.refl _ w).alloc (by omega) _).alloc (by simp; omega) _
 have hbx := cell_new_l (w.alloc (.cells #[.pointer (some ⟨a, 0, none⟩)] 155)) (.slice (some ⟨pb, 0, none⟩) 1 1) 154
 rw [World.size_alloc] at hbx
 have hrb : Row ((w.alloc (.cells #[.pointer (some ⟨a, 0, none⟩)] 155)).alloc (.cells #[.slice (some ⟨pb, 0, none⟩) 1 1] 154)) w.heap.size 155 #[.pointer (some ⟨a, 0, none⟩)] := (Row.new _ _ _).alloc _
 refine wpIn_rangeFunc_ownF hro hn1 (gf := 169) (lb := #[.pointer (some ⟨w.heap.size + 1, 0, none⟩)]) rfl trivial (enters_of Tryz.func169 (by kernel_rfl) rfl)
  (each_stops Fence.wide (n - 1) trivial rfl (by omega) (w.heap.size + 1) n₀ pb A c xs hc hlen hpb _ (by simp) (by simp; omega) hbx.1 ((hB0.cell (p := ⟨pb, 0, none⟩) hpb).trans hp) (HL.out.below hB0)) belowK_t (belowK_b (by simp; omega)) (Below.refl _ _) (fun _ => rfl)
  (fun pre W => (Adder W g a (pre.length : Int) (crcRun 4294967295 pre) ∧ Row W w.heap.size 155 #[.pointer (some ⟨a, 0, none⟩)]) ∧ Below n₀ w W)
  (fun _ _ _ => False)
  (OwnFrom.and (Own.from (fun s A B row hs hg hr => ⟨hs.1.own hg hr, hs.2.own hg hr⟩) _) (ownFrom_below (by omega) (by simp; omega)))
  (fun _ _ _ _ _ hs _ _ => hs)
  ⟨⟨hA0, hrb⟩, hB0⟩
  (fun x => { tmps := #[.pointer (some ⟨a, 0, none⟩), .slice (some ⟨pb, 0, none⟩) 1 1, .pointer (some ⟨w.heap.size, 0, none⟩), undef, byteV x, .slice (some ⟨pb, 0, none⟩) 1 1, .func (.func 169) #[] #[.pointer (some ⟨w.heap.size + 1, 0, none⟩)], byteV x, undef, undef, undef, undef, undef, undef, undef, undef, undef, undef, undef, undef, undef, undef, undef, undef, undef, undef, undef, undef, undef, undef, undef, undef, undef, undef, undef, undef, undef, undef, undef, undef], defers := [] }) ?assign ?body ?done ?stop
 case assign =>
  intro l x W K hK
  gi_wp2
  exact hK
 case body =>
  rintro l pre x W ⟨⟨hA, hR⟩, hB⟩ hpre
  have hs := crcRun_lt pre 4294967295 (by omega)
  have hsn := crcRun_snoc 4294967295 pre x
  have c0 := hR.cell 0
  have a0 := hA.2.1.cell 0
  have a1 := hA.2.1.cell 1
  have a2 := hA.2.1.cell 2
  have f0 := hA.2.1.frozen 0
  have f2 := hA.2.1.frozen 2
  have hx : x.toNat < 256 := x.toNat_lt
  have hT := fun i hi => hA.1.cell i hi
  have HA' := Lib.hid hA
  have HR' := Lib.hid hR
  clear hA hR
  generalize hS : crcRun 4294967295 pre = S at *
  clear hS
  have hi : S % 256 ^^^ x.toNat < 256 := Nat.xor_lt_two_pow (n := 8) (by omega) (by omega)
  have hT' := hT _ hi
  clear hT
  have hidx := crcIdx S x.toNat hx
  have HN := Lib.hid (crcNext S x.toNat hs hx)
  have HSN := Lib.hid hsn
  clear hsn
  generalize hI : S % 256 ^^^ x.toNat = I at *
  have hi' : (I : Int) < 256 := by omega
  clear hI
  unfold byteV
  gi_wp2
  refine wpIn_region_still_tail 23 (by kernel_rfl) (by kernel_rfl) (by kernel_rfl) ?_
  simp only [List.take_succ_cons, List.take_zero, List.drop_succ_cons, List.drop_zero]
  repeat still_step
  refine wpStill_nil ?_
  gi_wp2
  rw [HN.out]
  obtain ⟨hw1, hr1, hga⟩ := HA'.out
  have hne : w.heap.size ≠ a := by omega
  have k1 := Keeps.setCell W ⟨a, 2, none⟩ (.int .u32 (crcStep S x.toNat : Int))
  have k2 := Keeps.setCell (W.setCell ⟨a, 2, none⟩ (.int .u32 (crcStep S x.toNat : Int))) ⟨a, 0, none⟩ (.int .i64 ((pre.length : Int) + 1))
  have r2 := (hr1.store 2 (.int .u32 (crcStep S x.toNat : Int))).store 0 (.int .i64 ((pre.length : Int) + 1))
  refine ⟨((KeepsOthers.setCell _ _ _).trans (KeepsOthers.setCell _ _ _)).trans (KeepsOthers.drew _), (((Below.refl n₀ W).setCell (p := ⟨a, 2, none⟩) (by simp; omega) _).setCell (p := ⟨a, 0, none⟩) (by simp; omega) _).drew, ⟨⟨?_, ?_, hga⟩, ?_⟩, ((hB.setCell (p := ⟨a, 2, none⟩) (by simp; omega) _).setCell (p := ⟨a, 0, none⟩) (by simp; omega) _).drew⟩
  ·exact ((hw1.keep k1 (by simp; omega)).keep k2 (by simp; omega)).keep (Keeps.drew _) (by simp)
  ·rw [HSN.out]
   have : (((pre ++ [x]).length : Nat) : Int) = (pre.length : Int) + 1 := by simp
   rw [this]
   exact r2
  ·exact ((HR'.out.far (p := ⟨a, 2, none⟩) hne _).far (p := ⟨a, 0, none⟩) hne _)
 case done =>
  rintro D ys W hD rfl ⟨⟨hA, _⟩, hB⟩ hK
  have HA' := Lib.hid hA
  clear hA
  gi_wp2
  have hA := HA'.out
  refine ⟨by simp, .inl ⟨_, _, rfl, run_takeDeferred hK, ?_⟩⟩
  have kp : Keeps W (W.putObj D (.deferred none)) [D] := Keeps.of_grown (grownBy_putObj' W D _)
  have hDn : ∀ g t cs, Row W g t cs → g ≠ D := fun g t cs hr e => by subst e; unfold Row at hr; rw [hr] at hK; cases hK
  obtain ⟨⟨cs, hw1, hwc⟩, hr1, hga⟩ := hA
  refine ⟨_, results_none rfl _ _ _, ⟨_, rfl⟩, ⟨⟨cs, hw1.keep kp (by simpa using hDn _ _ _ hw1), hwc⟩, hr1.keep kp (by simpa using hDn _ _ _ hr1), hga⟩, ?_⟩
  exact hB.trans (kp.below (by have := hB.size; omega) (by simp; simp at hD; omega))
 case stop =>
  rintro D c pre W _ _ h _
  exact h.elim
end Go.Proofs.YtfglgeoookbppaaGreatDoor

namespace Go.Proofs.YtfglgeoookbppaaGreatDoor
open Go.RowKit

set_option maxRecDepth 100000 in
set_option maxHeartbeats 1000000 in
theorem crcSum_any (w : World) (pb : Nat) (A : Option Addr) (c : Nat) (l : List UInt8) (hc : l.length ≤ c) (hlen : l.length ≤ 140737488355328) (hpb : pb < w.heap.size)
  (hp : w.cell? ⟨pb, 0, none⟩ = some (.slice A l.length c)) (hL : Lies w w.heap.size A (l.map byteV)) :
  Calls Tryz.prog 101 #[.slice (some ⟨pb, 0, none⟩) 1 1] w fun e w' => e = .returned (.int .u32 (crcSum l : Nat)) ∧ Keeps w w' [] := by
 have HL := Lib.hid hL
 have HP := Lib.hid hp
 clear hL hp
 go_enter Tryz.func101, Tryz.ntmps101
 go_wp2_with (go_at_call 133; refine (newAdder_any _).mono ?_; rintro e w1 ⟨g, a, rfl, hA, hg, hk⟩)
 have HA := Lib.hid (And.intro hA hk)
 clear hA hk
 go_wp2_with fail
 have hb1 : Below w.heap.size w w1 := HA.out.2.below (Nat.le_refl _) (by simp)
 refine (callsIn_wide.1 (add_in 3 (by omega) w1 w.heap.size g a pb A c l hc hlen hpb hg HA.out.1 ((hb1.cell (p := ⟨pb, 0, none⟩) hpb).trans HP.out) (HL.out.below hb1))).mono ?_
 rintro e w2 ⟨⟨v, rfl⟩, hA2, hb2⟩
 have HA2 := Lib.hid (And.intro hA2 (And.intro hb1 hb2))
 clear hA2 hb1 hb2
 have hs := crcRun_lt l 4294967295 (by omega)
 go_wp2_with (go_at_call 135; refine (adderSum_any _ _ _ _ _ HA2.out.1 hs).mono ?_; rintro e w3 ⟨rfl, rfl⟩)
 go_wp2
 go_ret
 exact ⟨rfl, Keeps.of_below (HA2.out.2.1.trans HA2.out.2.2)⟩

theorem odd_rem (m : Nat) (_h : m < 4294967296) : ((m : Int) % 2 == 1) = decide (m % 2 = 1) := by
 rw [Bool.eq_iff_iff]; simp; omega

set_option maxRecDepth 100000 in
set_option maxHeartbeats 1000000 in
theorem refWord_any (b : Nat) (hb : b < 256) (w : World) :
  Calls Tryz.prog 102 #[.int .u8 b] w fun e w' => e = .returned (.int .u32 (crcWord b : Nat)) ∧ w = w' := by
 go_enter Tryz.func102, Tryz.ntmps102
 go_wp2
 go_loop [3, 4, 5] (fun t i _ => ∃ k : Nat, k ≤ 8 ∧ i = .int .i64 k ∧ t = .int .u32 (crcR k b : Nat)) (fun _ i _ => 8 - (intOf i).toNat)
 case atStart => exact ⟨0, by omega, rfl, rfl⟩
 case round =>
  obtain ⟨k, hk, rfl, rfl⟩ := hrel
  have hm := crcR_lt k b (by omega)
  have hx := xor_poly32 (crcR k b) hm
  have hsucc : crcR (k + 1) b = crcOne (crcR k b) := rfl
  have HS := Lib.hid hsucc
  clear hsucc
  have HX := Lib.hid hx
  clear hx
  generalize hM : crcR k b = M at *
  by_cases hlt : k < 8
  ·by_cases ho : M % 2 = 1
   ·have h1 : ((M : Int) % 2 == 1) = true := by rw [odd_rem M hm]; simpa using ho
    go_wp2
    refine ⟨⟨k + 1, by omega, by go_num, ?_⟩, by simp [intOf]; omega⟩
    rw [HX.out, HS.out]; simp [crcOne, ho]
   ·have h1 : ((M : Int) % 2 == 1) = false := by rw [odd_rem M hm]; simpa using ho
    go_wp2
    refine ⟨⟨k + 1, by omega, by go_num, ?_⟩, by simp [intOf]; omega⟩
    rw [HS.out]; simp [crcOne, ho]
  ·obtain rfl : k = 8 := by omega
   go_wp2
   go_ret
   exact ⟨by rw [← hM]; rfl, rfl⟩

set_option maxRecDepth 100000 in
set_option maxHeartbeats 1000000 in
theorem refSum_any (w : World) (A : Option Addr) (c : Nat) (l : List UInt8) (_hc : l.length ≤ c) (hlen : l.length ≤ 140737488355328) (hL : Lies w w.heap.size A (l.map byteV)) :
  Calls Tryz.prog 80 #[.slice A l.length c] w fun e w' => e = .returned (.int .u32 (crcSum l : Nat)) ∧ w = w' := by
 have HL := Lib.hid hL
 clear hL
 go_enter Tryz.func80, Tryz.ntmps80
 go_wp2
 go_loop [3, 4] (fun t i => ∃ k : Nat, k ≤ l.length ∧ i = .int .i64 k ∧ t = .int .u32 (crcRun 4294967295 (l.take k) : Nat)) (fun _ i => l.length - (intOf i).toNat)
 case atStart => exact ⟨0, by omega, rfl, rfl⟩
 case round =>
  obtain ⟨k, hk, rfl, rfl⟩ := hrel
  have hm := crcRun_lt (l.take k) 4294967295 (by omega)
  by_cases hlt : k < l.length
  ·have hsucc : crcRun 4294967295 (l.take (k + 1)) = crcStep (crcRun 4294967295 (l.take k)) l[k].toNat := by
    rw [List.take_succ_eq_append_getElem hlt, crcRun_snoc]
   obtain ⟨b, o, rfl, hb, hcx⟩ := HL.out.at_ (k := k) (by simpa using hlt)
   rw [byteV_get l hlt] at hcx
   have hx : l[k].toNat < 256 := l[k].toNat_lt
   generalize l[k].toNat = x at *
   generalize crcRun 4294967295 (l.take k) = M at *
   have HS := Lib.hid hsucc
   clear hsucc
   have hi : M % 256 ^^^ x < 256 := Nat.xor_lt_two_pow (n := 8) (by omega) (by omega)
   have HI := Lib.hid (crcIdx' M x hx)
   have HN := Lib.hid (crcNext M x hm hx)
   go_wp2_with fail
   rw [HI.out]
   refine (refWord_any _ hi _).mono ?_
   rintro e w' ⟨rfl, rfl⟩
   go_wp2
   refine ⟨⟨k + 1, by omega, by go_num, ?_⟩, by simp [intOf]; omega⟩
   rw [HN.out, HS.out]
  ·obtain rfl : k = l.length := by omega
   rw [List.take_length] at hm
   go_wp2
   go_ret
   exact ⟨ret_int (by unfold crcSum; omega), rfl⟩
end Go.Proofs.YtfglgeoookbppaaGreatDoor
