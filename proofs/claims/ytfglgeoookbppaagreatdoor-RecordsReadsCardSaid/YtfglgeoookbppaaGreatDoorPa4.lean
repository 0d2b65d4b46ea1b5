/- Package records: kinds. Bytes made by make. -/
import Derived.Test.YtfglgeoookbppaaGreatDoorPa3
import Derived.Test.YtfglgeoookbppaaGreatDoorPa0
import Derived.Test.YtfglgeoookbppaaGreatDoorPa1
import Derived.Laws.MakeOwn
import Derived.Lib.ConvBytes
import Derived.Lib.Strings

namespace Go.Proofs.YtfglgeoookbppaaGreatDoor
open Go.RowKit Go.Maps

theorem undRk : Tryz.prog.underlying 22 = some (.int .i64) := by kernel_rfl
theorem undRkM : Tryz.prog.underlying 56 = some (.map 22 55) := by kernel_rfl
def rc1 : Value := .agg #[.string ⟨#[115, 101, 115, 115, 105, 111, 110]⟩, kFn 58, kFn 60, kFn 61, .bool false]
def rc2 : Value := .agg #[.string ⟨#[115, 117, 98]⟩, kFn 63, kFn 65, kFn 66, .bool true]
def rc3 : Value := .agg #[.string ⟨#[111, 117, 116]⟩, kFn 68, kFn 70, kFn 71, .bool false]
def rc4 : Value := .agg #[.string ⟨#[105, 110]⟩, kFn 72, kFn 73, kFn 74, .bool false]
def rc5 : Value := .agg #[.string ⟨#[114, 101, 116, 97, 105, 110]⟩, kFn 75, kFn 76, kFn 77, .bool true]
def rc0 : Value := .agg #[.string ⟨#[]⟩, .nilFunc, .nilFunc, .nilFunc, .bool false]
def rcAll : DataW Value := (((((DataW.map []).put (.int .i64 1) (.held rc1)).put (.int .i64 2) (.held rc2)).put (.int .i64 3) (.held rc3)).put (.int .i64 4) (.held rc4)).put (.int .i64 5) (.held rc5)
/-- Block b is the map of the kinds. -/
def RcKinds (w : World) (b : Nat) : Prop := HMap w Tryz.prog 22 b 5 rcAll
theorem RcKinds.keep {w w' : World} {b : Nat} {S : List Nat} (h : RcKinds w b) (hk : Keeps w w' S) (hb : b ∉ S) : RcKinds w' b := HMap.keep h hk hb
theorem rcZero (w : World) : (zeroValue 55).run Tryz.prog w = .ok rc0 w := by kernel_rfl
set_option maxRecDepth 100000 in
set_option maxHeartbeats 1000000 in
theorem rcKinds_any (w : World) :
  Calls Tryz.prog 26 #[] w fun e w' => ∃ b, e = .returned (.map (some b)) ∧ RcKinds w' b ∧ Keeps w w' [] := by
 have hmm := @run_makeMap Tryz.prog
 go_enter Tryz.func26, Tryz.ntmps26
 go_wp2_with (first
  | (refine wpList_insert_held rfl (.tmp 1) (.const (.int .i64 1)) (.tmp 2) rfl (int_keyed undRk) undRkM rfl (World.ownsMap_made w _ _ _) (by unfold maxLen; omega) (.int .i64 1) rc1 (.int .i64 1) rfl rfl (keyOf_int_mk undRk (by decide)) ?_; intro w1 hm1 hg1; have HM1 := Lib.hid hm1; have HG1 := Lib.hid hg1; clear hm1 hg1)
  | (refine wpList_insert_held rfl (.tmp 1) (.const (.int .i64 2)) (.tmp 3) rfl (int_keyed undRk) undRkM rfl HM1.out (by unfold maxLen; omega) (.int .i64 2) rc2 (.int .i64 2) rfl rfl (keyOf_int_mk undRk (by decide)) ?_; intro w2 hm2 hg2; have HM2 := Lib.hid hm2; have HG2 := Lib.hid hg2; clear hm2 hg2)
  | (refine wpList_insert_held rfl (.tmp 1) (.const (.int .i64 3)) (.tmp 4) rfl (int_keyed undRk) undRkM rfl HM2.out (by unfold maxLen; omega) (.int .i64 3) rc3 (.int .i64 3) rfl rfl (keyOf_int_mk undRk (by decide)) ?_; intro w3 hm3 hg3; have HM3 := Lib.hid hm3; have HG3 := Lib.hid hg3; clear hm3 hg3)
  | (refine wpList_insert_held rfl (.tmp 1) (.const (.int .i64 4)) (.tmp 5) rfl (int_keyed undRk) undRkM rfl HM3.out (by unfold maxLen; omega) (.int .i64 4) rc4 (.int .i64 4) rfl rfl (keyOf_int_mk undRk (by decide)) ?_; intro w4 hm4 hg4; have HM4 := Lib.hid hm4; have HG4 := Lib.hid hg4; clear hm4 hg4)
  | (refine wpList_insert_held rfl (.tmp 1) (.const (.int .i64 5)) (.tmp 6) rfl (int_keyed undRk) undRkM rfl HM4.out (by unfold maxLen; omega) (.int .i64 5) rc5 (.int .i64 5) rfl rfl (keyOf_int_mk undRk (by decide)) ?_; intro w5 hm5 hg5; have HM5 := Lib.hid hm5; have HG5 := Lib.hid hg5; clear hm5 hg5))
 go_ret
 have k1 := Keeps.of_grown HG1.out
 have k2 := Keeps.of_grown HG2.out
 have k3 := Keeps.of_grown HG3.out
 have k4 := Keeps.of_grown HG4.out
 have k5 := Keeps.of_grown HG5.out
 simp only [Option.toList] at k1 k2 k3 k4 k5
 exact ⟨_, rfl, HM5.out, (((((Keeps.alloc w _).trans k1 (by simp)).trans k2 (by simp)).trans k3 (by simp)).trans k4 (by simp)).trans k5 (by simp)⟩
theorem rcKey (k : Int) (h1 : -9223372036854775808 ≤ k) (h2 : k ≤ 9223372036854775807) : keyOf Tryz.prog 22 (.int .i64 k) = some (.int .i64 k) := Maps.keyOf_int_mk undRk (wf64 k h1 h2)
def rcOf (k : Int) : Value := if k = 1 then rc1 else if k = 2 then rc2 else if k = 3 then rc3 else if k = 4 then rc4 else if k = 5 then rc5 else rc0
theorem RcKinds.look {W : World} {b : Nat} (h : RcKinds W b) (k : Int) (h1 : -9223372036854775808 ≤ k) (h2 : k ≤ 9223372036854775807) (c : Bool) :
  (Instr.lookup 56 (.map (some b)) (.int .i64 k) c).run Tryz.prog W = .ok (if c then .tuple #[rcOf k, .bool (rcIs k)] else rcOf k) W := by
 have there : ∀ v, (∀ zd, rcAll.atKey (.int .i64 k) zd = .held v) → (Instr.lookup 56 (.map (some b)) (.int .i64 k) c).run Tryz.prog W = .ok (if c then .tuple #[v, .bool true] else v) W := fun v hv =>
  HMap.there h (Maps.int_keyed undRk) undRkM (rcZero W) (rcKey k h1 h2) hv c
 by_cases e : 1 ≤ k ∧ k ≤ 5
 ·have hi : rcIs k = true := by unfold rcIs inN; simpa using e
  rw [hi]
  rcases (show k = 1 ∨ k = 2 ∨ k = 3 ∨ k = 4 ∨ k = 5 by omega) with rfl | rfl | rfl | rfl | rfl
  ·exact there rc1 fun _ => rfl
  ·exact there rc2 fun _ => rfl
  ·exact there rc3 fun _ => rfl
  ·exact there rc4 fun _ => rfl
  ·exact there rc5 fun _ => rfl
 ·have hi : rcIs k = false := by unfold rcIs inN; simp; omega
  have e0 : rcOf k = rc0 := by unfold rcOf; rw [if_neg (by omega), if_neg (by omega), if_neg (by omega), if_neg (by omega), if_neg (by omega)]
  rw [hi, e0]
  refine HMap.missing h (Maps.int_keyed undRk) undRkM (rcZero W) (rcKey k h1 h2) (fun zd => ?_) c
  have s1 : (Lit.int .i64 1).sameKey (.int .i64 k) = false := by simp [Lit.sameKey]; omega
  have s2 : (Lit.int .i64 2).sameKey (.int .i64 k) = false := by simp [Lit.sameKey]; omega
  have s3 : (Lit.int .i64 3).sameKey (.int .i64 k) = false := by simp [Lit.sameKey]; omega
  have s4 : (Lit.int .i64 4).sameKey (.int .i64 k) = false := by simp [Lit.sameKey]; omega
  have s5 : (Lit.int .i64 5).sameKey (.int .i64 k) = false := by simp [Lit.sameKey]; omega
  show (DataW.map [(Lit.int .i64 1, .held rc1), (Lit.int .i64 2, .held rc2), (Lit.int .i64 3, .held rc3), (Lit.int .i64 4, .held rc4), (Lit.int .i64 5, .held rc5)]).atKey _ zd = zd
  simp [DataW.atKey, List.find?, s1, s2, s3, s4, s5]
end Go.Proofs.YtfglgeoookbppaaGreatDoor

namespace Go.Proofs.YtfglgeoookbppaaGreatDoor
open Go.RowKit

/-- Bytes as cells. -/
def byC (l : List UInt8) : Array Value := (l.map byteV).toArray
theorem byC_set (l : List UInt8) (i : Nat) (x : UInt8) : (byC l).setIfInBounds i (byteV x) = byC (l.set i x) := by
 simp [byC, List.map_set]
theorem byC_get (l : List UInt8) {i : Nat} (h : i < l.length) : (byC l)[i]? = some (byteV l[i]) := by
 unfold byC
 rw [List.getElem?_toArray, List.getElem?_map, List.getElem?_eq_getElem h]
 rfl
theorem made_by (n : Nat) : madeCells (Value.int .u8 0).cells n = byC (List.replicate n 0) := by
 unfold madeCells byC
 refine Array.ext (by simp) fun i h1 h2 => ?_
 simp [byteV, Value.cells, Nat.mod_one]
theorem mk_by (w : World) (n : Nat) (hn : n ≤ 1000000) : (Instr.makeSlice 39 (.int .i64 (n : Int)) (.int .i64 (n : Int))).run Tryz.prog w = .ok (.slice (some ⟨w.heap.size, 0, none⟩) n n) (w.alloc (.cells (byC (List.replicate n 0)) 5)) := by
 obtain ⟨i0, hi, hz0, hz1, hz2⟩ := info_parts infoByte
 have := run_makeSlice (P := Tryz.prog) w 39 5 i0 (.int .u8 0) undBytes hi hz0 .i64 .i64 n n (by omega) (Int.le_refl _) (by rw [hz1]; omega) (by rw [hz2]; omega) (by omega)
 rw [hz1, Nat.mul_one, Int.toNat_natCast, made_by] at this
 exact this
theorem lies_by {w : World} {b : Nat} {l : List UInt8} (h : Row w b 5 (byC l)) : Lies w w.heap.size (some ⟨b, 0, none⟩) (l.map byteV) := fun _ => by
 refine ⟨b, 0, rfl, h.lt, fun i u hu => ?_⟩
 rw [Nat.zero_add, h.cell, ← hu]
 unfold byC
 rw [List.getElem?_toArray]
theorem str_cut (l : List UInt8) (a e : Nat) : (⟨l.toArray⟩ : ByteArray).extract a e = ⟨((l.drop a).take (e - a)).toArray⟩ := by
 apply ByteArray.ext
 rw [ByteArray.data_extract]
 apply Array.ext'
 simp
theorem str_get {s : List UInt8} {S : ByteArray} (hS : (⟨s.toArray⟩ : ByteArray) = S) {i : Nat} (hi : i < s.length) (h : i < S.size) : S[i]'h = s[i] := by
 subst hS
 rfl
/-- A text as bytes: a new block. -/
theorem conv_by (w : World) (l : List UInt8) : ∃ cap w', (convert 9 39 (.string ⟨l.toArray⟩)).run Tryz.prog w = .ok (.slice (some ⟨w.heap.size, 0, none⟩) l.length cap) w' ∧ Keeps w w' [] ∧ ∀ (j : Nat) (h : j < l.length), w'.cell? ⟨w.heap.size, j, none⟩ = some (byteV l[j]) ∧ w.heap.size < w'.heap.size := by
 refine ⟨_, _, Lib.run_convert_string_bytes w _ _ _ ⟨l.toArray⟩ undString undBytes undByte, ⟨rfl, rfl, rfl, by rw [Lib.bytesWorld_size]; omega, fun k hk _ => Lib.bytesWorld_at_old w _ _ k hk⟩, fun j h => ⟨?_, by rw [Lib.bytesWorld_size]; omega⟩⟩
 rw [Lib.bytesWorld_cell w 5 ⟨l.toArray⟩ j (show j < l.length from h)]
 simp [byteV, List.getD_eq_getElem?_getD, List.getElem?_eq_getElem h]
end Go.Proofs.YtfglgeoookbppaaGreatDoor
