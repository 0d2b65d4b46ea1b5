/- Package keys: kinds. A region that draws its order and fills one block that it makes itself: each operation met once. Package keys: what may be: the round's test. Package utf, plain: which bytes are a text that may be said. Package utf, plain: texts that may be said, put together and cut at bytes below 128. Package topic, plain: levels, names, filters, what meets. Package records, plain: rows, which may be, their keys. -/
import Derived.Test.YtfglgeoookbppaaGreatDoorPa1
import Derived.Test.YtfglgeoookbppaaGreatDoorPa2
import Derived.Test.YtfglgeoookbppaaGreatDoorPa0
import Derived.Laws.EntriesVeiled
import Derived.Lib.SplitLaws

namespace Go.Proofs.YtfglgeoookbppaaGreatDoor
open Go.RowKit Go.Maps

theorem undKind : Tryz.prog.underlying 60 = some (.int .i64) := by kernel_rfl
theorem undKinds : Tryz.prog.underlying 116 = some (.map 60 114) := by kernel_rfl
abbrev kFn (f : FuncId) : Value := .func (.func f) #[] #[]
def kInts : Value := .agg #[kFn 105, kFn 106, kFn 108, kFn 110]
def kFloats : Value := .agg #[kFn 112, kFn 113, kFn 115, kFn 118]
def kTexts : Value := .agg #[kFn 120, kFn 121, kFn 123, kFn 124]
def kAll : DataW Value := (((DataW.map []).put (.int .i64 1) (.held kInts)).put (.int .i64 2) (.held kFloats)).put (.int .i64 3) (.held kTexts)
/-- Block b is the map of the kinds. -/
def Kinds (w : World) (b : Nat) : Prop := HMap w Tryz.prog 60 b 3 kAll
theorem Kinds.keep {w w' : World} {b : Nat} {S : List Nat} (h : Kinds w b) (hk : Keeps w w' S) (hb : b ∉ S) : Kinds w' b := HMap.keep h hk hb
theorem kZero (w : World) : (zeroValue 114).run Tryz.prog w = .ok (.agg #[.nilFunc, .nilFunc, .nilFunc, .nilFunc]) w := by kernel_rfl

set_option maxRecDepth 100000 in
set_option maxHeartbeats 400000 in
theorem kKinds_any (w : World) :
  Calls Tryz.prog 86 #[] w fun e w' => ∃ b, e = .returned (.map (some b)) ∧ Kinds w' b ∧ Keeps w w' [] := by
 have hmm := @run_makeMap Tryz.prog
 go_enter Tryz.func86, Tryz.ntmps86
 go_wp2_with (first
  | (refine wpList_insert_held rfl (.tmp 1) (.const (.int .i64 1)) (.tmp 2) rfl (int_keyed undKind) undKinds rfl (World.ownsMap_made w _ _ _) (by unfold maxLen; omega) (.int .i64 1) kInts (.int .i64 1) rfl rfl (keyOf_int_mk undKind (by decide)) ?_; intro w1 hm1 hg1; have HM1 := Lib.hid hm1; have HG1 := Lib.hid hg1; clear hm1 hg1)
  | (refine wpList_insert_held rfl (.tmp 1) (.const (.int .i64 2)) (.tmp 3) rfl (int_keyed undKind) undKinds rfl HM1.out (by unfold maxLen; omega) (.int .i64 2) kFloats (.int .i64 2) rfl rfl (keyOf_int_mk undKind (by decide)) ?_; intro w2 hm2 hg2; have HM2 := Lib.hid hm2; have HG2 := Lib.hid hg2; clear hm2 hg2)
  | (refine wpList_insert_held rfl (.tmp 1) (.const (.int .i64 3)) (.tmp 4) rfl (int_keyed undKind) undKinds rfl HM2.out (by unfold maxLen; omega) (.int .i64 3) kTexts (.int .i64 3) rfl rfl (keyOf_int_mk undKind (by decide)) ?_; intro w3 hm3 hg3; have HM3 := Lib.hid hm3; have HG3 := Lib.hid hg3; clear hm3 hg3))
 go_ret
 have k1 := Keeps.of_grown HG1.out
 have k2 := Keeps.of_grown HG2.out
 have k3 := Keeps.of_grown HG3.out
 simp only [Option.toList] at k1 k2 k3
 exact ⟨_, rfl, HM3.out, (((Keeps.alloc w _).trans k1 (by simp)).trans k2 (by simp)).trans k3 (by simp)⟩
end Go.Proofs.YtfglgeoookbppaaGreatDoor

namespace Go.Proofs.YtfglgeoookbppaaGreatDoor
open Go.RowKit

/-- All that was there stays, but that a block from B on may turn from O1 to O2. -/
structure KeepsF (B : Nat) (O1 O2 : Obj) (w w' : World) : Prop where
 os : w'.os = w.os
 tape : w'.tape = w.tape
 output : w'.output = w.output
 size : w.heap.size ≤ w'.heap.size
 block : ∀ k, k < w.heap.size → w'.heap[k]? = w.heap[k]? ∨ (B ≤ k ∧ w.heap[k]? = some O1 ∧ w'.heap[k]? = some O2)
section
variable {B : Nat} {O1 O2 : Obj} {w w' w'' : World}
theorem KeepsF.of (h : Keeps w w' []) : KeepsF B O1 O2 w w' := ⟨h.os, h.tape, h.output, h.size, fun k hk => .inl (h.block k hk (by simp))⟩
theorem KeepsF.refl (w : World) : KeepsF B O1 O2 w w := .of (Keeps.refl _ _)
theorem KeepsF.trans (h : KeepsF B O1 O2 w w') (k : KeepsF B O1 O2 w' w'') : KeepsF B O1 O2 w w'' :=
 ⟨k.os.trans h.os, k.tape.trans h.tape, k.output.trans h.output, Nat.le_trans h.size k.size, fun i hi => by
  rcases h.block i hi with h1 | ⟨h1, h2, h3⟩ <;> rcases k.block i (Nat.lt_of_lt_of_le hi h.size) with k1 | ⟨k1, k2, k3⟩
  ·exact .inl (k1.trans h1)
  ·exact .inr ⟨k1, h1 ▸ k2, k3⟩
  ·exact .inr ⟨h1, h2, k1.trans h3⟩
  ·exact .inr ⟨h1, h2, k3⟩⟩
theorem KeepsF.keeps (h : KeepsF w.heap.size O1 O2 w w') : Keeps w w' [] := ⟨h.os, h.tape, h.output, h.size, fun k hk _ => by
 rcases h.block k hk with h1 | ⟨h1, _, _⟩
 ·exact h1
 ·omega⟩
theorem KeepsF.slot (h : KeepsF B O1 O2 w w') {b : Nat} (hb : w.heap[b]? = some O1 ∨ w.heap[b]? = some O2) : w'.heap[b]? = some O1 ∨ w'.heap[b]? = some O2 := by
 have hlt : b < w.heap.size := by
  rcases hb with hb | hb <;> exact (Array.getElem?_eq_some_iff.1 hb).1
 rcases h.block b hlt with h1 | ⟨_, _, h1⟩
 ·rw [h1]; exact hb
 ·exact .inr h1
theorem KeepsF.full (h : KeepsF B O1 O2 w w') {b : Nat} (hb : w.heap[b]? = some O2) : w'.heap[b]? = some O2 := by
 rcases h.block b (Array.getElem?_eq_some_iff.1 hb).1 with h1 | ⟨_, _, h1⟩
 ·rw [h1]; exact hb
 ·exact h1
theorem KeepsF.other (h : KeepsF B O1 O2 w w') {b : Nat} {o : Obj} (hb : w.heap[b]? = some o) (hne : o ≠ O1) : w'.heap[b]? = some o := by
 rcases h.block b (Array.getElem?_eq_some_iff.1 hb).1 with h1 | ⟨_, h2, _⟩
 ·rw [h1]; exact hb
 ·rw [hb] at h2
  injection h2 with h2
  exact absurd h2 hne
theorem KeepsF.fill {b : Nat} (hk : Keeps w w' [b]) (hB : B ≤ b) (h1 : w.heap[b]? = some O1 ∨ w.heap[b]? = some O2) (h2 : w'.heap[b]? = some O2) : KeepsF B O1 O2 w w' :=
 ⟨hk.os, hk.tape, hk.output, hk.size, fun k hlt => by
  by_cases hkb : k = b
  ·subst hkb
   rcases h1 with h1 | h1
   ·exact .inr ⟨hB, h1, h2⟩
   ·exact .inl (h2.trans h1.symm)
  ·exact .inl (hk.block k hlt (by simpa using hkb))⟩
end
section
variable {P : Program} {B : Nat} {O1 O2 : Obj}
theorem loosef_calls {W : World} {φ : Value → World → Prop} {f : FuncId} {args : Array Value} (h : Calls P f args W (fun e w'' => ∃ v, e = .returned v ∧ Keeps W w'' [] ∧ φ v w'')) :
  looseUpon P (KeepsF B O1 O2) W φ (.ok (.enter f args) W) := ⟨KeepsF.refl _, h.mono fun _ _ ⟨v, he, hk, hv⟩ => ⟨v, he, .of hk, hv⟩⟩
theorem loosef_has {W : World} {φ φ' : Value → World → Prop} {f : FuncId} {args : Array Value} (hφ : Hid (∀ u w, φ u w → φ' u w)) (h : Calls P f args W (fun e w'' => ∃ v, e = .returned v ∧ Keeps W w'' [] ∧ φ v w'')) :
  looseUpon P (KeepsF B O1 O2) W φ' (.ok (.enter f args) W) := ⟨KeepsF.refl _, h.mono fun _ _ ⟨v, he, hk, hv⟩ => ⟨v, he, .of hk, hφ.out _ _ hv⟩⟩
theorem loosef_value {W W' : World} {φ φ' : Value → World → Prop} {v : Value} (hφ : Hid (∀ u w, φ u w → φ' u w)) (hk : KeepsF B O1 O2 W W') (h : φ v W') : looseUpon P (KeepsF B O1 O2) W φ' (.ok (.value v) W') := ⟨hk, hφ.out _ _ h⟩
theorem wp_region_fills {id : Nat} {Q : Exit → Act → World → Prop} {a : Act} {w : World} {l : List Oper} (O1 O2 : Obj) (n : Nat) (hm : P.follows .mixedOrders = true) (hn : a.tmps.size = n) (hB : looseB n l.toArray = true)
  (h : wpLoose P (KeepsF w.heap.size O1 O2) w l.toArray a (fun env => ∀ W vals, KeepsF w.heap.size O1 O2 w W → knowsAll (KeepsF w.heap.size O1 O2) w vals W env → Q .normal (fill vals env a) W) l []) : (Code.region id l.toArray true).wp P Q a w :=
 wp_region_loose (KeepsF w.heap.size O1 O2) w n hm hn hB (fun _ => KeepsF.refl _) (fun _ _ _ h k => h.trans k) (.of (Keeps.drew _)) h
end
end Go.Proofs.YtfglgeoookbppaaGreatDoor

namespace Go.Proofs.YtfglgeoookbppaaGreatDoor
open Go.RowKit

theorem wf64 (k : Int) (h1 : -9223372036854775808 ≤ k) (h2 : k ≤ 9223372036854775807) : (Lit.int .i64 k).wf = true := by
 have m1 : IntKind.i64.min = -9223372036854775808 := by decide
 have m2 : IntKind.i64.max = 9223372036854775807 := by decide
 show (decide (IntKind.i64.min ≤ k) && decide (k ≤ IntKind.i64.max)) = true
 rw [m1, m2]
 simp [h1, h2]
theorem undIntKey (k : Int) (h1 : -9223372036854775808 ≤ k) (h2 : k ≤ 9223372036854775807) : keyOf Tryz.prog 60 (.int .i64 k) = some (.int .i64 k) := Maps.keyOf_int_mk undKind (wf64 k h1 h2)
def kNone : Value := .agg #[.nilFunc, .nilFunc, .nilFunc, .nilFunc]
def kIs (k : Int) : Bool := k == 1 || k == 2 || k == 3
def kOfKind (k : Int) : Value := if k = 1 then kInts else if k = 2 then kFloats else if k = 3 then kTexts else kNone
theorem Kinds.look {W : World} {b : Nat} (h : Kinds W b) (k : Int) (h1 : -9223372036854775808 ≤ k) (h2 : k ≤ 9223372036854775807) (c : Bool) :
  (Instr.lookup 116 (.map (some b)) (.int .i64 k) c).run Tryz.prog W = .ok (if c then .tuple #[kOfKind k, .bool (kIs k)] else kOfKind k) W := by
 unfold kOfKind kIs
 by_cases e1 : k = 1
 ·subst e1
  exact HMap.there h (Maps.int_keyed undKind) undKinds (kZero W) (undIntKey 1 h1 h2) (fun _ => rfl) c
 ·by_cases e2 : k = 2
  ·subst e2
   exact HMap.there h (Maps.int_keyed undKind) undKinds (kZero W) (undIntKey 2 h1 h2) (fun _ => rfl) c
  ·by_cases e3 : k = 3
   ·subst e3
    exact HMap.there h (Maps.int_keyed undKind) undKinds (kZero W) (undIntKey 3 h1 h2) (fun _ => rfl) c
   ·rw [if_neg e1, if_neg e2, if_neg e3]
    have hb : (k == 1 || k == 2 || k == 3) = false := by simp [e1, e2, e3]
    rw [hb]
    refine HMap.missing h (Maps.int_keyed undKind) undKinds (kZero W) (undIntKey k h1 h2) (fun zd => ?_) c
    have s1 : (Lit.int .i64 1).sameKey (.int .i64 k) = false := by simp [Lit.sameKey]; exact fun e => e1 e.symm
    have s2 : (Lit.int .i64 2).sameKey (.int .i64 k) = false := by simp [Lit.sameKey]; exact fun e => e2 e.symm
    have s3 : (Lit.int .i64 3).sameKey (.int .i64 k) = false := by simp [Lit.sameKey]; exact fun e => e3 e.symm
    show (DataW.map [(Lit.int .i64 1, .held kInts), (Lit.int .i64 2, .held kFloats), (Lit.int .i64 3, .held kTexts)]).atKey _ zd = zd
    simp [DataW.atKey, List.find?, s1, s2, s3]
theorem Kinds.fills {B : Nat} {c1 : Array Value} {ty : TypeId} {fz : Nat × Nat} {O2 : Obj} {W W' : World} {b : Nat} (h : Kinds W b) (hk : KeepsF B (.cells c1 ty fz) O2 W W') : Kinds W' b := by
 obtain ⟨es, clock, hb', F, hs, hD⟩ := h
 exact ⟨es, clock, hk.other hb' (by simp), F, hs, hD⟩
/-- A kind's block, new and filled. -/
def kO1 : Obj := .cells #[.nilFunc, .nilFunc, .nilFunc, .nilFunc] 114 (0, 0)
def kO2 (f1 f2 f3 f4 : Value) : Obj := .cells #[f1, f2, f3, f4] 114 (0, 0)
theorem kFill {B : Nat} {f1 f2 f3 f4 : Value} {W : World} {b : Nat} (hB : B ≤ b) (h : W.heap[b]? = some kO1 ∨ W.heap[b]? = some (kO2 f1 f2 f3 f4)) :
  KeepsF B kO1 (kO2 f1 f2 f3 f4) W ((((W.setCell ⟨b, 0, none⟩ f1).setCell ⟨b, 1, none⟩ f2).setCell ⟨b, 2, none⟩ f3).setCell ⟨b, 3, none⟩ f4) ∧
  ((((W.setCell ⟨b, 0, none⟩ f1).setCell ⟨b, 1, none⟩ f2).setCell ⟨b, 2, none⟩ f3).setCell ⟨b, 3, none⟩ f4).heap[b]? = some (kO2 f1 f2 f3 f4) := by
 have hk : Keeps W ((((W.setCell ⟨b, 0, none⟩ f1).setCell ⟨b, 1, none⟩ f2).setCell ⟨b, 2, none⟩ f3).setCell ⟨b, 3, none⟩ f4) [b] :=
  (((Keeps.setCell _ _ _).trans (Keeps.setCell _ _ _) (by simp)).trans (Keeps.setCell _ _ _) (by simp)).trans (Keeps.setCell _ _ _) (by simp)
 have hr : Row ((((W.setCell ⟨b, 0, none⟩ f1).setCell ⟨b, 1, none⟩ f2).setCell ⟨b, 2, none⟩ f3).setCell ⟨b, 3, none⟩ f4) b 114 #[f1, f2, f3, f4] := by
  rcases h with h | h
  ·exact ((((show Row W b 114 #[.nilFunc, .nilFunc, .nilFunc, .nilFunc] from h).store 0 f1).store 1 f2).store 2 f3).store 3 f4
  ·exact ((((show Row W b 114 #[f1, f2, f3, f4] from h).store 0 f1).store 1 f2).store 2 f3).store 3 f4
 exact ⟨KeepsF.fill hk hB h hr, hr⟩
theorem kCell {f1 f2 f3 f4 : Value} {W : World} {b : Nat} (h : W.heap[b]? = some kO1 ∨ W.heap[b]? = some (kO2 f1 f2 f3 f4)) :
  ∃ v1 v2 v3 v4, W.cell? ⟨b, 0, none⟩ = some v1 ∧ W.cell? ⟨b, 1, none⟩ = some v2 ∧ W.cell? ⟨b, 2, none⟩ = some v3 ∧ W.cell? ⟨b, 3, none⟩ = some v4 ∧ ∀ i, W.frozen? ⟨b, i, none⟩ = false := by
 rcases h with h | h
 ·have hr : Row W b 114 #[.nilFunc, .nilFunc, .nilFunc, .nilFunc] := h
  exact ⟨_, _, _, _, hr.cell 0, hr.cell 1, hr.cell 2, hr.cell 3, hr.frozen⟩
 ·have hr : Row W b 114 #[f1, f2, f3, f4] := h
  exact ⟨_, _, _, _, hr.cell 0, hr.cell 1, hr.cell 2, hr.cell 3, hr.frozen⟩
end Go.Proofs.YtfglgeoookbppaaGreatDoor

namespace Go.Proofs.YtfglgeoookbppaaGreatDoor

def u8 (n : Nat) : UInt8 := UInt8.ofNat n
/-- The bytes of a rune. -/
def uRaw (r : Nat) : List UInt8 :=
 if r < 128 then [u8 r]
 else if r < 2048 then [u8 (192 + r / 64), u8 (128 + r % 64)]
 else if r < 65536 then [u8 (224 + r / 4096), u8 (128 + r / 64 % 64), u8 (128 + r % 64)]
 else [u8 (240 + r / 262144), u8 (128 + r / 4096 % 64), u8 (128 + r / 64 % 64), u8 (128 + r % 64)]
/-- A rune that may be, and is not 0. -/
def uMay (r : Nat) : Prop := 0 < r ∧ (r < 55296 ∨ (57343 < r ∧ r ≤ 1114111))
instance (r : Nat) : Decidable (uMay r) := by unfold uMay; infer_instance
/-- Six bits more. -/
def uMore (r : Nat) (l : List UInt8) : Nat := l.foldl (fun r x => 64 * r + x.toNat % 64) r
/-- The lead of a rune of so many bytes, and what is above it. -/
def uLead (n : Nat) : Nat := if n = 2 then 192 else if n = 3 then 224 else if n = 4 then 240 else 0
def uMost (n : Nat) : Nat := if n = 2 then 224 else if n = 3 then 240 else if n = 4 then 248 else 128
/-- The rune of so many bytes, read in the reference's way. -/
def uDec (l : List UInt8) : Nat := match l with
 | [] => 0
 | a :: t => uMore (a.toNat - uLead l.length) t
/-- Bytes are a rune's that may be. -/
def uHit (l : List UInt8) : Prop := ∃ r, uMay r ∧ uRaw r = l
theorem toNat_u8 {n : Nat} (h : n < 256) : (u8 n).toNat = n := by
 unfold u8
 rw [UInt8.toNat_ofNat']
 omega
theorem uRaw_len (r : Nat) : (uRaw r).length = if r < 128 then 1 else if r < 2048 then 2 else if r < 65536 then 3 else 4 := by
 unfold uRaw
 split
 ·rfl
 ·split
  ·rfl
  ·split <;> rfl
theorem uDec_raw {r : Nat} (h : uMay r) : uDec (uRaw r) = r := by
 obtain ⟨h0, h1⟩ := h
 unfold uRaw
 split
 ·rename_i h2
  simp only [uDec, uMore, uLead, List.length_cons, List.length_nil, List.foldl_nil]
  rw [toNat_u8 (by omega)]
  simp
 ·split
  ·simp only [uDec, uMore, uLead, List.length_cons, List.length_nil, List.foldl_cons, List.foldl_nil]
   rw [toNat_u8 (by omega), toNat_u8 (by omega)]
   simp
   omega
  ·split
   ·simp only [uDec, uMore, uLead, List.length_cons, List.length_nil, List.foldl_cons, List.foldl_nil]
    rw [toNat_u8 (by omega), toNat_u8 (by omega), toNat_u8 (by omega)]
    simp
    omega
   ·simp only [uDec, uMore, uLead, List.length_cons, List.length_nil, List.foldl_cons, List.foldl_nil]
    rw [toNat_u8 (by omega), toNat_u8 (by omega), toNat_u8 (by omega), toNat_u8 (by omega)]
    simp
    omega
theorem uRaw_inj {r s : Nat} (hr : uMay r) (hs : uMay s) (h : uRaw r = uRaw s) : r = s := by
 rw [← uDec_raw hr, ← uDec_raw hs, h]
/-- The lead byte of a rune. -/
theorem uRaw_lead {r : Nat} (h : uMay r) : ∃ a t, uRaw r = a :: t ∧ uLead (uRaw r).length ≤ a.toNat ∧ a.toNat < uMost (uRaw r).length := by
 obtain ⟨h0, h1⟩ := h
 unfold uRaw
 split
 ·refine ⟨_, _, rfl, ?_⟩
  rw [toNat_u8 (by omega)]
  simp [uLead, uMost]; omega
 ·split
  ·refine ⟨_, _, rfl, ?_⟩
   rw [toNat_u8 (by omega)]
   simp [uLead, uMost]; omega
  ·split
   ·refine ⟨_, _, rfl, ?_⟩
    rw [toNat_u8 (by omega)]
    simp [uLead, uMost]; omega
   ·refine ⟨_, _, rfl, ?_⟩
    rw [toNat_u8 (by omega)]
    simp [uLead, uMost]; omega
theorem uHit_iff {l : List UInt8} : uHit l ↔ uMay (uDec l) ∧ uRaw (uDec l) = l := by
 constructor
 ·rintro ⟨r, h1, rfl⟩
  rw [uDec_raw h1]
  exact ⟨h1, rfl⟩
 ·rintro ⟨h1, h2⟩
  exact ⟨_, h1, h2⟩
instance (l : List UInt8) : Decidable (uHit l) := decidable_of_iff _ uHit_iff.symm
theorem uHit_len {l : List UInt8} (h : uHit l) : 1 ≤ l.length ∧ l.length ≤ 4 := by
 obtain ⟨r, _, rfl⟩ := h
 rw [uRaw_len]
 split
 ·omega
 ·split
  ·omega
  ·split <;> omega
theorem uHit_lead {l : List UInt8} (h : uHit l) : ∃ a t, l = a :: t ∧ uLead l.length ≤ a.toNat ∧ a.toNat < uMost l.length := by
 obtain ⟨r, h1, rfl⟩ := h
 exact uRaw_lead h1
/-- How many bytes the first rune has; 0: there is none. -/
def uFirst (s : List UInt8) : Nat :=
 if 1 ≤ s.length ∧ uHit (s.take 1) then 1 else if 2 ≤ s.length ∧ uHit (s.take 2) then 2 else if 3 ≤ s.length ∧ uHit (s.take 3) then 3 else if 4 ≤ s.length ∧ uHit (s.take 4) then 4 else 0
theorem uFirst_len (s : List UInt8) : uFirst s ≤ s.length ∧ uFirst s ≤ 4 := by
 unfold uFirst
 split
 ·omega
 ·split
  ·omega
  ·split
   ·omega
   ·split <;> omega
theorem uFirst_hit {s : List UInt8} {n : Nat} (h1 : 1 ≤ n) (h4 : n ≤ 4) (hm : ∀ k, 1 ≤ k → k < n → ¬ (k ≤ s.length ∧ uHit (s.take k))) (hn : n ≤ s.length ∧ uHit (s.take n)) : uFirst s = n := by
 unfold uFirst
 rcases (show n = 1 ∨ n = 2 ∨ n = 3 ∨ n = 4 by omega) with rfl | rfl | rfl | rfl
 ·rw [if_pos hn]
 ·rw [if_neg (hm 1 (by omega) (by omega)), if_pos hn]
 ·rw [if_neg (hm 1 (by omega) (by omega)), if_neg (hm 2 (by omega) (by omega)), if_pos hn]
 ·rw [if_neg (hm 1 (by omega) (by omega)), if_neg (hm 2 (by omega) (by omega)), if_neg (hm 3 (by omega) (by omega)), if_pos hn]
theorem uFirst_none {s : List UInt8} (hm : ∀ k, 1 ≤ k → k < 5 → ¬ (k ≤ s.length ∧ uHit (s.take k))) : uFirst s = 0 := by
 unfold uFirst
 rw [if_neg (hm 1 (by omega) (by omega)), if_neg (hm 2 (by omega) (by omega)), if_neg (hm 3 (by omega) (by omega)), if_neg (hm 4 (by omega) (by omega))]
theorem uFirst_pos {s : List UInt8} (h : uFirst s ≠ 0) : uHit (s.take (uFirst s)) := by
 unfold uFirst at h ⊢
 split
 ·rename_i h1; exact h1.2
 ·split
  ·rename_i h1; exact h1.2
  ·split
   ·rename_i h1; exact h1.2
   ·split
    ·rename_i h1; exact h1.2
    ·rename_i a b c d
     rw [if_neg a, if_neg b, if_neg c, if_neg d] at h
     exact absurd rfl h
/-- May a text be said? -/
def uGoodF : Nat → List UInt8 → Bool
 | 0, s => s.isEmpty
 | f + 1, s => if s.isEmpty then true else if uFirst s = 0 then false else uGoodF f (s.drop (uFirst s))
def uGood (s : List UInt8) : Bool := uGoodF s.length s
theorem uGoodF_more {f : Nat} {s : List UInt8} (h : s.length ≤ f) : uGoodF (f + 1) s = uGoodF f s := by
 induction f generalizing s with
 | zero =>
  obtain rfl : s = [] := List.length_eq_zero_iff.1 (by omega)
  rfl
 | succ f ih =>
  show (if s.isEmpty then true else if uFirst s = 0 then false else uGoodF (f + 1) (s.drop (uFirst s))) = (if s.isEmpty then true else if uFirst s = 0 then false else uGoodF f (s.drop (uFirst s)))
  by_cases h0 : uFirst s = 0
  ·rw [if_pos h0, if_pos h0]
  ·rw [if_neg h0, if_neg h0, ih (by rw [List.length_drop]; omega)]
theorem uGoodF_any {f : Nat} {s : List UInt8} (h : s.length ≤ f) : uGoodF f s = uGood s := by
 obtain ⟨d, rfl⟩ : ∃ d, f = s.length + d := ⟨f - s.length, by omega⟩
 induction d with
 | zero => rfl
 | succ d ih => rw [← Nat.add_assoc, uGoodF_more (by omega), ih (by omega)]
theorem uGood_nil : uGood [] = true := rfl
theorem uGood_step {s : List UInt8} (h : s ≠ []) : uGood s = if uFirst s = 0 then false else uGood (s.drop (uFirst s)) := by
 have hl : s.length ≠ 0 := fun e => h (List.length_eq_zero_iff.1 e)
 rw [← uGoodF_any (Nat.le_succ s.length), uGoodF, if_neg (by cases s <;> simp at h ⊢)]
 split
 ·rfl
 ·rw [uGoodF_any (by rw [List.length_drop]; omega)]
end Go.Proofs.YtfglgeoookbppaaGreatDoor

namespace Go.Proofs.YtfglgeoookbppaaGreatDoor

theorem uHit_ascii {a : UInt8} (h0 : 0 < a.toNat) (h : a.toNat < 128) : uHit [a] := ⟨a.toNat, ⟨h0, .inl (by omega)⟩, by
 unfold uRaw
 rw [if_pos h]
 congr 1
 unfold u8
 exact UInt8.ofNat_toNat⟩
theorem uFirst_ascii {a : UInt8} {s : List UInt8} (h0 : 0 < a.toNat) (h : a.toNat < 128) : uFirst (a :: s) = 1 :=
 uFirst_hit (by omega) (by omega) (fun k h1 h2 => by omega) ⟨by simp, by simpa using uHit_ascii h0 h⟩
theorem uGood_ascii {a : UInt8} {s : List UInt8} (h0 : 0 < a.toNat) (h : a.toNat < 128) : uGood (a :: s) = uGood s := by
 rw [uGood_step (by simp), uFirst_ascii h0 h, if_neg (by omega)]
 rfl
theorem uFirst_more {s t : List UInt8} (h : uFirst s ≠ 0) : uFirst (s ++ t) = uFirst s := by
 have hl := uFirst_len s
 obtain ⟨n, hn⟩ : ∃ n, uFirst s = n := ⟨_, rfl⟩
 rw [hn] at h hl ⊢
 have hh : uHit (s.take n) := by rw [← hn]; exact uFirst_pos (by rw [hn]; exact h)
 refine uFirst_hit (by omega) hl.2 (fun k h1 h2 hk => ?_) ⟨by rw [List.length_append]; omega, by rw [List.take_append_of_le_length hl.1]; exact hh⟩
 rw [List.take_append_of_le_length (by omega)] at hk
 have : uFirst s ≤ k := by
  unfold uFirst
  rcases (show k = 1 ∨ k = 2 ∨ k = 3 by omega) with rfl | rfl | rfl
  ·rw [if_pos ⟨by omega, hk.2⟩]; omega
  ·split
   ·omega
   ·rw [if_pos ⟨by omega, hk.2⟩]; omega
  ·split
   ·omega
   ·split
    ·omega
    ·rw [if_pos ⟨by omega, hk.2⟩]; omega
 omega
theorem uGood_append {s t : List UInt8} (h : uGood s = true) : uGood (s ++ t) = uGood t := by
 obtain ⟨m, hm⟩ : ∃ m, s.length ≤ m := ⟨_, Nat.le_refl _⟩
 induction m generalizing s with
 | zero => obtain rfl : s = [] := List.length_eq_zero_iff.1 (by omega); rfl
 | succ m ih =>
  by_cases hs : s = []
  ·subst hs; rfl
  ·have hp := h
   rw [uGood_step hs] at hp
   by_cases h0 : uFirst s = 0
   ·rw [if_pos h0] at hp; cases hp
   ·rw [if_neg h0] at hp
    rw [uGood_step (by simp [hs]), uFirst_more h0, if_neg h0, List.drop_append_of_le_length (uFirst_len s).1]
    exact ih hp (by rw [List.length_drop]; omega)
/-- Bytes behind the first one of a rune are no ASCII. -/
theorem uHit_tail {l : List UInt8} (h : uHit l) {i : Nat} {a : UInt8} (hi : 1 ≤ i) (ha : l[i]? = some a) : 128 ≤ a.toNat := by
 obtain ⟨r, ⟨h0, h1⟩, rfl⟩ := h
 have k : ∀ n : Nat, 128 ≤ (u8 (128 + n % 64)).toNat := fun n => by rw [toNat_u8 (by omega)]; omega
 unfold uRaw at ha
 split at ha
 ·rw [List.getElem?_eq_none (by simp; omega)] at ha; cases ha
 ·split at ha
  ·rcases (show i = 1 ∨ 2 ≤ i by omega) with rfl | hi2
   ·simp at ha; rw [← ha]; exact k _
   ·rw [List.getElem?_eq_none (by simp; omega)] at ha; cases ha
  ·split at ha
   ·rcases (show i = 1 ∨ i = 2 ∨ 3 ≤ i by omega) with rfl | rfl | hi2
    ·simp at ha; rw [← ha]; exact k _
    ·simp at ha; rw [← ha]; exact k _
    ·rw [List.getElem?_eq_none (by simp; omega)] at ha; cases ha
   ·rcases (show i = 1 ∨ i = 2 ∨ i = 3 ∨ 4 ≤ i by omega) with rfl | rfl | rfl | hi2
    ·simp at ha; rw [← ha]; exact k _
    ·simp at ha; rw [← ha]; exact k _
    ·simp at ha; rw [← ha]; exact k _
    ·rw [List.getElem?_eq_none (by simp; omega)] at ha; cases ha
theorem uFirst_cut {s t : List UInt8} {a : UInt8} (ha : a.toNat < 128) (hs : s ≠ []) (h : uFirst (s ++ a :: t) ≠ 0) : uFirst (s ++ a :: t) = uFirst s := by
 have hp := uFirst_pos h
 obtain ⟨n, hn⟩ : ∃ n, uFirst (s ++ a :: t) = n := ⟨_, rfl⟩
 have hsl : 1 ≤ s.length := by
  have := mt List.length_eq_zero_iff.1 hs
  omega
 have hns : n ≤ s.length := by
  rcases Nat.lt_or_ge s.length n with hlt | hge
  ·rw [hn] at hp
   have := uHit_tail hp (i := s.length) (a := a) hsl (by rw [List.getElem?_take_of_lt hlt]; simp)
   omega
  ·exact hge
 rw [hn] at hp h
 rw [List.take_append_of_le_length hns] at hp
 have h4 := uHit_len hp
 rw [List.length_take] at h4
 have hs0 : uFirst s ≠ 0 := by
  intro e
  have hl := uFirst_len (s ++ a :: t)
  unfold uFirst at e
  have : n = 1 ∨ n = 2 ∨ n = 3 ∨ n = 4 := by omega
  rcases this with rfl | rfl | rfl | rfl
  ·rw [if_pos ⟨by omega, hp⟩] at e; omega
  ·split at e
   ·omega
   ·rw [if_pos ⟨by omega, hp⟩] at e; omega
  ·split at e
   ·omega
   ·split at e
    ·omega
    ·rw [if_pos ⟨by omega, hp⟩] at e; omega
  ·split at e
   ·omega
   ·split at e
    ·omega
    ·split at e
     ·omega
     ·rw [if_pos ⟨by omega, hp⟩] at e; omega
 exact uFirst_more hs0
theorem uGood_cut {s t : List UInt8} {a : UInt8} (h0 : 0 < a.toNat) (ha : a.toNat < 128) (h : uGood (s ++ a :: t) = true) : uGood s = true ∧ uGood t = true := by
 obtain ⟨m, hm⟩ : ∃ m, s.length ≤ m := ⟨_, Nat.le_refl _⟩
 induction m generalizing s with
 | zero =>
  obtain rfl : s = [] := List.length_eq_zero_iff.1 (by omega)
  rw [List.nil_append, uGood_ascii h0 ha] at h
  exact ⟨rfl, h⟩
 | succ m ih =>
  by_cases hs : s = []
  ·subst hs
   rw [List.nil_append, uGood_ascii h0 ha] at h
   exact ⟨rfl, h⟩
  ·rw [uGood_step (by simp)] at h
   by_cases e : uFirst (s ++ a :: t) = 0
   ·rw [if_pos e] at h; cases h
   ·rw [if_neg e] at h
    have e2 := uFirst_cut ha hs e
    rw [e2] at e h
    rw [List.drop_append_of_le_length (uFirst_len s).1] at h
    have := ih h (by rw [List.length_drop]; omega)
    rw [uGood_step hs, if_neg e]
    exact this
theorem uGood_all_ascii {s : List UInt8} (h : ∀ a ∈ s, 0 < a.toNat ∧ a.toNat < 128) : uGood s = true := by
 induction s with
 | nil => rfl
 | cons a s ih =>
  rw [uGood_ascii (h a (by simp)).1 (h a (by simp)).2]
  exact ih fun b hb => h b (List.mem_cons_of_mem _ hb)
end Go.Proofs.YtfglgeoookbppaaGreatDoor

namespace Go.Proofs.YtfglgeoookbppaaGreatDoor
open Go

/-- The levels of a text. -/
def tLev : List UInt8 → List (List UInt8)
 | [] => [[]]
 | a :: s => if a = 47 then [] :: tLev s else match tLev s with
  | [] => [[a]]
  | l :: ls => (a :: l) :: ls
theorem tLev_ne (s : List UInt8) : tLev s ≠ [] := by
 cases s with
 | nil => simp [tLev]
 | cons a s =>
  unfold tLev
  split
  ·simp
  ·split <;> simp
theorem tLev_other {a : UInt8} {s : List UInt8} (h : a ≠ 47) : ∃ l ls, tLev s = l :: ls ∧ tLev (a :: s) = (a :: l) :: ls := by
 cases hs : tLev s with
 | nil => exact absurd hs (tLev_ne s)
 | cons l ls => exact ⟨l, ls, rfl, by rw [tLev, if_neg h, hs]⟩
theorem index_one (a : UInt8) (s : List UInt8) : Lib.index (a :: s) [47] = if a = 47 then 0 else if Lib.index s [47] = -1 then -1 else Lib.index s [47] + 1 := by
 rw [Lib.index]
 by_cases h : a = 47
 ·subst h
  simp [List.isPrefixOf]
 ·have h' : ([47] : List UInt8).isPrefixOf (a :: s) = false := by
   have : ((47 : UInt8) == a) = false := by simpa using fun e => h e.symm
   simp [List.isPrefixOf, this]
  rw [h', if_neg Bool.false_ne_true, if_neg h]
  by_cases hi : Lib.index s [47] = -1
  ·rw [if_pos (beq_iff_eq.2 hi), if_pos hi]
  ·rw [if_neg (fun e => hi (beq_iff_eq.1 e)), if_neg hi]
theorem split_lev (s : List UInt8) : Lib.split s [47] = tLev s := by
 induction s with
 | nil => rfl
 | cons a s ih =>
  unfold Lib.split at ih ⊢
  by_cases h : a = 47
  ·subst h
   rw [Lib.count_cons_eq, Nat.add_comm, Lib.splitK, tLev, if_pos rfl, index_one, if_pos rfl, ← ih]
   rfl
  ·rw [Lib.count_cons_ne a 47 s h]
   obtain ⟨l, ls, e1, e2⟩ := tLev_other (s := s) h
   rw [e2]
   rw [e1] at ih
   cases hk : Lib.count s [47] with
   | zero =>
    rw [hk, Lib.splitK] at ih
    rw [Lib.splitK]
    injection ih with i1 i2
    rw [i1, i2]
   | succ k =>
    rw [hk, Lib.splitK] at ih
    rw [Lib.splitK, index_one, if_neg h]
    have hge := Lib.index_ge s [47]
    by_cases hi : Lib.index s [47] = -1
    ·rw [if_pos (beq_iff_eq.2 hi)] at ih
     rw [if_pos hi, if_pos (show ((-1 : Int) == -1) = true from rfl)]
     injection ih with i1 i2
     rw [i1, i2]
    ·rw [if_neg (fun e => hi (beq_iff_eq.1 e))] at ih
     rw [if_neg hi, if_neg (fun e => by have := beq_iff_eq.1 e; omega)]
     injection ih with i1 i2
     obtain ⟨m, hm⟩ : ∃ m : Nat, Lib.index s [47] = m := ⟨(Lib.index s [47]).toNat, by omega⟩
     rw [hm] at i1 i2 ⊢
     have e3 : ((m : Int) + 1).toNat = m + 1 := by omega
     have e4 : ((m : Int)).toNat = m := by omega
     rw [e3]
     rw [e4] at i1 i2
     rw [Nat.add_zero, List.take_succ_cons, ← i1, ← i2, Nat.add_zero, List.length_singleton, List.drop_succ_cons]
     simp
/-- Has a text a sign? -/
def tSign (s : List UInt8) : Bool := s.any fun b => b == 43 || b == 35
/-- May it be said, and has it a fitting length? -/
def tSaid (s : List UInt8) : Bool := decide (1 ≤ s.length) && decide (s.length ≤ 200) && uGood s
def tName (s : List UInt8) : Bool := tSaid s && !tSign s
/-- Is a level right: the last one, if it is so told? -/
def tOk (x : List UInt8) (last : Bool) : Bool := x == [43] || (x == [35] && last) || !tSign x
def tOks : List (List UInt8) → Bool
 | [] => true
 | [x] => tOk x true
 | x :: y :: l => tOk x false && tOks (y :: l)
def tFilter (s : List UInt8) : Bool := tSaid s && tOks (tLev s)
/-- Do levels of a filter meet those of a name? -/
def tMeetL : List (List UInt8) → List (List UInt8) → Bool
 | [], n => n.isEmpty
 | f :: fs, n => if f = [35] then true else match n with
  | [] => false
  | x :: ns => (f == [43] || f == x) && tMeetL fs ns
/-- May a filter meet a name that begins so? -/
def tStarts (f n : List UInt8) : Bool := !(([36] : List UInt8).isPrefixOf n) || (!(([43] : List UInt8).isPrefixOf f) && !(([35] : List UInt8).isPrefixOf f))
def tMeets (f n : List UInt8) : Bool := tStarts f n && tMeetL (tLev f) (tLev n)
/-- Do levels meet all that others meet? -/
def tWithL : List (List UInt8) → List (List UInt8) → Bool
 | a, [] => a.isEmpty
 | a, b :: bs => if b = [35] then true else match a with
  | [] => false
  | x :: az => if x = [35] then false else (b == [43] || x == b) && tWithL az bs
def tWide (a : List UInt8) : List (List UInt8) := if a = [35] ∨ a = [47, 35] then (tLev a).dropLast ++ [[43], [35]] else tLev a
def tWithin (a b : List UInt8) : Bool := tStarts b a && tWithL (tWide a) (tLev b)
theorem tLev_len (s : List UInt8) : (tLev s).length ≤ s.length + 1 := by
 induction s with
 | nil => simp [tLev]
 | cons a s ih =>
  by_cases h : a = 47
  ·rw [tLev, if_pos h]; simp; omega
  ·obtain ⟨l, ls, e1, e2⟩ := tLev_other (s := s) h
   rw [e2]
   rw [e1] at ih
   simp at ih ⊢
   omega
theorem tLev_size {s : List UInt8} {x : List UInt8} (h : x ∈ tLev s) : x.length ≤ s.length := by
 induction s generalizing x with
 | nil => simp [tLev] at h; subst h; simp
 | cons a s ih =>
  by_cases e : a = 47
  ·rw [tLev, if_pos e] at h
   rcases List.mem_cons.1 h with rfl | h
   ·simp
   ·have := ih h; simp; omega
  ·obtain ⟨l, ls, e1, e2⟩ := tLev_other (s := s) e
   rw [e2] at h
   rcases List.mem_cons.1 h with rfl | h
   ·have := ih (x := l) (by rw [e1]; simp)
    simp; omega
   ·have := ih (x := x) (by rw [e1]; exact List.mem_cons_of_mem _ h)
    simp; omega
/-- What is left of a name's levels behind some of a filter's. -/
def mtRun : List (List UInt8) → List (List UInt8) → Option (List (List UInt8))
 | [], n => some n
 | f :: fs, n => if f = [35] then none else match n with
  | [] => none
  | x :: ns => if (f == [43] || f == x) = true then mtRun fs ns else none
theorem mtRun_cons (f : List UInt8) (fs n : List (List UInt8)) : mtRun (f :: fs) n = if f = [35] then none else match n with
  | [] => none
  | x :: ns => if (f == [43] || f == x) = true then mtRun fs ns else none := by cases n <;> rfl
theorem tMeetL_cons (f : List UInt8) (fs n : List (List UInt8)) : tMeetL (f :: fs) n = if f = [35] then true else match n with
  | [] => false
  | x :: ns => (f == [43] || f == x) && tMeetL fs ns := by cases n <;> rfl
theorem mtRun_snoc (fs : List (List UInt8)) (g : List UInt8) (n : List (List UInt8)) : mtRun (fs ++ [g]) n = (mtRun fs n).bind fun r => mtRun [g] r := by
 induction fs generalizing n with
 | nil => rfl
 | cons f fs ih =>
  rw [List.cons_append, mtRun_cons, mtRun_cons]
  split
  ·rfl
  ·cases n with
   | nil => rfl
   | cons x ns =>
    simp only
    split
    ·exact ih ns
    ·rfl
theorem tMeetL_run {fs n r : List (List UInt8)} (h : mtRun fs n = some r) (gs : List (List UInt8)) : tMeetL (fs ++ gs) n = tMeetL gs r := by
 induction fs generalizing n with
 | nil => injection h with h; subst h; rfl
 | cons f fs ih =>
  rw [mtRun_cons] at h
  by_cases hf : f = [35]
  ·rw [if_pos hf] at h; cases h
  ·rw [if_neg hf] at h
   cases n with
   | nil => cases h
   | cons x ns =>
    simp only at h
    by_cases hm : (f == [43] || f == x) = true
    ·rw [if_pos hm] at h
     rw [List.cons_append, tMeetL_cons, if_neg hf]
     simp only [hm, Bool.true_and]
     exact ih h
    ·rw [if_neg hm] at h; cases h
theorem tMeetL_no {g : List UInt8} {gs r : List (List UInt8)} (h35 : g ≠ [35]) (h : mtRun [g] r = none) : tMeetL (g :: gs) r = false := by
 rw [mtRun_cons, if_neg h35] at h
 rw [tMeetL_cons, if_neg h35]
 cases r with
 | nil => rfl
 | cons x ns =>
  simp only at h ⊢
  by_cases hm : (g == [43] || g == x) = true
  ·rw [if_pos hm] at h; cases h
  ·rw [Bool.eq_false_iff.2 hm]; rfl
theorem mtRun_one {g x : List UInt8} {ns : List (List UInt8)} (h35 : g ≠ [35]) : mtRun [g] (x :: ns) = if (g == [43] || g == x) = true then some ns else none := by
 rw [mtRun_cons, if_neg h35]
 rfl
theorem mtRun_drop {fs n r : List (List UInt8)} (h : mtRun fs n = some r) : r = n.drop fs.length ∧ fs.length ≤ n.length := by
 induction fs generalizing n with
 | nil => injection h with h; subst h; exact ⟨rfl, Nat.zero_le _⟩
 | cons f fs ih =>
  rw [mtRun_cons] at h
  by_cases hf : f = [35]
  ·rw [if_pos hf] at h; cases h
  ·rw [if_neg hf] at h
   cases n with
   | nil => cases h
   | cons x ns =>
    simp only at h
    by_cases hm : (f == [43] || f == x) = true
    ·rw [if_pos hm] at h
     have := ih h
     exact ⟨this.1, by simpa using this.2⟩
    ·rw [if_neg hm] at h; cases h
theorem tWithL_nil (a : List (List UInt8)) : tWithL a [] = a.isEmpty := by cases a <;> rfl
theorem tWithL_cons (a : List (List UInt8)) (b : List UInt8) (bs : List (List UInt8)) : tWithL a (b :: bs) = if b = [35] then true else match a with
  | [] => false
  | x :: az => if x = [35] then false else (b == [43] || x == b) && tWithL az bs := by cases a <;> rfl
end Go.Proofs.YtfglgeoookbppaaGreatDoor

namespace Go.Proofs.YtfglgeoookbppaaGreatDoor
open Go

/-- A row. -/
structure Rw where
 k : Int
 c : List UInt8
 seq : Int
 id : Int
 t : List UInt8
 b : List UInt8
 q : Int
 r : Bool
 s : Int
/-- Are two rows the same? -/
def rwEq (x y : Rw) : Bool := x.k == y.k && (x.c == y.c && (x.seq == y.seq && (x.id == y.id && (x.t == y.t && (x.b == y.b && (x.q == y.q && (x.r == y.r && x.s == y.s)))))))
theorem rwEq_iff (x y : Rw) : rwEq x y = true ↔ x = y := by
 unfold rwEq
 simp only [Bool.and_eq_true, beq_iff_eq]
 constructor
 ·rintro ⟨h1, h2, h3, h4, h5, h6, h7, h8, h9⟩
  obtain ⟨a1, a2, a3, a4, a5, a6, a7, a8, a9⟩ := x
  obtain ⟨b1, b2, b3, b4, b5, b6, b7, b8, b9⟩ := y
  simp only at h1 h2 h3 h4 h5 h6 h7 h8 h9
  subst h1 h2 h3 h4 h5 h6 h7 h8 h9
  rfl
 ·rintro rfl
  exact ⟨rfl, rfl, rfl, rfl, rfl, rfl, rfl, rfl, rfl⟩
def rwZ : Rw := ⟨0, [], 0, 0, [], [], 0, false, 0⟩
def inN (n a b : Int) : Bool := decide (a ≤ n) && decide (n ≤ b)
def rcClient (s : List UInt8) : Bool := decide (1 ≤ s.length) && (decide (s.length ≤ 23) && uGood s)
def rcStage (x : Rw) : Bool := (decide (x.s = 1) && decide (x.id = 0)) || (inN x.id 1 65535 && (decide (x.s = 2) || (decide (x.s = 3) && decide (x.q = 2))))
/-- May a row be, by its kind? -/
def rcMay (k : Int) (x : Rw) : Bool :=
 if k = 1 then rcClient x.c && (inN x.seq 0 4611686018427387904 && inN x.id 0 4611686018427387904)
 else if k = 2 then rcClient x.c && (tFilter x.t && inN x.q 0 2)
 else if k = 3 then rcClient x.c && (inN x.seq 0 4611686018427387904 && (tName x.t && (decide (x.b.length ≤ 2000) && (inN x.q 1 2 && rcStage x))))
 else if k = 4 then rcClient x.c && inN x.id 1 65535
 else if k = 5 then tName x.t && (inN (x.b.length : Nat) 1 2000 && inN x.q 0 2)
 else false
/-- What a row of a kind has. -/
def rcHas (k : Int) (x : Rw) : Rw :=
 if k = 1 then { rwZ with c := x.c, seq := x.seq, id := x.id }
 else if k = 2 then { rwZ with c := x.c, t := x.t, q := x.q }
 else if k = 3 then x
 else if k = 4 then { rwZ with c := x.c, id := x.id }
 else { rwZ with t := x.t, b := x.b, q := x.q }
def kText (s : List UInt8) : KP := ⟨3, 0, 0, s⟩
def kInt (n : Int) : KP := ⟨1, n, 0, []⟩
def rcSum (s : List UInt8) : KP := kInt (crcSum s : Nat)
def rcParts (k : Int) (x : Rw) : List KP :=
 if k = 1 then [kText x.c]
 else if k = 2 then [kText x.c, rcSum x.t]
 else if k = 3 then [kText x.c, kInt x.seq]
 else if k = 4 then [kText x.c, kInt x.id]
 else [rcSum x.t]
def rcPlaced (k : Int) : Bool := decide (k = 2) || decide (k = 5)
def rcIs (k : Int) : Bool := inN k 1 5
/-- May a row be? -/
def rcOk (x : Rw) : Bool := rcIs x.k && (rcMay x.k x && rwEq { rcHas x.k x with k := x.k } x)
def rcKeyL (x : Rw) (p : Int) : List KP := if rcPlaced x.k = true then rcParts x.k x ++ [kInt p] else rcParts x.k x
def rcFits (x : Rw) (p : Int) : Bool := rcOk x && (inN p 0 2147483648 && (decide (p = 0) || rcPlaced x.k))
end Go.Proofs.YtfglgeoookbppaaGreatDoor
