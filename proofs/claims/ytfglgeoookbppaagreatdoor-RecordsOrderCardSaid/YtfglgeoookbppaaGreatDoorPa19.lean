/- Package keys: kinds. -/
import Derived.Test.YtfglgeoookbppaaGreatDoorPa9
import Derived.Test.YtfglgeoookbppaaGreatDoorPa18

namespace Go.Proofs.YtfglgeoookbppaaGreatDoor
open Go.RowKit Go.Maps

theorem undKind : Tryz.prog.underlying 60 = some (.int .i64) := by kernel_rfl
theorem undKinds : Tryz.prog.underlying 116 = some (.map 60 114) := by kernel_rfl
abbrev kFn (f : FuncId) : Value := .func (.func f) #[] #[]
def kInts : Value := .agg #[kFn 105, kFn 106, kFn 108, kFn 110]
def kFloats : Value := .agg #[kFn 112, kFn 113, kFn 115, kFn 118]
def kTexts : Value := .agg #[kFn 120, kFn 121, kFn 123, kFn 124]
def kAll : DataW Value := (((DataW.map []).put (.int .i64 1) (.held kInts)).put (.int .i64 2) (.held kFloats)).put (.int .i64 3) (.held kTexts)
/-- Block b is the map of the kinds. -/
def Kinds (w : World) (b : Nat) : Prop := HMap w Tryz.prog 60 b 3 kAll
theorem Kinds.keep {w w' : World} {b : Nat} {S : List Nat} (h : Kinds w b) (hk : Keeps w w' S) (hb : b ∉ S) : Kinds w' b := HMap.keep h hk hb
theorem kZero (w : World) : (zeroValue 114).run Tryz.prog w = .ok (.agg #[.nilFunc, .nilFunc, .nilFunc, .nilFunc]) w := by kernel_rfl

set_option maxRecDepth 100000 in
set_option maxHeartbeats 400000 in
theorem kKinds_any (w : World) :
    Calls Tryz.prog 86 #[] w fun e w' => ∃ b, e = .returned (.map (some b)) ∧ Kinds w' b ∧ Keeps w w' [] := by
  have hmm := @run_makeMap Tryz.prog
  go_enter Tryz.func86, Tryz.ntmps86
  go_wp2_with (first
    | (refine wpList_insert_held rfl (.tmp 1) (.const (.int .i64 1)) (.tmp 2) rfl (int_keyed undKind) undKinds rfl (World.ownsMap_made w _ _ _) (by unfold maxLen; omega) (.int .i64 1) kInts (.int .i64 1) rfl rfl (keyOf_int_mk undKind (by decide)) ?_; intro w1 hm1 hg1; have HM1 := Lib.hid hm1; have HG1 := Lib.hid hg1; clear hm1 hg1)
    | (refine wpList_insert_held rfl (.tmp 1) (.const (.int .i64 2)) (.tmp 3) rfl (int_keyed undKind) undKinds rfl HM1.out (by unfold maxLen; omega) (.int .i64 2) kFloats (.int .i64 2) rfl rfl (keyOf_int_mk undKind (by decide)) ?_; intro w2 hm2 hg2; have HM2 := Lib.hid hm2; have HG2 := Lib.hid hg2; clear hm2 hg2)
    | (refine wpList_insert_held rfl (.tmp 1) (.const (.int .i64 3)) (.tmp 4) rfl (int_keyed undKind) undKinds rfl HM2.out (by unfold maxLen; omega) (.int .i64 3) kTexts (.int .i64 3) rfl rfl (keyOf_int_mk undKind (by decide)) ?_; intro w3 hm3 hg3; have HM3 := Lib.hid hm3; have HG3 := Lib.hid hg3; clear hm3 hg3))
  go_ret
  have k1 := Keeps.of_grown HG1.out
  have k2 := Keeps.of_grown HG2.out
  have k3 := Keeps.of_grown HG3.out
  simp only [Option.toList] at k1 k2 k3
  exact ⟨_, rfl, HM3.out, (((Keeps.alloc w _).trans k1 (by simp)).trans k2 (by simp)).trans k3 (by simp)⟩
end Go.Proofs.YtfglgeoookbppaaGreatDoor
