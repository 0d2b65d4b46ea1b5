/- The statement MetaFirst is proved: both first metas are whole; each call tells bytes of its own. Conditions: none. -/
import Derived.Test.YthepcoifcoinoaaPRa2
import Derived.Test.YthepcoifcoinoaaPa36
import Derived.Test.YthepcoifcoinoaaPa39

namespace Go.Proofs.Ythepcoifcoinoaa
open Go.ChangeShapes Go.WideShapes Go.ChangeAt Go.RowKit

def lawTypes : List TypeId := [3, 5]
set_option maxRecDepth 100000 in
theorem metaFirst_lifted (os : Os) (started : os.Started) (H : Type) (enc : TypeId × Value → H) :
    ReturnsInHanded {} Try.checked os 12 .any (Rows.metaFirstSpec.pre6 enc Try.prog Try.f12 Rows.metaFirstRow.domain false) (Rows.metaFirstSpec.post enc Try.prog Try.f12 false true false false) := by
  refine returnsInHanded_of_change (C := Try.checked) Try.own started (by kernel_rfl) Try.func12
    (ChangeSpec.witness6 (enc := enc) (C := Try.checked) false ⟨#[], #[.int .i64 0, .int .u8 0], []⟩ 8 (by kernel_rfl) (by kernel_rfl) (by kernel_rfl) (by kernel_rfl)) ?_
  intro W base args ds gs before hval0 hW hcnd _
  have hval : ∀ (j : Nat) t v, Try.f12.params[j]? = some t → args[j]? = some v → Value.okWide Try.prog W .any base t v := hval0
  have hW' := hW
  obtain ⟨p, q, hA0, hV, rfl, hfz, hnd⟩ := hW
  obtain ⟨rfl, rfl⟩ := trodVars_none hV
  have hA : DataW.TrodAll enc Try.prog W 0 (fun _ => true) true [3, 5] args.toList ds p := hA0
  obtain ⟨v0, v1, d0, d1, p0, p1, rfl, rfl, rfl, h0, h1⟩ := trodAll_two hA
  obtain ⟨n1, rfl, _, _, _⟩ := open_int undInt (hval 0 3 v0 rfl rfl) h0
  obtain ⟨x1, rfl, _, _, hx1⟩ := open_int undByteO (hval 1 5 v1 rfl rfl) h1
  obtain ⟨y1, rfl, hy1⟩ : ∃ y : Nat, x1 = y ∧ y < 256 := by
    have := bounds_u8 hx1
    exact ⟨x1.toNat, by omega, by omega⟩
  refine (metaFirst_any W n1 y1 hy1).mono fun e W' ⟨he, hk⟩ => ?_
  subst he
  exact ⟨_, rfl, law_post (L := lawTypes) (by kernel_rfl) (tb := 4) hW' rfl (by decide) rfl undBool rfl hk⟩

theorem metaFirst_holds : Rows.MetaFirstSaid :=
  OpenClaim.holds_of_wide 12 Try.f12 rfl rfl rfl rfl rfl rfl rfl ⟨rfl, rfl, rfl, rfl, rfl⟩ rfl rfl rfl rfl rfl (by kernel_rfl) Try.func12 (by kernel_rfl)
    (of_decide_eq_true (by kernel_rfl)) (by unfold Func.isWrapper; first | (rw [if_pos (by decide +kernel)]; kernel_rfl) | (rw [if_neg (by decide +kernel)]; exact ⟨rfl, rfl⟩))
    (fun os started H enc _ => metaFirst_lifted os started H enc)
#print axioms metaFirst_holds
end Go.Proofs.Ythepcoifcoinoaa
