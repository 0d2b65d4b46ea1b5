/- The statement MetaRaws is proved: the bytes of any meta, or that there are none; these are the meta's again. Conditions: none. -/
import Derived.Test.YthepcoifcoinoaaPRa2
import Derived.Test.YthepcoifcoinoaaPRa4
import Derived.Test.YthepcoifcoinoaaPRa34

namespace Go.Proofs.Ythepcoifcoinoaa
open Go.ChangeShapes Go.WideShapes Go.ChangeAt Go.RowKit

def lawTypes : List TypeId := [49, 2]
set_option maxRecDepth 100000 in
theorem metaRaws_lifted (os : Os) (started : os.Started) (H : Type) (enc : TypeId × Value → H) :
    ReturnsInHanded {} Try.checked os 9 .any (Rows.metaRawsSpec.pre6 enc Try.prog Try.f9 Rows.metaRawsRow.domain false) (Rows.metaRawsSpec.post enc Try.prog Try.f9 false true false false) := by
  refine returnsInHanded_of_change (C := Try.checked) Try.own started (by kernel_rfl) Try.func9
    (ChangeSpec.witness6 (enc := enc) (C := Try.checked) false ⟨#[], #[.agg #[.int .i64 0, .int .i64 0, .int .i64 0, .int .i64 0]], []⟩ 8 (by kernel_rfl) (by kernel_rfl) (by kernel_rfl) (by kernel_rfl)) ?_
  intro W base args ds gs before hval0 hW hcnd _
  have hval : ∀ (j : Nat) t v, Try.f9.params[j]? = some t → args[j]? = some v → Value.okWide Try.prog W .any base t v := hval0
  have hW' := hW
  obtain ⟨p, q, hA0, hV, rfl, hfz, hnd⟩ := hW
  obtain ⟨rfl, rfl⟩ := trodVars_none hV
  have hA : DataW.TrodAll enc Try.prog W 0 (fun _ => true) true [49] args.toList ds p := hA0
  obtain ⟨v0, d0, rfl, rfl, h0⟩ := trodAll_one hA
  obtain ⟨t1, r1, f1, h1, rfl⟩ := open_meta (hval 0 49 v0 rfl rfl) h0
  refine (metaRaws_came W t1 r1 f1 h1).mono fun e W' ⟨he, hk⟩ => ?_
  subst he
  exact ⟨_, rfl, law_post (L := lawTypes) (by kernel_rfl) (tb := 4) hW' rfl (by decide) rfl undBool rfl hk⟩

theorem metaRaws_holds : Rows.MetaRawsSaid :=
  OpenClaim.holds_of_wide 9 Try.f9 rfl rfl rfl rfl rfl rfl rfl ⟨rfl, rfl, rfl, rfl, rfl⟩ rfl rfl rfl rfl rfl (by kernel_rfl) Try.func9 (by kernel_rfl)
    (of_decide_eq_true (by kernel_rfl)) (by unfold Func.isWrapper; first | (rw [if_pos (by decide +kernel)]; kernel_rfl) | (rw [if_neg (by decide +kernel)]; exact ⟨rfl, rfl⟩))
    (fun os started H enc _ => metaRaws_lifted os started H enc)
#print axioms metaRaws_holds
end Go.Proofs.Ythepcoifcoinoaa
