/- The statement MetaNewer is proved: of two metas that of the greater Txid counts; one that counts alone counts. Conditions: none. -/
import Derived.Test.YthepcoifcoinoaaPRa2
import Derived.Test.YthepcoifcoinoaaPRa4
import Derived.Test.YthepcoifcoinoaaPa42

namespace Go.Proofs.Ythepcoifcoinoaa
open Go.ChangeShapes Go.WideShapes Go.ChangeAt Go.RowKit

def lawTypes : List TypeId := [49, 2]
set_option maxRecDepth 100000 in
theorem metaNewer_lifted (os : Os) (started : os.Started) (H : Type) (enc : TypeId × Value → H) :
    ReturnsInHanded {} Try.checked os 11 .any (Rows.metaNewerSpec.pre6 enc Try.prog Try.f11 Rows.metaNewerRow.domain false) (Rows.metaNewerSpec.post enc Try.prog Try.f11 false true false false) := by
  refine returnsInHanded_of_change (C := Try.checked) Try.own started (by kernel_rfl) Try.func11
    (ChangeSpec.witness6 (enc := enc) (C := Try.checked) false ⟨#[], #[.agg #[.int .i64 0, .int .i64 0, .int .i64 0, .int .i64 0], .agg #[.int .i64 0, .int .i64 0, .int .i64 0, .int .i64 0]], []⟩ 8 (by kernel_rfl) (by kernel_rfl) (by kernel_rfl) (by kernel_rfl)) ?_
  intro W base args ds gs before hval0 hW hcnd _
  have hval : ∀ (j : Nat) t v, Try.f11.params[j]? = some t → args[j]? = some v → Value.okWide Try.prog W .any base t v := hval0
  have hW' := hW
  obtain ⟨p, q, hA0, hV, rfl, hfz, hnd⟩ := hW
  obtain ⟨rfl, rfl⟩ := trodVars_none hV
  have hA : DataW.TrodAll enc Try.prog W 0 (fun _ => true) true [49, 49] args.toList ds p := hA0
  obtain ⟨v0, v1, d0, d1, p0, p1, rfl, rfl, rfl, h0, h1⟩ := trodAll_two hA
  obtain ⟨t1, r1, f1, g1, rfl⟩ := open_meta (hval 0 49 v0 rfl rfl) h0
  obtain ⟨t2, r2, f2, g2, rfl⟩ := open_meta (hval 1 49 v1 rfl rfl) h1
  refine (metaNewer_came W t1 r1 f1 g1 t2 r2 f2 g2).mono fun e W' ⟨he, hk⟩ => ?_
  subst he
  exact ⟨_, rfl, law_post (L := lawTypes) (by kernel_rfl) (tb := 4) hW' rfl (by decide) rfl undBool rfl hk⟩

theorem metaNewer_holds : Rows.MetaNewerSaid :=
  OpenClaim.holds_of_wide 11 Try.f11 rfl rfl rfl rfl rfl rfl rfl ⟨rfl, rfl, rfl, rfl, rfl⟩ rfl rfl rfl rfl rfl (by kernel_rfl) Try.func11 (by kernel_rfl)
    (of_decide_eq_true (by kernel_rfl)) (by unfold Func.isWrapper; first | (rw [if_pos (by decide +kernel)]; kernel_rfl) | (rw [if_neg (by decide +kernel)]; exact ⟨rfl, rfl⟩))
    (fun os started H enc _ => metaNewer_lifted os started H enc)
#print axioms metaNewer_holds
end Go.Proofs.Ythepcoifcoinoaa
