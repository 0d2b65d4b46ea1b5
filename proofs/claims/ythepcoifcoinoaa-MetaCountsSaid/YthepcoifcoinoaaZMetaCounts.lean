/- The statement MetaCounts is proved: of any two runs of bytes which meta counts, or that none does. Conditions: none. -/
import Derived.Test.YthepcoifcoinoaaPRa2
import Derived.Test.YthepcoifcoinoaaPRa4
import Derived.Test.YthepcoifcoinoaaPa35

namespace Go.Proofs.Ythepcoifcoinoaa
open Go.ChangeShapes Go.WideShapes Go.ChangeAt Go.RowKit

def lawTypes : List TypeId := [22, 5, 2]
set_option maxRecDepth 100000 in
theorem metaCounts_lifted (os : Os) (started : os.Started) (H : Type) (enc : TypeId × Value → H) :
    ReturnsInHanded {} Try.checked os 8 .any (Rows.metaCountsSpec.pre6 enc Try.prog Try.f8 Rows.metaCountsRow.domain false) (Rows.metaCountsSpec.post enc Try.prog Try.f8 false true false false) := by
  refine returnsInHanded_of_change (C := Try.checked) Try.own started (by kernel_rfl) Try.func8
    (ChangeSpec.witness6 (enc := enc) (C := Try.checked) false ⟨#[], #[.slice none 0 0, .slice none 0 0, .int .i64 0], []⟩ 8 (by kernel_rfl) (by kernel_rfl) (by kernel_rfl) (by kernel_rfl)) ?_
  intro W base args ds gs before hval0 hW hcnd _
  have hval : ∀ (j : Nat) t v, Try.f8.params[j]? = some t → args[j]? = some v → Value.okWide Try.prog W .any base t v := hval0
  have hW' := hW
  obtain ⟨p, q, hA0, hV, rfl, hfz, hnd⟩ := hW
  obtain ⟨rfl, rfl⟩ := trodVars_none hV
  have hA : DataW.TrodAll enc Try.prog W 0 (fun _ => true) true [22, 22, 2] args.toList ds p := hA0
  obtain ⟨v0, v1, v2, d0, d1, d2, p0, p1, p2, rfl, rfl, rfl, h0, h1, h2⟩ := trodAll_three hA
  obtain ⟨A1, c1, l1, rfl, C1⟩ := open_bytes h0 (okWide_slice undBytes (hval 0 22 v0 rfl rfl))
  obtain ⟨B1, e1, k1, rfl, D1⟩ := open_bytes h1 (okWide_slice undBytes (hval 1 22 v1 rfl rfl))
  obtain ⟨n1, rfl, _, _, _⟩ := open_int undI64 (hval 2 2 v2 rfl rfl) h2
  refine (metaCounts_came W A1 B1 c1 e1 l1 k1 n1 C1 D1).mono fun e W' ⟨he, hk⟩ => ?_
  subst he
  exact ⟨_, rfl, law_post (L := lawTypes) (by kernel_rfl) (tb := 4) hW' rfl (by decide) rfl undBool rfl hk⟩

theorem metaCounts_holds : Rows.MetaCountsSaid :=
  OpenClaim.holds_of_wide 8 Try.f8 rfl rfl rfl rfl rfl rfl rfl ⟨rfl, rfl, rfl, rfl, rfl⟩ rfl rfl rfl rfl rfl (by kernel_rfl) Try.func8 (by kernel_rfl)
    (of_decide_eq_true (by kernel_rfl)) (by unfold Func.isWrapper; first | (rw [if_pos (by decide +kernel)]; kernel_rfl) | (rw [if_neg (by decide +kernel)]; exact ⟨rfl, rfl⟩))
    (fun os started H enc _ => metaCounts_lifted os started H enc)
#print axioms metaCounts_holds
end Go.Proofs.Ythepcoifcoinoaa
