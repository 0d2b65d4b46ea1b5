/- The statement SpaceCopies is proved: copies go on apart. Conditions: none. -/
import Derived.Test.YtanbdkfkkochgaaPa2
import Derived.Test.YtanbdkfkkochgaaPa32

namespace Go.Proofs.Ytanbdkfkkochgaa
open Go.ChangeShapes Go.WideShapes Go.ChangeAt Go.RowKit

def lawTypes : List TypeId := [2, 23, 50, 37, 44, 3]
set_option maxRecDepth 100000 in
theorem spaceCopies_lifted (os : Os) (started : os.Started) (H : Type) (enc : TypeId × Value → H) :
    ReturnsInHanded {} Try.checked os 6 .any (Rows.spaceCopiesSpec.pre6 enc Try.prog Try.f6 Rows.spaceCopiesRow.domain false) (Rows.spaceCopiesSpec.post enc Try.prog Try.f6 false true false false) := by
  refine returnsInHanded_of_change (C := Try.checked) Try.own started (by kernel_rfl) Try.func6
    (ChangeSpec.witness6 (enc := enc) (C := Try.checked) false ⟨#[], #[.int .i64 0, .slice none 0 0, .agg #[.slice none 0 0, .slice none 0 0]], []⟩ 8 (by kernel_rfl) (by kernel_rfl) (by kernel_rfl) (by kernel_rfl)) ?_
  intro W base args ds gs before hval0 hW hcnd _
  have hval : ∀ (j : Nat) t v, Try.f6.params[j]? = some t → args[j]? = some v → Value.okWide Try.prog W .any base t v := hval0
  have hW' := hW
  obtain ⟨p, q, hA0, hV, rfl, hfz, hnd⟩ := hW
  obtain ⟨rfl, rfl⟩ := trodVars_none hV
  have hA : DataW.TrodAll enc Try.prog W 0 (fun _ => true) true [2, 23, 50] args.toList ds p := hA0
  obtain ⟨v0, v1, v2, d0, d1, d2, p0, p1, p2, rfl, rfl, rfl, h0, h1, h2⟩ := trodAll_three hA
  obtain ⟨n, rfl, _, _, _⟩ := Go.ChangeShapes.open_int undI64 (hval 0 2 v0 rfl rfl) h0
  obtain ⟨A1, c1, l1, rfl, H1⟩ := open_i64s (hval 1 23 v1 rfl rfl) h1
  obtain ⟨A2, c2, l2, A3, c3, l3, rfl, H2, H3⟩ := open_twoActs (hval 2 50 v2 rfl rfl) h2
  refine (spaceCopies_any W n A1 A2 A3 c1 c2 c3 l1 l2 l3 H1 H2 H3).mono fun e W' ⟨he, hk⟩ => ?_
  subst he
  exact ⟨_, rfl, law_post (L := lawTypes) (by kernel_rfl) (tb := 4) hW' rfl (by decide) rfl undBool rfl hk⟩

theorem spaceCopies_holds : Rows.SpaceCopiesSaid :=
  OpenClaim.holds_of_wide 6 Try.f6 rfl rfl rfl rfl rfl rfl rfl ⟨rfl, rfl, rfl, rfl, rfl⟩ rfl rfl rfl rfl rfl (by kernel_rfl) Try.func6 (by kernel_rfl)
    (of_decide_eq_true (by kernel_rfl)) (by unfold Func.isWrapper; first | (rw [if_pos (by decide +kernel)]; kernel_rfl) | (rw [if_neg (by decide +kernel)]; exact ⟨rfl, rfl⟩))
    (fun os started H enc _ => spaceCopies_lifted os started H enc)
#print axioms spaceCopies_holds
end Go.Proofs.Ytanbdkfkkochgaa
