/- The statement SpaceParts is proved: each page is one of kept, new, held, free; none that was kept is taken. Conditions: none. -/
import Derived.Test.YtanbdkfkkochgaaPa2
import Derived.Test.YtanbdkfkkochgaaPa30

namespace Go.Proofs.Ytanbdkfkkochgaa
open Go.ChangeShapes Go.WideShapes Go.ChangeAt Go.RowKit

def lawTypes : List TypeId := [22, 2, 23, 37, 44, 3]
set_option maxRecDepth 100000 in
theorem spaceParts_lifted (os : Os) (started : os.Started) (H : Type) (enc : TypeId × Value → H) :
    ReturnsInHanded {} Try.checked os 5 .any (Rows.spacePartsSpec.pre6 enc Try.prog Try.f5 Rows.spacePartsRow.domain false) (Rows.spacePartsSpec.post enc Try.prog Try.f5 false true false false) := by
  refine returnsInHanded_of_change (C := Try.checked) Try.own started (by kernel_rfl) Try.func5
    (ChangeSpec.witness6 (enc := enc) (C := Try.checked) false ⟨#[], #[.agg #[.int .i64 0, .int .i64 0], .slice none 0 0, .slice none 0 0], []⟩ 8 (by kernel_rfl) (by kernel_rfl) (by kernel_rfl) (by kernel_rfl)) ?_
  intro W base args ds gs before hval0 hW hcnd _
  have hval : ∀ (j : Nat) t v, Try.f5.params[j]? = some t → args[j]? = some v → Value.okWide Try.prog W .any base t v := hval0
  have hW' := hW
  obtain ⟨p, q, hA0, hV, rfl, hfz, hnd⟩ := hW
  obtain ⟨rfl, rfl⟩ := trodVars_none hV
  have hA : DataW.TrodAll enc Try.prog W 0 (fun _ => true) true [22, 23, 37] args.toList ds p := hA0
  obtain ⟨v0, v1, v2, d0, d1, d2, p0, p1, p2, rfl, rfl, rfl, h0, h1, h2⟩ := trodAll_three hA
  obtain ⟨x0, x1, rfl, _⟩ := open_twoI (hval 0 22 v0 rfl rfl) h0
  obtain ⟨A1, c1, l1, rfl, H1⟩ := open_i64s (hval 1 23 v1 rfl rfl) h1
  obtain ⟨A2, c2, l2, rfl, H2⟩ := open_actsS (hval 2 37 v2 rfl rfl) h2
  refine (spaceParts_any W x0 x1 A1 A2 c1 c2 l1 l2 H1 H2).mono fun e W' ⟨he, hk⟩ => ?_
  subst he
  exact ⟨_, rfl, law_post (L := lawTypes) (by kernel_rfl) (tb := 4) hW' rfl (by decide) rfl undBool rfl hk⟩

theorem spaceParts_holds : Rows.SpacePartsSaid :=
  OpenClaim.holds_of_wide 5 Try.f5 rfl rfl rfl rfl rfl rfl rfl ⟨rfl, rfl, rfl, rfl, rfl⟩ rfl rfl rfl rfl rfl (by kernel_rfl) Try.func5 (by kernel_rfl)
    (of_decide_eq_true (by kernel_rfl)) (by unfold Func.isWrapper; first | (rw [if_pos (by decide +kernel)]; kernel_rfl) | (rw [if_neg (by decide +kernel)]; exact ⟨rfl, rfl⟩))
    (fun os started H enc _ => spaceParts_lifted os started H enc)
#print axioms spaceParts_holds
end Go.Proofs.Ytanbdkfkkochgaa
