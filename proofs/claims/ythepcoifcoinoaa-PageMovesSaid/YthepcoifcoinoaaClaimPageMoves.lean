/- The statement PageMoves is proved: a page's bytes at one number are no page's at another one. Conditions: none. -/
import Derived.Test.YthepcoifcoinoaaLaw
import Derived.Test.YthepcoifcoinoaaOpenPage
import Derived.Test.YthepcoifcoinoaaLawMoves2
namespace Go.Proofs.Ythepcoifcoinoaa
open Go.ChangeShapes Go.WideShapes Go.ChangeAt Go.RowKit

def lawTypes : List TypeId := [26, 24, 2, 22, 5]
set_option maxRecDepth 100000 in
theorem pageMoves_lifted (os : Os) (started : os.Started) (H : Type) (enc : TypeId × Value → H) :
    ReturnsInHanded {} Try.checked os 5 .any (Rows.pageMovesSpec.pre6 enc Try.prog Try.f5 Rows.pageMovesRow.domain false) (Rows.pageMovesSpec.post enc Try.prog Try.f5 false true false false) := by
  refine returnsInHanded_of_change (C := Try.checked) Try.own started (by kernel_rfl) Try.func5
    (ChangeSpec.witness6 (enc := enc) (C := Try.checked) false ⟨#[], #[.agg #[.int .i64 0, .int .i64 0, .int .i64 0, .slice none 0 0], .int .i64 0, .int .i64 0], []⟩ 8 (by kernel_rfl) (by kernel_rfl) (by kernel_rfl) (by kernel_rfl)) ?_
  intro W base args ds gs before hval0 hW hcnd _
  have hval : ∀ (j : Nat) t v, Try.f5.params[j]? = some t → args[j]? = some v → Value.okWide Try.prog W .any base t v := hval0
  have hW' := hW
  obtain ⟨p, q, hA0, hV, rfl, hfz, hnd⟩ := hW
  obtain ⟨rfl, rfl⟩ := trodVars_none hV
  have hA : DataW.TrodAll enc Try.prog W 0 (fun _ => true) true [26, 2, 2] args.toList ds p := hA0
  obtain ⟨v0, v1, v2, d0, d1, d2, p0, p1, p2, rfl, rfl, rfl, h0, h1, h2⟩ := trodAll_three hA
  obtain ⟨k1, t1, n1, A1, c1, l1, rfl, C1⟩ := open_page (hval 0 26 v0 rfl rfl) h0
  obtain ⟨m, rfl, _, _, _⟩ := open_int undI64 (hval 1 2 v1 rfl rfl) h1
  obtain ⟨m', rfl, _, _, _⟩ := open_int undI64 (hval 2 2 v2 rfl rfl) h2
  refine (pageMoves_came W m m' k1 t1 n1 A1 c1 l1 C1).mono fun e W' ⟨he, hk⟩ => ?_
  subst he
  exact ⟨_, rfl, law_post (L := lawTypes) (by kernel_rfl) (tb := 4) hW' rfl (by decide) rfl undBool rfl hk⟩

theorem pageMoves_holds : Rows.PageMovesSaid :=
  OpenClaim.holds_of_wide 5 Try.f5 rfl rfl rfl rfl rfl rfl rfl ⟨rfl, rfl, rfl, rfl, rfl⟩ rfl rfl rfl rfl rfl (by kernel_rfl) Try.func5 (by kernel_rfl)
    (of_decide_eq_true (by kernel_rfl)) (by unfold Func.isWrapper; first | (rw [if_pos (by decide +kernel)]; kernel_rfl) | (rw [if_neg (by decide +kernel)]; exact ⟨rfl, rfl⟩))
    (fun os started H enc _ => pageMoves_lifted os started H enc)
#print axioms pageMoves_holds
end Go.Proofs.Ythepcoifcoinoaa
