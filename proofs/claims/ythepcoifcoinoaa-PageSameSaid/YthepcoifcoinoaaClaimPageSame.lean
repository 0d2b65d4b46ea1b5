/- The statement PageSame is proved: pages are the same just if all of them is. Conditions: none. -/
import Derived.Test.YthepcoifcoinoaaLaw
import Derived.Test.YthepcoifcoinoaaOpenPage
import Derived.Test.YthepcoifcoinoaaLawSame
namespace Go.Proofs.Ythepcoifcoinoaa
open Go.ChangeShapes Go.WideShapes Go.ChangeAt Go.RowKit

set_option maxRecDepth 100000 in
theorem pageSame_lifted (os : Os) (started : os.Started) (H : Type) (enc : TypeId × Value → H) :
    ReturnsInHanded {} Try.checked os 7 .any (Rows.pageSameSpec.pre6 enc Try.prog Try.f7 Rows.pageSameRow.domain false) (Rows.pageSameSpec.post enc Try.prog Try.f7 false true false false) := by
  refine returnsInHanded_of_change (C := Try.checked) Try.own started (by kernel_rfl) Try.func7
    (ChangeSpec.witness6 (enc := enc) (C := Try.checked) false ⟨#[], #[.agg #[.int .i64 0, .int .i64 0, .int .i64 0, .slice none 0 0], .agg #[.int .i64 0, .int .i64 0, .int .i64 0, .slice none 0 0], .int .i64 0], []⟩ 8 (by kernel_rfl) (by kernel_rfl) (by kernel_rfl) (by kernel_rfl)) ?_
  intro W base args ds gs before hval0 hW hcnd _
  have hval : ∀ (j : Nat) t v, Try.f7.params[j]? = some t → args[j]? = some v → Value.okWide Try.prog W .any base t v := hval0
  have hW' := hW
  obtain ⟨p, q, hA0, hV, rfl, hfz, hnd⟩ := hW
  obtain ⟨rfl, rfl⟩ := trodVars_none hV
  have hA : DataW.TrodAll enc Try.prog W 0 (fun _ => true) true [26, 26, 24] args.toList ds p := hA0
  obtain ⟨v0, v1, v2, d0, d1, d2, p0, p1, p2, rfl, rfl, rfl, h0, h1, h2⟩ := trodAll_three hA
  obtain ⟨k1, t1, n1, A1, c1, l1, rfl, C1⟩ := open_page (hval 0 26 v0 rfl rfl) h0
  obtain ⟨k2, t2, n2, A2, c2, l2, rfl, C2⟩ := open_page (hval 1 26 v1 rfl rfl) h1
  obtain ⟨k, rfl, _, _, _⟩ := open_int undKind (hval 2 24 v2 rfl rfl) h2
  refine (pageSame_came W k1 t1 n1 A1 c1 l1 k2 t2 n2 A2 c2 l2 k C1 C2).mono fun e W' ⟨he, hk⟩ => ?_
  subst he
  exact ⟨_, rfl, law_post (L := [26, 24, 2, 22, 5]) (by kernel_rfl) (tb := 4) hW' rfl (by decide) rfl undBool rfl hk⟩

theorem pageSame_holds : Rows.PageSameSaid :=
  OpenClaim.holds_of_wide 7 Try.f7 rfl rfl rfl rfl rfl rfl rfl ⟨rfl, rfl, rfl, rfl, rfl⟩ rfl rfl rfl rfl rfl (by kernel_rfl) Try.func7 (by kernel_rfl)
    (of_decide_eq_true (by kernel_rfl)) (by unfold Func.isWrapper; first | (rw [if_pos (by decide +kernel)]; kernel_rfl) | (rw [if_neg (by decide +kernel)]; exact ⟨rfl, rfl⟩))
    (fun os started H enc _ => pageSame_lifted os started H enc)
#print axioms pageSame_holds
end Go.Proofs.Ythepcoifcoinoaa
