/- The statement DiskLeaves is proved: each sector that a crash leaves is as it lasted, or as a write that waited left it. Conditions: none. -/
import Derived.Test.YtehlabdbbbbopaaPa2
import Derived.Test.YtehlabdbbbbopaaPa47

namespace Go.Proofs.Ytehlabdbbbbopaa
open Go.ChangeShapes Go.WideShapes Go.ChangeAt Go.RowKit

def lawTypes : List TypeId := [3, 36, 37, 39, 5, 28]
theorem diskLeaves_any (w : World) (x : Int) (A B : Option Addr) (c d : Nat) (acts : List ActV) (picks : List Int) (ha : CameD w A c acts) (hp : CameI w B d picks) : Calls Try.prog 6 #[.int .i64 x, .slice A acts.length c, .slice B picks.length d] w fun e w' => e = .returned (.bool true) ∧ Keeps w w' [] := by
  by_cases h : (40 : Int) < acts.length ∨ (60 : Int) < picks.length ∨ 20 < x
  · exact diskLeaves_far w x A B c d _ _ h
  · by_cases h3 : x < 2
    · exact diskLeaves_none w x A B c d _ _ (by omega) (by omega) h3
    · obtain ⟨n, rfl⟩ : ∃ n : Nat, x = n := ⟨x.toNat, by omega⟩
      exact diskLeaves_some w n A B c d acts picks ha hp (by omega) (by omega) (by omega) (by omega)
set_option maxRecDepth 100000 in
theorem diskLeaves_lifted (os : Os) (started : os.Started) (H : Type) (enc : TypeId × Value → H) :
    ReturnsInHanded {} Try.checked os 6 .any (Rows.diskLeavesSpec.pre6 enc Try.prog Try.f6 Rows.diskLeavesRow.domain false) (Rows.diskLeavesSpec.post enc Try.prog Try.f6 false true false false) := by
  refine returnsInHanded_of_change (C := Try.checked) Try.own started (by kernel_rfl) Try.func6
    (ChangeSpec.witness6 (enc := enc) (C := Try.checked) false ⟨#[], #[.int .i64 0, .slice none 0 0, .slice none 0 0], []⟩ 8 (by kernel_rfl) (by kernel_rfl) (by kernel_rfl) (by kernel_rfl)) ?_
  intro W base args ds gs before hval0 hW hcnd _
  have hval : ∀ (j : Nat) t v, Try.f6.params[j]? = some t → args[j]? = some v → Value.okWide Try.prog W .any base t v := hval0
  have hW' := hW
  obtain ⟨p, q, hA0, hV, rfl, hfz, hnd⟩ := hW
  obtain ⟨rfl, rfl⟩ := trodVars_none hV
  have hA : DataW.TrodAll enc Try.prog W 0 (fun _ => true) true [3, 36, 37] args.toList ds p := hA0
  obtain ⟨v0, v1, v2, d0, d1, d2, p0, p1, p2, rfl, rfl, rfl, h0, h1, h2⟩ := trodAll_three hA
  obtain ⟨n, rfl, _, _, _⟩ := open_int undIntS (hval 0 3 v0 rfl rfl) h0
  obtain ⟨A1, c1, l1, rfl, H1⟩ := open_actsD (hval 1 36 v1 rfl rfl) h1
  obtain ⟨A2, c2, l2, rfl, H2⟩ := open_intsS (hval 2 37 v2 rfl rfl) h2
  refine (diskLeaves_any W n A1 A2 c1 c2 l1 l2 H1 H2).mono fun e W' ⟨he, hk⟩ => ?_
  subst he
  exact ⟨_, rfl, law_post (L := lawTypes) (by kernel_rfl) (tb := 4) hW' rfl (by decide) rfl undBool rfl hk⟩

theorem diskLeaves_holds : Rows.DiskLeavesSaid :=
  OpenClaim.holds_of_wide 6 Try.f6 rfl rfl rfl rfl rfl rfl rfl ⟨rfl, rfl, rfl, rfl, rfl⟩ rfl rfl rfl rfl rfl (by kernel_rfl) Try.func6 (by kernel_rfl)
    (of_decide_eq_true (by kernel_rfl)) (by unfold Func.isWrapper; first | (rw [if_pos (by decide +kernel)]; kernel_rfl) | (rw [if_neg (by decide +kernel)]; exact ⟨rfl, rfl⟩))
    (fun os started H enc _ => diskLeaves_lifted os started H enc)
#print axioms diskLeaves_holds
end Go.Proofs.Ytehlabdbbbbopaa
