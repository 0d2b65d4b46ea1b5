/- The statement DiskArmed is proved: a disk that is armed does just so many steps more. Conditions: none. -/
import Derived.Test.YtehlabdbbbbopaaPa2
import Derived.Test.YtehlabdbbbbopaaPa29

namespace Go.Proofs.Ytehlabdbbbbopaa
open Go.ChangeShapes Go.WideShapes Go.ChangeAt Go.RowKit

def lawTypes : List TypeId := [4, 3, 22]
theorem diskArmed_came (w : World) (stop : Bool) (x : Int) (A : Option Addr) (c : Nat) (l : List Bool) (hB : CameB w A c l) : Calls Try.prog 3 #[.bool stop, .int .i64 x, .slice A l.length c] w fun e w' => e = .returned (.bool true) ∧ Keeps w w' [] := by
  by_cases h : x < 0 ∨ 30 < x ∨ 40 < (l.length : Int)
  · exact diskArmed_far w stop x A _ c h
  · obtain ⟨s, rfl⟩ : ∃ s : Nat, x = s := ⟨x.toNat, by omega⟩
    exact diskArmed_near w stop s A c l hB (by omega) (by omega)
set_option maxRecDepth 100000 in
theorem diskArmed_lifted (os : Os) (started : os.Started) (H : Type) (enc : TypeId × Value → H) :
    ReturnsInHanded {} Try.checked os 3 .any (Rows.diskArmedSpec.pre6 enc Try.prog Try.f3 Rows.diskArmedRow.domain false) (Rows.diskArmedSpec.post enc Try.prog Try.f3 false true false false) := by
  refine returnsInHanded_of_change (C := Try.checked) Try.own started (by kernel_rfl) Try.func3
    (ChangeSpec.witness6 (enc := enc) (C := Try.checked) false ⟨#[], #[.bool false, .int .i64 0, .slice none 0 0], []⟩ 8 (by kernel_rfl) (by kernel_rfl) (by kernel_rfl) (by kernel_rfl)) ?_
  intro W base args ds gs before hval0 hW hcnd _
  have hval : ∀ (j : Nat) t v, Try.f3.params[j]? = some t → args[j]? = some v → Value.okWide Try.prog W .any base t v := hval0
  have hW' := hW
  obtain ⟨p, q, hA0, hV, rfl, hfz, hnd⟩ := hW
  obtain ⟨rfl, rfl⟩ := trodVars_none hV
  have hA : DataW.TrodAll enc Try.prog W 0 (fun _ => true) true [4, 3, 22] args.toList ds p := hA0
  obtain ⟨v0, v1, v2, d0, d1, d2, p0, p1, p2, rfl, rfl, rfl, h0, h1, h2⟩ := trodAll_three hA
  obtain ⟨b0, rfl, _, _⟩ := open_bool undBool (hval 0 4 v0 rfl rfl) h0
  obtain ⟨n, rfl, _, _, _⟩ := open_int undIntS (hval 1 3 v1 rfl rfl) h1
  obtain ⟨A1, c1, l1, rfl, H1⟩ := open_boolsS (hval 2 22 v2 rfl rfl) h2
  refine (diskArmed_came W b0 n A1 c1 l1 H1).mono fun e W' ⟨he, hk⟩ => ?_
  subst he
  exact ⟨_, rfl, law_post (L := lawTypes) (by kernel_rfl) (tb := 4) hW' rfl (by decide) rfl undBool rfl hk⟩

theorem diskArmed_holds : Rows.DiskArmedSaid :=
  OpenClaim.holds_of_wide 3 Try.f3 rfl rfl rfl rfl rfl rfl rfl ⟨rfl, rfl, rfl, rfl, rfl⟩ rfl rfl rfl rfl rfl (by kernel_rfl) Try.func3 (by kernel_rfl)
    (of_decide_eq_true (by kernel_rfl)) (by unfold Func.isWrapper; first | (rw [if_pos (by decide +kernel)]; kernel_rfl) | (rw [if_neg (by decide +kernel)]; exact ⟨rfl, rfl⟩))
    (fun os started H enc _ => diskArmed_lifted os started H enc)
#print axioms diskArmed_holds
end Go.Proofs.Ytehlabdbbbbopaa
