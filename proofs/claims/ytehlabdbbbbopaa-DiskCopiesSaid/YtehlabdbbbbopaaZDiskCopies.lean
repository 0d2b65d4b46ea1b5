/- The statement DiskCopies is proved: Copies go on apart; Same tells what is the same. Conditions: none (that the two lengths' sum does not wrap is paid by the form's reach). -/
import Derived.Test.YtehlabdbbbbopaaPa2
import Derived.Test.YtehlabdbbbbopaaPa42
import Derived.SizedLaws

namespace Go.Proofs.Ytehlabdbbbbopaa
open Go.ChangeShapes Go.WideShapes Go.ChangeAt Go.RowKit Go.Deep

def lawTypes : List TypeId := [3, 36, 39, 5, 28]
section
variable {H : Type} {enc : TypeId × Value → H} {W : World}
set_option maxRecDepth 100000 in
/-- The list that came in is as long as what was read of it. -/
theorem open_actsD_long {base : Nat} {v : Value} {d : DataW H} {p : List MemPlace} (hv : Value.okWide Try.prog W .any base 36 v) (h : DataW.Trod enc Try.prog W 0 (fun _ => true) true 36 v d p) :
    ∃ A c l, v = .slice A l.length c ∧ CameD W A c l ∧ (l.length = 0 ∨ ∃ el sp, d = .slice el sp ∧ el.length = l.length) := by
  obtain ⟨A, c, l, rfl, hl⟩ := open_actsD hv h
  refine ⟨A, c, l, rfl, hl, ?_⟩
  obtain ⟨fuel, hf⟩ := h
  rcases open_slice undActsD hf with ⟨hcs, _⟩ | ⟨a, len, cap, m, n, D, Pl, hcs, _, _, _, _, hx, _⟩
  · injection hcs with e
    injection e with _ e
    exact .inl e
  · injection hcs with e
    injection e with _ e
    injection hx with e2
    exact .inr ⟨_, _, e2, by simp [e]⟩
end
theorem bytesActD : Try.prog.bytesOf 39 = 32 := by kernel_rfl
theorem diskCopies_any (w : World) (x : Int) (A B : Option Addr) (c d : Nat) (ahead behind : List ActV) (ha : CameD w A c ahead) (hb : CameD w B d behind) (hs : ahead.length + behind.length ≤ 4000000000000000000) : Calls Try.prog 7 #[.int .i64 x, .slice A ahead.length c, .slice B behind.length d] w fun e w' => e = .returned (.bool true) ∧ Keeps w w' [] := by
  by_cases h : 40 < ahead.length + behind.length ∨ (20 : Int) < x
  · exact diskCopies_far w x A B c d _ _ hs h
  · by_cases h3 : x < 2
    · exact diskCopies_none w x A B c d _ _ (by omega) h3
    · obtain ⟨n, rfl⟩ : ∃ n : Nat, x = n := ⟨x.toNat, by omega⟩
      exact diskCopies_some w n A B c d ahead behind ha hb (by omega) (by omega) (by omega)
set_option maxRecDepth 100000 in
theorem diskCopies_lifted (os : Os) (started : os.Started) (H : Type) (enc : TypeId × Value → H) :
    ReturnsInHanded {} Try.checked os 7 .any (Rows.diskCopiesSpec.pre6 enc Try.prog Try.f7 Rows.diskCopiesRow.domain false) (Rows.diskCopiesSpec.post enc Try.prog Try.f7 false true false false) := by
  refine returnsInHanded_of_change_sized (C := Try.checked) Try.own started (by kernel_rfl) Try.func7
    (ChangeSpec.witness6 (enc := enc) (C := Try.checked) false ⟨#[], #[.int .i64 0, .slice none 0 0, .slice none 0 0], []⟩ 8 (by kernel_rfl) (by kernel_rfl) (by kernel_rfl) (by kernel_rfl)) ?_
  intro W base args ds gs before hval0 hW hcnd hsz _
  have hval : ∀ (j : Nat) t v, Try.f7.params[j]? = some t → args[j]? = some v → Value.okWide Try.prog W .any base t v := hval0
  have hW' := hW
  obtain ⟨p, q, hA0, hV, rfl, hfz, hnd⟩ := hW
  obtain ⟨rfl, rfl⟩ := trodVars_none hV
  have hA : DataW.TrodAll enc Try.prog W 0 (fun _ => true) true [3, 36, 36] args.toList ds p := hA0
  obtain ⟨v0, v1, v2, d0, d1, d2, p0, p1, p2, rfl, rfl, rfl, h0, h1, h2⟩ := trodAll_three hA
  obtain ⟨n, rfl, _, _, _⟩ := open_int undIntS (hval 0 3 v0 rfl rfl) h0
  obtain ⟨A1, c1, l1, rfl, H1, z1⟩ := open_actsD_long (hval 1 36 v1 rfl rfl) h1
  obtain ⟨A2, c2, l2, rfl, H2, z2⟩ := open_actsD_long (hval 2 36 v2 rfl rfl) h2
  have s1 : l1.length ≤ 1000000000000000000 := by
    rcases z1 with z | ⟨el, sp, rfl, z⟩
    · omega
    · have hs : (el.length + sp.length) * Try.prog.bytesOf 39 ≤ reachBytes := sized_slice hsz (j := 1) (t := 36) (elems := el) (spare := sp) rfl rfl undActsD
      rw [bytesActD] at hs
      have := reachBytes_lt
      omega
  have s2 : l2.length ≤ 1000000000000000000 := by
    rcases z2 with z | ⟨el, sp, rfl, z⟩
    · omega
    · have hs : (el.length + sp.length) * Try.prog.bytesOf 39 ≤ reachBytes := sized_slice hsz (j := 2) (t := 36) (elems := el) (spare := sp) rfl rfl undActsD
      rw [bytesActD] at hs
      have := reachBytes_lt
      omega
  refine (diskCopies_any W n A1 A2 c1 c2 l1 l2 H1 H2 (by omega)).mono fun e W' ⟨he, hk⟩ => ?_
  subst he
  exact ⟨_, rfl, law_post (L := lawTypes) (by kernel_rfl) (tb := 4) hW' rfl (by decide) rfl undBool rfl hk⟩

theorem diskCopies_holds : Rows.DiskCopiesSaid :=
  OpenClaim.holds_of_wide 7 Try.f7 rfl rfl rfl rfl rfl rfl rfl ⟨rfl, rfl, rfl, rfl, rfl⟩ rfl rfl rfl rfl rfl (by kernel_rfl) Try.func7 (by kernel_rfl)
    (of_decide_eq_true (by kernel_rfl)) (by unfold Func.isWrapper; first | (rw [if_pos (by decide +kernel)]; kernel_rfl) | (rw [if_neg (by decide +kernel)]; exact ⟨rfl, rfl⟩))
    (fun os started H enc _ => diskCopies_lifted os started H enc)
#print axioms diskCopies_holds
end Go.Proofs.Ytehlabdbbbbopaa
