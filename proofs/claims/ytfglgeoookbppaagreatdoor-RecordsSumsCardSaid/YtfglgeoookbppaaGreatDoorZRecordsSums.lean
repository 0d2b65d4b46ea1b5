/- The statement RecordsSums is proved: two unlike topics of one sum have one beginning, and unlike keys by their places alone. Conditions: none. -/
import Derived.Test.YtfglgeoookbppaaGreatDoorPa2
import Derived.Test.YtfglgeoookbppaaGreatDoorPa49

namespace Go.Proofs.YtfglgeoookbppaaGreatDoor
open Go.ChangeShapes Go.WideShapes Go.ChangeAt Go.RowKit

theorem undU16 : Tryz.prog.underlying 34 = some (.int .u16) := by kernel_rfl
theorem recordsSums_witness (os : Os) {H : Type} (enc : TypeId × Value → H) :
    (OpenSpec.ofChange Rows.recordsSumsSpec).preRow enc Tryz.prog Tryz.f4 Rows.recordsSumsRow.domain false Rows.recordsSumsRow.laid ((laidWorld os).forCall (fun _ _ => 0) ⟨#[], #[.int .u16 0, .int .u16 0, .bool false], []⟩).memory #[.int .u16 0, .int .u16 0, .bool false] := by
  have hw : (DataW.whole enc Tryz.prog ((laidWorld os).forCall (fun _ _ => 0) ⟨#[], #[.int .u16 0, .int .u16 0, .bool false], []⟩).memory Tryz.f4.params.toList (OpenSpec.ofChange Rows.recordsSumsSpec).vars false #[.int .u16 0, .int .u16 0, .bool false].toList 8).map (fun x => (x.1, x.2.1)) =
      some ([.lit (.int .u16 0), .lit (.int .u16 0), .lit (.bool false)], []) := by kernel_rfl
  obtain ⟨⟨x1, x2, x3⟩, hx, hx1⟩ := Option.map_eq_some_iff.1 hw
  simp only [Prod.mk.injEq] at hx1
  obtain ⟨rfl, rfl⟩ := hx1
  exact OpenSpec.preRow_of_cond 8 hx (by kernel_rfl) (fun k hk => by cases hk) (by kernel_rfl) (laid_met os _)
set_option maxRecDepth 100000 in
theorem recordsSums_lifted (os : Os) (started : os.Started) (H : Type) (enc : TypeId × Value → H) (F : Stop.Interp) :
    ReturnsInHanded {} Tryz.checked os 4 .any ((OpenSpec.ofChange Rows.recordsSumsSpec).preRow enc Tryz.prog Tryz.f4 Rows.recordsSumsRow.domain false Rows.recordsSumsRow.laid) (((OpenSpec.ofChange Rows.recordsSumsSpec).at F).post enc Tryz.prog Tryz.f4 false true false false) := by
  refine returnsInHanded_of_row (C := Tryz.checked) (s := OpenSpec.ofChange Rows.recordsSumsSpec) Tryz.own started (by kernel_rfl) Tryz.func4
    (witness_row_atRef (enc := enc) (C := Tryz.checked) false (laidWorld os) #[.int .u16 0, .int .u16 0, .bool false] rfl (by kernel_rfl) (by kernel_rfl) (by kernel_rfl) (recordsSums_witness os enc)) ?_
  intro W base args ds gs before hval0 hW _ _ _ _ hsh _
  have hM : MaxL W := maxL_of_shaped hsh
  have hval : ∀ (j : Nat) t v, Tryz.f4.params[j]? = some t → args[j]? = some v → Value.okWide Tryz.prog W .any base t v := hval0
  have hW' := hW
  obtain ⟨p, q, hA0, hV, rfl, hfz, hnd⟩ := hW
  obtain ⟨rfl, rfl⟩ := trodVars_none hV
  have hA : DataW.TrodAll enc Tryz.prog W 0 (fun _ => true) true [34, 34, 4] args.toList ds p := hA0
  obtain ⟨v0, v1, v2, d0, d1, d2, p0, p1, p2, rfl, rfl, rfl, h0, h1, h2⟩ := trodAll_three hA
  obtain ⟨n0, rfl, _, _, w0⟩ := open_int undU16 (hval 0 34 v0 rfl rfl) h0
  obtain ⟨n1, rfl, _, _, w1⟩ := open_int undU16 (hval 1 34 v1 rfl rfl) h1
  obtain ⟨f, rfl, _, _⟩ := open_bool undBool (hval 2 4 v2 rfl rfl) h2
  have b0 : 0 ≤ n0 ∧ n0 ≤ 65535 := by
    have e : (decide (IntKind.u16.min ≤ n0) && decide (n0 ≤ IntKind.u16.max)) = true := w0
    rw [show IntKind.u16.min = 0 by decide, show IntKind.u16.max = 65535 by decide] at e
    simpa using e
  have b1 : 0 ≤ n1 ∧ n1 ≤ 65535 := by
    have e : (decide (IntKind.u16.min ≤ n1) && decide (n1 ≤ IntKind.u16.max)) = true := w1
    rw [show IntKind.u16.min = 0 by decide, show IntKind.u16.max = 65535 by decide] at e
    simpa using e
  obtain ⟨a, rfl⟩ : ∃ a : Nat, n0 = a := ⟨n0.toNat, by omega⟩
  obtain ⟨b, rfl⟩ : ∃ b : Nat, n1 = b := ⟨n1.toNat, by omega⟩
  refine (recordsSums_any W a b (by omega) (by omega) f hM).mono fun e W' ⟨he, hk⟩ => ?_
  subst he
  exact ⟨_, rfl, law_post (L := [34, 4]) (by kernel_rfl) (tb := 4) hW' rfl (by decide) rfl undBool rfl hk⟩
theorem recordsSums_row : Rows.RecordsSumsSaid :=
  OpenClaim.holds_of_cond 4 Tryz.f4 rfl rfl rfl rfl rfl rfl rfl ⟨rfl, rfl, rfl, rfl, rfl⟩ rfl rfl rfl rfl rfl (by kernel_rfl) Tryz.func4 (by kernel_rfl)
    (of_decide_eq_true (by kernel_rfl)) (by unfold Func.isWrapper; first | (rw [if_pos (by decide +kernel)]; kernel_rfl) | (rw [if_neg (by decide +kernel)]; exact ⟨rfl, rfl⟩))
    (fun os started H enc _ F0 => by rw [OpenClaim.pre_eq_preRow]; exact recordsSums_lifted os started H enc F0)
theorem recordsSums_card : Rows.RecordsSumsCardSaid :=
  Claim7.holds_tied_plain_at .later [] [.data, .pinned] true (true, "f8ba58f2a54812a014e611f7cb471de9ae266b2c6518d90f27efd261ed577db5") true
    recordsSums_row (fun _ h => by cases h) (by kernel_rfl) (fun _ h => by cases h) recordsSums_row_tie rfl ⟨rfl, rfl⟩ (by kernel_rfl) rfl
    (fun f fn hf hfn => by
      obtain rfl : f = 4 := Option.some.inj ((show Tryz.prog.funcNamed "pigeonry/pigeonrylaw19.RecordsSums" = some 4 by kernel_rfl).symm.trans hf) |>.symm
      obtain rfl : fn = Tryz.f4 := (Option.some.inj (Tryz.func4.symm.trans hfn)).symm
      refine ⟨by kernel_rfl, fun j t ht => ?_⟩
      have hall : ∀ t' ∈ Tryz.f4.params.toList, Tryz.prog.wantsStandIn t' = false := by
        have : Tryz.f4.params.toList.all (fun t' => !Tryz.prog.wantsStandIn t') = true := by kernel_rfl
        exact fun t' h' => by simpa using List.all_eq_true.1 this t' h'
      exact hall t (by rw [Array.mem_toList_iff]; exact Array.mem_of_getElem? ht))
    (by kernel_rfl)
#print axioms recordsSums_card
end Go.Proofs.YtfglgeoookbppaaGreatDoor
