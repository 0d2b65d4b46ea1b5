/- The statement RecordsReads is proved: what is read of any key and value is a row whose they are, or they are none's. Conditions: none. -/
import Derived.Test.YtfglgeoookbppaaGreatDoorPa0
import Derived.Test.YtfglgeoookbppaaGreatDoorPa11
import Derived.Test.YtfglgeoookbppaaGreatDoorPa46
import Derived.OpenShut

namespace Go.Proofs.YtfglgeoookbppaaGreatDoor
open Go.ChangeShapes Go.WideShapes Go.ChangeAt Go.RowKit
open Go.ChangeMaps (open_string)

section
variable {H : Type} {enc : TypeId × Value → H} {W : World}
theorem rUndThree : Tryz.prog.underlying 36 = some (.array 3 3) := by kernel_rfl
theorem rCellsThree : Tryz.prog.cellsOf 36 = 3 := by kernel_rfl
theorem rCellsInt : Tryz.prog.cellsOf 3 = 1 := by kernel_rfl
set_option maxRecDepth 100000 in
theorem open_bent {base : Nat} {v : Value} {d : DataW H} {p : List MemPlace} (hv : Value.okWide Tryz.prog W .any base 36 v) (h : DataW.Trod enc Tryz.prog W 0 (fun _ => true) true 36 v d p) :
  ∃ x0 x1 x2, v = .agg #[.int .i64 x0, .int .i64 x1, .int .i64 x2] ∧ -9223372036854775808 ≤ x1 ∧ x1 ≤ 9223372036854775807 := by
 unfold Value.okWide at hv
 rw [rUndThree] at hv
 obtain ⟨⟨cs⟩, rfl, hsz, _⟩ := hv
 rw [rCellsThree] at hsz
 obtain ⟨fuel, hf⟩ := h
 match cs, hsz with
 | [c0, c1, c2], _ =>
  obtain ⟨xs, m, _, _, _, hlen, hg⟩ := DataW.trod_array rUndThree hf
  have g : ∀ i c, i < 3 → ((Value.agg #[c0, c1, c2]).cells.toList.drop i).take 1 = [c] → ∃ x, c = .int .i64 x ∧ (Lit.int .i64 x).wf = true := fun i c hi he => by
   have h1 := hg i hi
   rw [rCellsInt, Nat.mul_one, he, List.getElem?_eq_getElem (by omega)] at h1
   obtain ⟨x, e, _, hw⟩ := DataW.trod_int rUndInt h1
   injection e with e
   exact ⟨x, e, hw⟩
  obtain ⟨x0, rfl, _⟩ := g 0 c0 (by omega) rfl
  obtain ⟨x1, rfl, w1⟩ := g 1 c1 (by omega) rfl
  obtain ⟨x2, rfl, _⟩ := g 2 c2 (by omega) rfl
  have hw : (decide ((-9223372036854775808 : Int) ≤ x1) && decide (x1 ≤ 9223372036854775807)) = true := w1
  rw [Bool.and_eq_true, decide_eq_true_eq, decide_eq_true_eq] at hw
  exact ⟨x0, x1, x2, rfl, hw.1, hw.2⟩
end
theorem recordsReads_witness (os : Os) {H : Type} (enc : TypeId × Value → H) :
  (OpenSpec.ofChange Rows.recordsReadsSpec).preRow enc Tryz.prog Tryz.f5 Rows.recordsReadsRow.domain false Rows.recordsReadsRow.laid ((laidWorld os).forCall (fun _ _ => 0) ⟨#[], #[.agg #[.int .i64 0, .string ⟨#[]⟩, .int .i64 0, .int .i64 0, .string ⟨#[]⟩, .string ⟨#[]⟩, .int .i64 0, .bool false, .int .i64 0], .agg #[.int .i64 0, .int .i64 0, .int .i64 0], .string ⟨#[]⟩], []⟩).memory #[.agg #[.int .i64 0, .string ⟨#[]⟩, .int .i64 0, .int .i64 0, .string ⟨#[]⟩, .string ⟨#[]⟩, .int .i64 0, .bool false, .int .i64 0], .agg #[.int .i64 0, .int .i64 0, .int .i64 0], .string ⟨#[]⟩] := by
 have hw : (DataW.whole enc Tryz.prog ((laidWorld os).forCall (fun _ _ => 0) ⟨#[], #[.agg #[.int .i64 0, .string ⟨#[]⟩, .int .i64 0, .int .i64 0, .string ⟨#[]⟩, .string ⟨#[]⟩, .int .i64 0, .bool false, .int .i64 0], .agg #[.int .i64 0, .int .i64 0, .int .i64 0], .string ⟨#[]⟩], []⟩).memory Tryz.f5.params.toList (OpenSpec.ofChange Rows.recordsReadsSpec).vars false #[.agg #[.int .i64 0, .string ⟨#[]⟩, .int .i64 0, .int .i64 0, .string ⟨#[]⟩, .string ⟨#[]⟩, .int .i64 0, .bool false, .int .i64 0], .agg #[.int .i64 0, .int .i64 0, .int .i64 0], .string ⟨#[]⟩].toList 8).map (fun x => (x.1, x.2.1)) =
   some ([.agg [.lit (.int .i64 0), .lit (.string []), .lit (.int .i64 0), .lit (.int .i64 0), .lit (.string []), .lit (.string []), .lit (.int .i64 0), .lit (.bool false), .lit (.int .i64 0)], .agg [.lit (.int .i64 0), .lit (.int .i64 0), .lit (.int .i64 0)], .lit (.string [])], []) := by kernel_rfl
 obtain ⟨⟨x1, x2, x3⟩, hx, hx1⟩ := Option.map_eq_some_iff.1 hw
 simp only [Prod.mk.injEq] at hx1
 obtain ⟨rfl, rfl⟩ := hx1
 exact OpenSpec.preRow_of_cond 8 hx (by kernel_rfl) (fun k hk => by cases hk) (by kernel_rfl) (laid_met os _)
set_option maxRecDepth 100000 in
theorem recordsReads_lifted (os : Os) (started : os.Started) (H : Type) (enc : TypeId × Value → H) (F : Stop.Interp) :
  ReturnsInHanded {} Tryz.checked os 5 .any ((OpenSpec.ofChange Rows.recordsReadsSpec).preRow enc Tryz.prog Tryz.f5 Rows.recordsReadsRow.domain false Rows.recordsReadsRow.laid) (((OpenSpec.ofChange Rows.recordsReadsSpec).at F).post enc Tryz.prog Tryz.f5 false true false false) := by
 refine returnsInHanded_of_row (C := Tryz.checked) (s := OpenSpec.ofChange Rows.recordsReadsSpec) Tryz.own started (by kernel_rfl) Tryz.func5
  (witness_row_atRef (enc := enc) (C := Tryz.checked) false (laidWorld os) #[.agg #[.int .i64 0, .string ⟨#[]⟩, .int .i64 0, .int .i64 0, .string ⟨#[]⟩, .string ⟨#[]⟩, .int .i64 0, .bool false, .int .i64 0], .agg #[.int .i64 0, .int .i64 0, .int .i64 0], .string ⟨#[]⟩] rfl (by kernel_rfl) (by kernel_rfl) (by kernel_rfl) (recordsReads_witness os enc)) ?_
 intro W base args ds gs before hval0 hW _ _ _ _ hsh _
 have hM : MaxL W := maxL_of_shaped hsh
 have hval : ∀ (j : Nat) t v, Tryz.f5.params[j]? = some t → args[j]? = some v → Value.okWide Tryz.prog W .any base t v := hval0
 have hW' := hW
 obtain ⟨p, q, hA0, hV, rfl, hfz, hnd⟩ := hW
 obtain ⟨rfl, rfl⟩ := trodVars_none hV
 have hA : DataW.TrodAll enc Tryz.prog W 0 (fun _ => true) true [25, 36, 9] args.toList ds p := hA0
 obtain ⟨v0, v1, v2, d0, d1, d2, p0, p1, p2, rfl, rfl, rfl, h0, h1, h2⟩ := trodAll_three hA
 obtain ⟨x, rfl, _, _⟩ := open_row (hval 0 25 v0 rfl rfl) h0
 obtain ⟨b0, b1, b2, rfl, hb⟩ := open_bent (hval 1 36 v1 rfl rfl) h1
 obtain ⟨T, rfl, _, _, _⟩ := open_string rUndStr (hval 2 9 v2 rfl rfl) h2
 refine (recordsReads_any x b0 b1 b2 T.data.toList W hM hb).mono fun e W' ⟨he, hk⟩ => ?_
 subst he
 exact ⟨_, rfl, law_post (L := [25, 36, 22, 9, 2, 3, 4, 23]) (by kernel_rfl) (tb := 4) hW' rfl (by decide) rfl undBool rfl hk⟩
theorem recordsReads_row : Rows.RecordsReadsSaid :=
 OpenClaim.holds_of_cond 5 Tryz.f5 rfl rfl rfl rfl rfl rfl rfl ⟨rfl, rfl, rfl, rfl, rfl⟩ rfl rfl rfl rfl rfl (by kernel_rfl) Tryz.func5 (by kernel_rfl)
  (of_decide_eq_true (by kernel_rfl)) (by unfold Func.isWrapper; first | (rw [if_pos (by decide +kernel)]; kernel_rfl) | (rw [if_neg (by decide +kernel)]; exact ⟨rfl, rfl⟩))
  (fun os started H enc _ F0 => by rw [OpenClaim.pre_eq_preRow]; exact recordsReads_lifted os started H enc F0)
theorem recordsReads_card : Rows.RecordsReadsCardSaid :=
 Claim7.holds_tied_plain_at .later [] [.data, .pinned] true (true, "f8ba58f2a54812a014e611f7cb471de9ae266b2c6518d90f27efd261ed577db5") true
  recordsReads_row (fun _ h => by cases h) (by kernel_rfl) (fun _ h => by cases h) recordsReads_row_tie rfl ⟨rfl, rfl⟩ (by kernel_rfl) rfl
  (fun f fn hf hfn => by
   obtain rfl : f = 5 := Option.some.inj ((show Tryz.prog.funcNamed "pigeonry/pigeonrylaw19.RecordsReads" = some 5 by kernel_rfl).symm.trans hf) |>.symm
   obtain rfl : fn = Tryz.f5 := (Option.some.inj (Tryz.func5.symm.trans hfn)).symm
   refine ⟨by kernel_rfl, fun j t ht => ?_⟩
   have hall : ∀ t' ∈ Tryz.f5.params.toList, Tryz.prog.wantsStandIn t' = false := by
    have : Tryz.f5.params.toList.all (fun t' => !Tryz.prog.wantsStandIn t') = true := by kernel_rfl
    exact fun t' h' => by simpa using List.all_eq_true.1 this t' h'
   exact hall t (by rw [Array.mem_toList_iff]; exact Array.mem_of_getElem? ht))
  (by kernel_rfl)
#print axioms recordsReads_card
end Go.Proofs.YtfglgeoookbppaaGreatDoor
