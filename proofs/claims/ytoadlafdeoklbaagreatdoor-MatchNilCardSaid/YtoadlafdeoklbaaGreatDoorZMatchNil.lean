/- The statement MatchNil is proved: a book that is not there answers so, whatever is called. Conditions: none. -/
import Derived.Test.YtoadlafdeoklbaaGreatDoorPa1
import Derived.Test.YtoadlafdeoklbaaGreatDoorPa47
import Derived.Test.YtoadlafdeoklbaaGreatDoorPa39

namespace Go.Proofs.YtoadlafdeoklbaaGreatDoor
open Go.ChangeShapes Go.WideShapes Go.ChangeAt Go.RowKit

set_option maxRecDepth 100000 in
theorem matchNil_witness (os:Os){H:Type}(enc:TypeId×Value→H):
  (OpenSpec.ofChange Rows.matchNilSpec).preRow enc Tryz.prog Tryz.f7 Rows.matchNilRow.domain false Rows.matchNilRow.laid ((laidWorld os).forCall (fun _ _=>0) ⟨#[], #[.agg #[.string ⟨#[]⟩,.string ⟨#[]⟩,.int .i64 0]], []⟩).memory #[.agg #[.string ⟨#[]⟩,.string ⟨#[]⟩,.int .i64 0]]:=by
 have hw:(DataW.whole enc Tryz.prog ((laidWorld os).forCall (fun _ _=>0) ⟨#[], #[.agg #[.string ⟨#[]⟩,.string ⟨#[]⟩,.int .i64 0]], []⟩).memory Tryz.f7.params.toList (OpenSpec.ofChange Rows.matchNilSpec).vars false #[.agg #[.string ⟨#[]⟩,.string ⟨#[]⟩,.int .i64 0]].toList 8).map (fun x=>(x.1,x.2.1))=
   some ([.agg [.lit (.string []),.lit (.string []),.lit (.int .i64 0)]], []):=by kernel_rfl
 obtain⟨⟨x1,x2,x3⟩,hx,hx1⟩:=Option.map_eq_some_iff.1 hw;simp only[Prod.mk.injEq]at hx1;obtain⟨rfl,rfl⟩:=hx1;exact OpenSpec.preRow_of_cond 8 hx (by kernel_rfl) (fun k hk=>by cases hk) (by kernel_rfl) (laid_met os _)
set_option maxRecDepth 100000 in
theorem matchNil_lifted (os:Os)(started:os.Started)(H:Type)(enc:TypeId×Value→H)(F:Stop.Interp):
  ReturnsInHanded {} Tryz.checked os 7 .any ((OpenSpec.ofChange Rows.matchNilSpec).preRow enc Tryz.prog Tryz.f7 Rows.matchNilRow.domain false Rows.matchNilRow.laid) (((OpenSpec.ofChange Rows.matchNilSpec).at F).post enc Tryz.prog Tryz.f7 false true false false):=by
 refine returnsInHanded_of_row (C:=Tryz.checked) (s:=OpenSpec.ofChange Rows.matchNilSpec) Tryz.own started (by kernel_rfl) Tryz.func7
  (witness_row_atRef (enc:=enc) (C:=Tryz.checked) false (laidWorld os) #[.agg #[.string ⟨#[]⟩,.string ⟨#[]⟩,.int .i64 0]] rfl (by kernel_rfl) (by kernel_rfl) (by kernel_rfl) (matchNil_witness os enc)) ?_
 intro W base args ds gs before hval0 hW _ _ _ _ hsh _;have hM:MaxL W:=maxL_of_shaped hsh;have hval:∀(j:Nat) t v,Tryz.f7.params[j]? =some t→args[j]? =some v→Value.okWide Tryz.prog W .any base t v:=hval0;have hW' :=hW;obtain⟨p,q,hA0,hV,rfl,hfz,hnd⟩:=hW;obtain⟨rfl,rfl⟩:=trodVars_none hV;have hA:DataW.TrodAll enc Tryz.prog W 0 (fun _=>true) true [25] args.toList ds p:=hA0;obtain⟨v0,d0,rfl,rfl,h0⟩:=trodAll_one hA;obtain⟨s,rfl⟩:=open_sub (hval 0 25 v0 rfl rfl) h0;refine(matchNil_any W s hM).mono fun e W' ⟨he,hk⟩=> ?_
 subst he;exact⟨_,rfl,law_post (L:= [25,9,3]) (by kernel_rfl) (tb:=4) hW' rfl (by decide) rfl undBool rfl hk⟩
theorem matchNil_row:Rows.MatchNilSaid:=
 OpenClaim.holds_of_cond 7 Tryz.f7 rfl rfl rfl rfl rfl rfl rfl ⟨rfl,rfl,rfl,rfl,rfl⟩ rfl rfl rfl rfl rfl (by kernel_rfl) Tryz.func7 (by kernel_rfl)
  (of_decide_eq_true (by kernel_rfl)) (by unfold Func.isWrapper;first | (rw[if_pos (by decide+kernel)];kernel_rfl) | (rw[if_neg (by decide+kernel)];exact⟨rfl,rfl⟩))
  (fun os started H enc _ F0=>by rw[OpenClaim.pre_eq_preRow];exact matchNil_lifted os started H enc F0)
theorem matchNil_card:Rows.MatchNilCardSaid:=
 Claim7.holds_tied_plain_at .later [] [.data, .pinned] true (true, "8aba75f6cf905f1fbdc825d9b5b5d2b4c5aef33c24cc08716c5c9dd843677c45") false
  matchNil_row (fun _ h=>by cases h) (by kernel_rfl) (fun _ h=>by cases h) matchNil_row_tie rfl ⟨rfl,rfl⟩ (by kernel_rfl) rfl
  (fun f fn hf hfn=>by
   obtain rfl : f = 7 := Option.some.inj ((show Tryz.prog.funcNamed "pigeonry/pigeonrylaw14.MatchNil" = some 7 by kernel_rfl).symm.trans hf) |>.symm
   obtain rfl:fn=Tryz.f7:=(Option.some.inj (Tryz.func7.symm.trans hfn)).symm;refine⟨by kernel_rfl,fun j t ht=> ?_⟩;have hall:∀t' ∈Tryz.f7.params.toList,Tryz.prog.wantsStandIn t' =false:=by
    have:Tryz.f7.params.toList.all (fun t' => !Tryz.prog.wantsStandIn t')=true:=by kernel_rfl
    exact fun t' h' =>by simpa using List.all_eq_true.1 this t' h'
   exact hall t (by rw[Array.mem_toList_iff];exact Array.mem_of_getElem? ht))
  (by kernel_rfl)
#print axioms matchNil_card
end Go.Proofs.YtoadlafdeoklbaaGreatDoor
