/- The statement MatchMany is proved: 4096 entries may be set, one more may not; then one that stands is set anew. Conditions: none. -/
import Derived.Test.YtoadlafdeoklbaaDoorPa2
import Derived.Test.YtoadlafdeoklbaaDoorPa35

namespace Go.Proofs.YtoadlafdeoklbaaDoor
open Go.ChangeShapes Go.WideShapes Go.ChangeAt Go.RowKit

theorem undI64:Tryd.prog.underlying 3=some (.int .i64):=by kernel_rfl
theorem matchMany_witness (os:Os){H:Type}(enc:TypeId×Value→H):
  (OpenSpec.ofChange Rows.matchManySpec).preRow enc Tryd.prog Tryd.f3 Rows.matchManyRow.domain false Rows.matchManyRow.laid ((laidWorld os).forCall (fun _ _=>0) ⟨#[], #[.int .i64 0], []⟩).memory #[.int .i64 0]:=by
 have hw:(DataW.whole enc Tryd.prog ((laidWorld os).forCall (fun _ _=>0) ⟨#[], #[.int .i64 0], []⟩).memory Tryd.f3.params.toList (OpenSpec.ofChange Rows.matchManySpec).vars false #[.int .i64 0].toList 8).map (fun x=>(x.1,x.2.1))=
   some ([.lit (.int .i64 0)], []):=by kernel_rfl
 obtain⟨⟨x1,x2,x3⟩,hx,hx1⟩:=Option.map_eq_some_iff.1 hw;simp only[Prod.mk.injEq]at hx1;obtain⟨rfl,rfl⟩:=hx1;exact OpenSpec.preRow_of_cond 8 hx (by kernel_rfl) (fun k hk=>by cases hk) (by kernel_rfl) (laid_met os _)
set_option maxRecDepth 100000 in
theorem matchMany_lifted (os:Os)(started:os.Started)(H:Type)(enc:TypeId×Value→H)(F:Stop.Interp):
  ReturnsInHanded {} Tryd.checked os 3 .any ((OpenSpec.ofChange Rows.matchManySpec).preRow enc Tryd.prog Tryd.f3 Rows.matchManyRow.domain false Rows.matchManyRow.laid) (((OpenSpec.ofChange Rows.matchManySpec).at F).post enc Tryd.prog Tryd.f3 false true false false):=by
 refine returnsInHanded_of_row (C:=Tryd.checked) (s:=OpenSpec.ofChange Rows.matchManySpec) Tryd.own started (by kernel_rfl) Tryd.func3
  (witness_row_atRef (enc:=enc) (C:=Tryd.checked) false (laidWorld os) #[.int .i64 0] rfl (by kernel_rfl) (by kernel_rfl) (by kernel_rfl) (matchMany_witness os enc)) ?_
 intro W base args ds gs before hval0 hW _ _ _ _ hsh _;have hM:MaxL W:=maxL_of_shaped hsh;have hval:∀(j:Nat) t v,Tryd.f3.params[j]? =some t→args[j]? =some v→Value.okWide Tryd.prog W .any base t v:=hval0;have hW' :=hW;obtain⟨p,q,hA0,hV,rfl,hfz,hnd⟩:=hW;obtain⟨rfl,rfl⟩:=trodVars_none hV;have hA:DataW.TrodAll enc Tryd.prog W 0 (fun _=>true) true [3] args.toList ds p:=hA0;obtain⟨v0,d0,rfl,rfl,h0⟩:=trodAll_one hA;obtain⟨n0,rfl,_,_,w0⟩:=open_int undI64 (hval 0 3 v0 rfl rfl) h0;refine(matchMany_any W n0 hM).mono fun e W' ⟨he,hk⟩=> ?_
 subst he;exact⟨_,rfl,law_post (L:= [3]) (by kernel_rfl) (tb:=4) hW' rfl (by decide) rfl undBool rfl hk⟩
theorem matchMany_row:Rows.MatchManySaid:=
 OpenClaim.holds_of_cond 3 Tryd.f3 rfl rfl rfl rfl rfl rfl rfl ⟨rfl,rfl,rfl,rfl,rfl⟩ rfl rfl rfl rfl rfl (by kernel_rfl) Tryd.func3 (by kernel_rfl)
  (of_decide_eq_true (by kernel_rfl)) (by unfold Func.isWrapper;first | (rw[if_pos (by decide+kernel)];kernel_rfl) | (rw[if_neg (by decide+kernel)];exact⟨rfl,rfl⟩))
  (fun os started H enc _ F0=>by rw[OpenClaim.pre_eq_preRow];exact matchMany_lifted os started H enc F0)
theorem matchMany_card:Rows.MatchManyCardSaid:=
 Claim7.holds_tied_plain_at .later [] [.data, .pinned] true (true, "ccfae962b710905c7876c255680e84cf81977dab4f2ad78727feba80a6009517") false
  matchMany_row (fun _ h=>by cases h) (by kernel_rfl) (fun _ h=>by cases h) matchMany_row_tie rfl ⟨rfl,rfl⟩ (by kernel_rfl) rfl
  (fun f fn hf hfn=>by
   obtain rfl : f = 3 := Option.some.inj ((show Tryd.prog.funcNamed "pigeonry/pigeonrylaw14.MatchMany" = some 3 by kernel_rfl).symm.trans hf) |>.symm
   obtain rfl:fn=Tryd.f3:=(Option.some.inj (Tryd.func3.symm.trans hfn)).symm;refine⟨by kernel_rfl,fun j t ht=> ?_⟩;have hall:∀t' ∈Tryd.f3.params.toList,Tryd.prog.wantsStandIn t' =false:=by
    have:Tryd.f3.params.toList.all (fun t' => !Tryd.prog.wantsStandIn t')=true:=by kernel_rfl
    exact fun t' h' =>by simpa using List.all_eq_true.1 this t' h'
   exact hall t (by rw[Array.mem_toList_iff];exact Array.mem_of_getElem? ht))
  (by kernel_rfl)
#print axioms matchMany_card
end Go.Proofs.YtoadlafdeoklbaaDoor
