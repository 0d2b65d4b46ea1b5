/- The statement MatchOrders is proved: who is told does not hang on the order in which entries were set, and an entry that is set and dropped leaves all as it was. Conditions: none (that a list's bytes lie within an address space is paid by the form's reach). -/
import Derived.Test.YtoadlafdeoklbaaGreatDoorPa1
import Derived.Test.YtoadlafdeoklbaaGreatDoorPa44
import Derived.Test.YtoadlafdeoklbaaGreatDoorPa39

namespace Go.Proofs.YtoadlafdeoklbaaGreatDoor
open Go.ChangeShapes Go.WideShapes Go.ChangeAt Go.RowKit
open Go.ChangeMaps (open_string)

theorem undStrA:Tryz.prog.underlying 9=some .string:=by kernel_rfl
theorem bytesSubA:Tryz.prog.bytesOf 25=40:=by kernel_rfl
set_option maxRecDepth 100000 in
theorem matchOrders_witness (os:Os){H:Type}(enc:TypeId×Value→H):
  (OpenSpec.ofChange Rows.matchOrdersSpec).preRow enc Tryz.prog Tryz.f4 Rows.matchOrdersRow.domain false Rows.matchOrdersRow.laid ((laidWorld os).forCall (fun _ _=>0) ⟨#[], #[.slice none 0 0,.string ⟨#[]⟩,.agg #[.string ⟨#[]⟩,.string ⟨#[]⟩,.int .i64 0]], []⟩).memory #[.slice none 0 0,.string ⟨#[]⟩,.agg #[.string ⟨#[]⟩,.string ⟨#[]⟩,.int .i64 0]]:=by
 have hw:(DataW.whole enc Tryz.prog ((laidWorld os).forCall (fun _ _=>0) ⟨#[], #[.slice none 0 0,.string ⟨#[]⟩,.agg #[.string ⟨#[]⟩,.string ⟨#[]⟩,.int .i64 0]], []⟩).memory Tryz.f4.params.toList (OpenSpec.ofChange Rows.matchOrdersSpec).vars false #[.slice none 0 0,.string ⟨#[]⟩,.agg #[.string ⟨#[]⟩,.string ⟨#[]⟩,.int .i64 0]].toList 8).map (fun x=>(x.1,x.2.1))=
   some ([.nil,.lit (.string []),.agg [.lit (.string []),.lit (.string []),.lit (.int .i64 0)]], []):=by kernel_rfl
 obtain⟨⟨x1,x2,x3⟩,hx,hx1⟩:=Option.map_eq_some_iff.1 hw;simp only[Prod.mk.injEq]at hx1;obtain⟨rfl,rfl⟩:=hx1;exact OpenSpec.preRow_of_cond 8 hx (by kernel_rfl) (fun k hk=>by cases hk) (by kernel_rfl) (laid_met os _)
set_option maxRecDepth 100000 in
theorem matchOrders_lifted (os:Os)(started:os.Started)(H:Type)(enc:TypeId×Value→H)(F:Stop.Interp):
  ReturnsInHanded {} Tryz.checked os 4 .any ((OpenSpec.ofChange Rows.matchOrdersSpec).preRow enc Tryz.prog Tryz.f4 Rows.matchOrdersRow.domain false Rows.matchOrdersRow.laid) (((OpenSpec.ofChange Rows.matchOrdersSpec).at F).post enc Tryz.prog Tryz.f4 false true false false):=by
 refine returnsInHanded_of_row (C:=Tryz.checked) (s:=OpenSpec.ofChange Rows.matchOrdersSpec) Tryz.own started (by kernel_rfl) Tryz.func4
  (witness_row_atRef (enc:=enc) (C:=Tryz.checked) false (laidWorld os) #[.slice none 0 0,.string ⟨#[]⟩,.agg #[.string ⟨#[]⟩,.string ⟨#[]⟩,.int .i64 0]] rfl (by kernel_rfl) (by kernel_rfl) (by kernel_rfl) (matchOrders_witness os enc)) ?_
 intro W base args ds gs before hval0 hW _ _ hsz _ hsh _;have hM:MaxL W:=maxL_of_shaped hsh;have hval:∀(j:Nat) t v,Tryz.f4.params[j]? =some t→args[j]? =some v→Value.okWide Tryz.prog W .any base t v:=hval0;have hW' :=hW;obtain⟨p,q,hA0,hV,rfl,hfz,hnd⟩:=hW;obtain⟨rfl,rfl⟩:=trodVars_none hV;have hA:DataW.TrodAll enc Tryz.prog W 0 (fun _=>true) true [22,9,25] args.toList ds p:=hA0;obtain⟨v0,v1,v2,d0,d1,d2,p0,p1,p2,rfl,rfl,rfl,h0,h1,h2⟩:=trodAll_three hA;obtain⟨A1,c1,l1,rfl,C1,z1⟩:=open_subs h0 (okWide_slice oUndSubs (hval 0 22 v0 rfl rfl));obtain⟨s,rfl,_,_,_⟩:=open_string undStrA (hval 1 9 v1 rfl rfl) h1;obtain⟨one,rfl⟩:=open_sub (hval 2 25 v2 rfl rfl) h2;have s1:l1.length*40≤140737488351232:=by
  rcases z1 with z | ⟨el,sp,rfl,z⟩
  ·omega
  ·have hs:(el.length+sp.length)*Tryz.prog.bytesOf 25≤reachBytes:=sized_slice hsz (j:=0) (t:=22) (elems:=el) (spare:=sp) rfl rfl oUndSubs
   rw[bytesSubA]at hs;have hr:reachBytes=140737488351232:=rfl;omega
 rw[str_back s];refine(matchOrders_any W A1 c1 l1 s.data.toList one hM C1 s1).mono fun e W' ⟨he,hk⟩=> ?_
 subst he;exact⟨_,rfl,law_post (L:= [22,9,25,3]) (by kernel_rfl) (tb:=4) hW' rfl (by decide) rfl undBool rfl hk⟩
theorem matchOrders_row:Rows.MatchOrdersSaid:=
 OpenClaim.holds_of_cond 4 Tryz.f4 rfl rfl rfl rfl rfl rfl rfl ⟨rfl,rfl,rfl,rfl,rfl⟩ rfl rfl rfl rfl rfl (by kernel_rfl) Tryz.func4 (by kernel_rfl)
  (of_decide_eq_true (by kernel_rfl)) (by unfold Func.isWrapper;first | (rw[if_pos (by decide+kernel)];kernel_rfl) | (rw[if_neg (by decide+kernel)];exact⟨rfl,rfl⟩))
  (fun os started H enc _ F0=>by rw[OpenClaim.pre_eq_preRow];exact matchOrders_lifted os started H enc F0)
theorem matchOrders_card:Rows.MatchOrdersCardSaid:=
 Claim7.holds_tied_plain_at .later [] [.data, .pinned] true (true, "8aba75f6cf905f1fbdc825d9b5b5d2b4c5aef33c24cc08716c5c9dd843677c45") false
  matchOrders_row (fun _ h=>by cases h) (by kernel_rfl) (fun _ h=>by cases h) matchOrders_row_tie rfl ⟨rfl,rfl⟩ (by kernel_rfl) rfl
  (fun f fn hf hfn=>by
   obtain rfl : f = 4 := Option.some.inj ((show Tryz.prog.funcNamed "pigeonry/pigeonrylaw14.MatchOrders" = some 4 by kernel_rfl).symm.trans hf) |>.symm
   obtain rfl:fn=Tryz.f4:=(Option.some.inj (Tryz.func4.symm.trans hfn)).symm;refine⟨by kernel_rfl,fun j t ht=> ?_⟩;have hall:∀t' ∈Tryz.f4.params.toList,Tryz.prog.wantsStandIn t' =false:=by
    have:Tryz.f4.params.toList.all (fun t' => !Tryz.prog.wantsStandIn t')=true:=by kernel_rfl
    exact fun t' h' =>by simpa using List.all_eq_true.1 this t' h'
   exact hall t (by rw[Array.mem_toList_iff];exact Array.mem_of_getElem? ht))
  (by kernel_rfl)
#print axioms matchOrders_card
end Go.Proofs.YtoadlafdeoklbaaGreatDoor
