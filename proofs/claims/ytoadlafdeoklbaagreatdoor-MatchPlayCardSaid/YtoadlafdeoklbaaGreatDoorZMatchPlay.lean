/- The statement MatchPlay is proved: behind any calls the book has just the entries that the document's list has, and tells just whom it tells. Conditions: none (that a list's bytes lie within an address space is paid by the form's reach). -/
import Derived.Test.YtoadlafdeoklbaaGreatDoorPa1
import Derived.Test.YtoadlafdeoklbaaGreatDoorPa54
import Derived.Test.YtoadlafdeoklbaaGreatDoorPa39

namespace Go.Proofs.YtoadlafdeoklbaaGreatDoor
open Go.ChangeShapes Go.WideShapes Go.ChangeAt Go.RowKit
open Go.ChangeMaps (open_string)

theorem undStrA:Tryz.prog.underlying 9=some .string:=by kernel_rfl
theorem bytesActP:Tryz.prog.bytesOf 27=48:=by kernel_rfl
set_option maxRecDepth 100000 in
theorem matchPlay_witness (os:Os){H:Type}(enc:TypeId×Value→H):
  (OpenSpec.ofChange Rows.matchPlaySpec).preRow enc Tryz.prog Tryz.f5 Rows.matchPlayRow.domain false Rows.matchPlayRow.laid ((laidWorld os).forCall (fun _ _=>0) ⟨#[], #[.slice none 0 0,.string ⟨#[]⟩], []⟩).memory #[.slice none 0 0,.string ⟨#[]⟩]:=by
 have hw:(DataW.whole enc Tryz.prog ((laidWorld os).forCall (fun _ _=>0) ⟨#[], #[.slice none 0 0,.string ⟨#[]⟩], []⟩).memory Tryz.f5.params.toList (OpenSpec.ofChange Rows.matchPlaySpec).vars false #[.slice none 0 0,.string ⟨#[]⟩].toList 8).map (fun x=>(x.1,x.2.1))=
   some ([.nil,.lit (.string [])], []):=by kernel_rfl
 obtain⟨⟨x1,x2,x3⟩,hx,hx1⟩:=Option.map_eq_some_iff.1 hw;simp only[Prod.mk.injEq]at hx1;obtain⟨rfl,rfl⟩:=hx1;exact OpenSpec.preRow_of_cond 8 hx (by kernel_rfl) (fun k hk=>by cases hk) (by kernel_rfl) (laid_met os _)
set_option maxRecDepth 100000 in
theorem matchPlay_lifted (os:Os)(started:os.Started)(H:Type)(enc:TypeId×Value→H)(F:Stop.Interp):
  ReturnsInHanded {} Tryz.checked os 5 .any ((OpenSpec.ofChange Rows.matchPlaySpec).preRow enc Tryz.prog Tryz.f5 Rows.matchPlayRow.domain false Rows.matchPlayRow.laid) (((OpenSpec.ofChange Rows.matchPlaySpec).at F).post enc Tryz.prog Tryz.f5 false true false false):=by
 refine returnsInHanded_of_row (C:=Tryz.checked) (s:=OpenSpec.ofChange Rows.matchPlaySpec) Tryz.own started (by kernel_rfl) Tryz.func5
  (witness_row_atRef (enc:=enc) (C:=Tryz.checked) false (laidWorld os) #[.slice none 0 0,.string ⟨#[]⟩] rfl (by kernel_rfl) (by kernel_rfl) (by kernel_rfl) (matchPlay_witness os enc)) ?_
 intro W base args ds gs before hval0 hW _ _ hsz _ hsh _;have hM:MaxL W:=maxL_of_shaped hsh;have hval:∀(j:Nat) t v,Tryz.f5.params[j]? =some t→args[j]? =some v→Value.okWide Tryz.prog W .any base t v:=hval0;have hW' :=hW;obtain⟨p,q,hA0,hV,rfl,hfz,hnd⟩:=hW;obtain⟨rfl,rfl⟩:=trodVars_none hV;have hA:DataW.TrodAll enc Tryz.prog W 0 (fun _=>true) true [23,9] args.toList ds p:=hA0;obtain⟨v0,v1,d0,d1,p0,p1,rfl,rfl,rfl,h0,h1⟩:=trodAll_two hA;obtain⟨A1,c1,l1,rfl,C1,z1⟩:=open_acts h0 (okWide_slice oUndActs (hval 0 23 v0 rfl rfl));obtain⟨s,rfl,_,_,_⟩:=open_string undStrA (hval 1 9 v1 rfl rfl) h1;have s1:l1.length≤9223372036854775807:=by
  rcases z1 with z | ⟨el,sp,rfl,z⟩
  ·omega
  ·have hs:(el.length+sp.length)*Tryz.prog.bytesOf 27≤reachBytes:=sized_slice hsz (j:=0) (t:=23) (elems:=el) (spare:=sp) rfl rfl oUndActs
   rw[bytesActP]at hs;have hr:reachBytes=140737488351232:=rfl;omega
 rw[str_back s];refine(matchPlay_any W A1 c1 l1 s.data.toList hM C1 s1).mono fun e W' ⟨he,hk⟩=> ?_
 subst he;exact⟨_,rfl,law_post (L:= [23,9,27,25,3]) (by kernel_rfl) (tb:=4) hW' rfl (by decide) rfl undBool rfl hk⟩
theorem matchPlay_row:Rows.MatchPlaySaid:=
 OpenClaim.holds_of_cond 5 Tryz.f5 rfl rfl rfl rfl rfl rfl rfl ⟨rfl,rfl,rfl,rfl,rfl⟩ rfl rfl rfl rfl rfl (by kernel_rfl) Tryz.func5 (by kernel_rfl)
  (of_decide_eq_true (by kernel_rfl)) (by unfold Func.isWrapper;first | (rw[if_pos (by decide+kernel)];kernel_rfl) | (rw[if_neg (by decide+kernel)];exact⟨rfl,rfl⟩))
  (fun os started H enc _ F0=>by rw[OpenClaim.pre_eq_preRow];exact matchPlay_lifted os started H enc F0)
theorem matchPlay_card:Rows.MatchPlayCardSaid:=
 Claim7.holds_tied_plain_at .later [] [.data, .pinned] true (true, "8aba75f6cf905f1fbdc825d9b5b5d2b4c5aef33c24cc08716c5c9dd843677c45") false
  matchPlay_row (fun _ h=>by cases h) (by kernel_rfl) (fun _ h=>by cases h) matchPlay_row_tie rfl ⟨rfl,rfl⟩ (by kernel_rfl) rfl
  (fun f fn hf hfn=>by
   obtain rfl : f = 5 := Option.some.inj ((show Tryz.prog.funcNamed "pigeonry/pigeonrylaw14.MatchPlay" = some 5 by kernel_rfl).symm.trans hf) |>.symm
   obtain rfl:fn=Tryz.f5:=(Option.some.inj (Tryz.func5.symm.trans hfn)).symm;refine⟨by kernel_rfl,fun j t ht=> ?_⟩;have hall:∀t' ∈Tryz.f5.params.toList,Tryz.prog.wantsStandIn t' =false:=by
    have:Tryz.f5.params.toList.all (fun t' => !Tryz.prog.wantsStandIn t')=true:=by kernel_rfl
    exact fun t' h' =>by simpa using List.all_eq_true.1 this t' h'
   exact hall t (by rw[Array.mem_toList_iff];exact Array.mem_of_getElem? ht))
  (by kernel_rfl)
#print axioms matchPlay_card
end Go.Proofs.YtoadlafdeoklbaaGreatDoor
