/- The statement PacketRaws is proved: The bytes of any packet, or that there are none; these are the packet's again. Conditions: none (that the sum of the lengths of a packet's texts does not wrap is paid by the form's reach). -/
import Derived.Test.YtahbikfbjenfpaaGreatDoorPa38
import Derived.Test.YtahbikfbjenfpaaGreatDoorPa62
import Derived.OpenShut

namespace Go.Proofs.YtahbikfbjenfpaaGreatDoor
open Go.ChangeShapes Go.WideShapes Go.ChangeAt Go.RowKit

set_option maxRecDepth 100000 in
theorem packetRaws_witness (os:Os){H:Type}(enc:TypeId×Value→H):
  (OpenSpec.ofChange Rows.packetRawsSpec).preRow enc Tryz.prog Tryz.f3 Rows.packetRawsRow.domain false Rows.packetRawsRow.laid ((laidWorld os).forCall (fun _ _=>0) ⟨#[], #[.agg zP0], []⟩).memory #[.agg zP0]:=by
 have hw:(DataW.whole enc Tryz.prog ((laidWorld os).forCall (fun _ _=>0) ⟨#[], #[.agg zP0], []⟩).memory Tryz.f3.params.toList (OpenSpec.ofChange Rows.packetRawsSpec).vars false #[.agg zP0].toList 8).map (fun x=>(x.1,x.2.1))=
   some ([.agg [.lit (.int .i64 0),.lit (.bool false),.lit (.bool false),.lit (.int .i64 0),.lit (.string []),.lit (.string []),.lit (.int .i64 0),.lit (.string []),.lit (.bool false),.lit (.int .i64 0),.lit (.bool false),.agg [.lit (.string []),.lit (.string []),.lit (.int .i64 0),.lit (.bool false)],.lit (.bool false),.lit (.bool false),.lit (.string []),.lit (.string []),.lit (.bool false),.lit (.int .i64 0),.nil,.nil,.nil]], []):=by kernel_rfl
 obtain⟨⟨x1,x2,x3⟩,hx,hx1⟩:=Option.map_eq_some_iff.1 hw;simp only[Prod.mk.injEq]at hx1;obtain⟨rfl,rfl⟩:=hx1;exact OpenSpec.preRow_of_cond 8 hx (by kernel_rfl) (fun k hk=>by cases hk) (by kernel_rfl) (laid_met os _)
set_option maxRecDepth 100000 in
theorem packetRaws_lifted (os:Os)(started:os.Started)(H:Type)(enc:TypeId×Value→H)(F:Stop.Interp):
  ReturnsInHanded {} Tryz.checked os 3 .any ((OpenSpec.ofChange Rows.packetRawsSpec).preRow enc Tryz.prog Tryz.f3 Rows.packetRawsRow.domain false Rows.packetRawsRow.laid) (((OpenSpec.ofChange Rows.packetRawsSpec).at F).post enc Tryz.prog Tryz.f3 false true false false):=by
 refine returnsInHanded_of_row (C:=Tryz.checked) (s:=OpenSpec.ofChange Rows.packetRawsSpec) Tryz.own started (by kernel_rfl) Tryz.func3
  (witness_row_atRef (enc:=enc) (C:=Tryz.checked) false (laidWorld os) #[.agg zP0] rfl (by kernel_rfl) (by kernel_rfl) (by kernel_rfl) (packetRaws_witness os enc)) ?_
 intro W base args ds gs before hval0 hW _ _ hsz _ hsh _;have hM:MaxL W:=maxL_of_shaped hsh;have hval:∀(j:Nat) t v,Tryz.f3.params[j]? =some t→args[j]? =some v→Value.okWide Tryz.prog W .any base t v:=hval0;have hW' :=hW;obtain⟨p,q,hA0,hV,rfl,hfz,hnd⟩:=hW;obtain⟨rfl,rfl⟩:=trodVars_none hV;have hA:DataW.TrodAll enc Tryz.prog W 0 (fun _=>true) true [29] args.toList ds p:=hA0;obtain⟨v0,d0,rfl,rfl,h0⟩:=trodAll_one hA;obtain⟨x,sw,sc,sf,rfl,x1,x2,x3⟩:=open_pack (hval 0 29 v0 rfl rfl) h0 (sized_at hsz (j:=0) rfl rfl);refine(packetRaws_any x sw sc sf W hM x1 x2 x3).mono fun e W' ⟨he,hk⟩=> ?_
 subst he;exact⟨_,rfl,law_post (L:= [29,22,4,3,9,2,24,25,50,26,27]) (by kernel_rfl) (tb:=4) hW' rfl (by decide) rfl undBool rfl hk⟩
theorem packetRaws_row:Rows.PacketRawsSaid:=
 OpenClaim.holds_of_cond 3 Tryz.f3 rfl rfl rfl rfl rfl rfl rfl ⟨rfl,rfl,rfl,rfl,rfl⟩ rfl rfl rfl rfl rfl (by kernel_rfl) Tryz.func3 (by kernel_rfl)
  (of_decide_eq_true (by kernel_rfl)) (by unfold Func.isWrapper;first | (rw[if_pos (by decide+kernel)];kernel_rfl) | (rw[if_neg (by decide+kernel)];exact⟨rfl,rfl⟩))
  (fun os started H enc _ F0=>by rw[OpenClaim.pre_eq_preRow];exact packetRaws_lifted os started H enc F0)
theorem packetRaws_card:Rows.PacketRawsCardSaid:=
 Claim7.holds_tied_plain_at .later [] [.data, .pinned] true (true, "121b76a5e4793a0b91d74236c7503857d424352ef666f91030ae3c8c1a8ebba7") true
  packetRaws_row (fun _ h=>by cases h) (by kernel_rfl) (fun _ h=>by cases h) packetRaws_row_tie rfl ⟨rfl,rfl⟩ (by kernel_rfl) rfl
  (fun f fn hf hfn=>by
   obtain rfl : f = 3 := Option.some.inj ((show Tryz.prog.funcNamed "pigeonry/pigeonrylaw16.PacketRaws" = some 3 by kernel_rfl).symm.trans hf) |>.symm
   obtain rfl:fn=Tryz.f3:=(Option.some.inj (Tryz.func3.symm.trans hfn)).symm;refine⟨by kernel_rfl,fun j t ht=> ?_⟩;have hall:∀t' ∈Tryz.f3.params.toList,Tryz.prog.wantsStandIn t' =false:=by
    have:Tryz.f3.params.toList.all (fun t' => !Tryz.prog.wantsStandIn t')=true:=by kernel_rfl
    exact fun t' h' =>by simpa using List.all_eq_true.1 this t' h'
   exact hall t (by rw[Array.mem_toList_iff];exact Array.mem_of_getElem? ht))
  (by kernel_rfl)
#print axioms packetRaws_card
end Go.Proofs.YtahbikfbjenfpaaGreatDoor
