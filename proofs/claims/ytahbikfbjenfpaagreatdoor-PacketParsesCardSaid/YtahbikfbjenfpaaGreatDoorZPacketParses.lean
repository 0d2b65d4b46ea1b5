/- The statement PacketParses is proved: The packet of any bytes, or that they are none's. Conditions: none (that the sum of the lengths of a packet's texts does not wrap is paid by the form's reach). -/
import Derived.Test.YtahbikfbjenfpaaGreatDoorPa38
import Derived.Test.YtahbikfbjenfpaaGreatDoorPa48
import Derived.OpenShut
set_option maxRecDepth 100000
namespace Go.Proofs.YtahbikfbjenfpaaGreatDoor
open Go.ChangeShapes Go.WideShapes Go.ChangeAt Go.RowKit

theorem Fm:Tryz.prog.underlying 32=some (.slice 5):=by kernel_rfl
theorem pd (os:Os){H:Type}(enc:TypeId×Value->H):
  (OpenSpec.ofChange Rows.packetParsesSpec).preRow enc Tryz.prog Tryz.f4 Rows.packetParsesRow.domain false Rows.packetParsesRow.laid ((p4 os).forCall (λ_ _=>0) ⟨#[], #[.slice none 0 0], []⟩).memory #[.slice none 0 0]:=by
 have hw:(DataW.whole enc Tryz.prog ((p4 os).forCall (λ_ _=>0) ⟨#[], #[.slice none 0 0], []⟩).memory Tryz.f4.params.toList (OpenSpec.ofChange Rows.packetParsesSpec).vars false #[.slice none 0 0].toList 8).map (λx=>(x.1,x.2.1))=
   some ([.nil], []):=by kernel_rfl
 obtain⟨⟨x1,x2,x3⟩,hx,hx1⟩:=Option.map_eq_some_iff.1 hw;simp only[Prod.mk.injEq]at hx1;obtain⟨rfl,rfl⟩:=hx1;exact OpenSpec.preRow_of_cond 8 hx (by kernel_rfl) (λk hk=>by cases hk) (by kernel_rfl) (GY os _)
theorem qp (os:Os)(started:os.Started)(H:Type)(enc:TypeId×Value->H)(F:Stop.Interp):
  ReturnsInHanded {} Tryz.checked os 4 .any ((OpenSpec.ofChange Rows.packetParsesSpec).preRow enc Tryz.prog Tryz.f4 Rows.packetParsesRow.domain false Rows.packetParsesRow.laid) (((OpenSpec.ofChange Rows.packetParsesSpec).at F).post enc Tryz.prog Tryz.f4 false true false false):=by
 refine returnsInHanded_of_row (C:=Tryz.checked) (s:=OpenSpec.ofChange Rows.packetParsesSpec) zOwn started (by kernel_rfl) Tryz.func4
  (witness_row_atRef (enc:=enc) (C:=Tryz.checked) false (p4 os) #[.slice none 0 0] rfl (by kernel_rfl) (by kernel_rfl) (by kernel_rfl) (pd os enc)) ?_
 intro W base args ds gs before NX hW _ _ _ _ hsh _;have hM:lG W:=vR hsh;have hval:∀(j:Nat) t v,Tryz.f4.params[j]? =some t->args[j]? =some v->Value.okWide Tryz.prog W .any base t v:=NX;have FD :=hW;obtain⟨p,q,UM,hV,rfl,hfz,hnd⟩:=hW;obtain⟨rfl,rfl⟩:=trodVars_none hV;have hA:DataW.TrodAll enc Tryz.prog W 0 (λ_=>true) true [32] args.toList ds p:=UM;obtain⟨v0,d0,rfl,rfl,h0⟩:=trodAll_one hA;obtain⟨A1,c1,l1,rfl,C1⟩:=Dc h0 (okWide_slice Fm (hval 0 32 v0 rfl rfl));refine(tF W A1 c1 l1 hM C1).mono λe W' ⟨he,hk⟩=> ?_
 subst he;exact⟨_,rfl,GX (L:= [32,5]) (by kernel_rfl) (tb:=4) FD rfl (by decide) rfl Jm rfl hk⟩
theorem tE:Rows.PacketParsesSaid:=
 OpenClaim.holds_of_cond 4 Tryz.f4 rfl rfl rfl rfl rfl rfl rfl ⟨rfl,rfl,rfl,rfl,rfl⟩ rfl rfl rfl rfl rfl (by kernel_rfl) Tryz.func4 (by kernel_rfl)
  (qj (by kernel_rfl)) (by unfold Func.isWrapper;first | (rw[aE (by decide+kernel)];kernel_rfl) | (rw[aj (by decide+kernel)];exact⟨rfl,rfl⟩))
  (λos started H enc _ F0=>by rw[OpenClaim.pre_eq_preRow];exact qp os started H enc F0)
theorem packetParses_card:Rows.PacketParsesCardSaid:=
 Claim7.holds_tied_plain_at .later [] [.data, .pinned] true (true, "121b76a5e4793a0b91d74236c7503857d424352ef666f91030ae3c8c1a8ebba7") true
  tE (λ_ h=>by cases h) (by kernel_rfl) (λ_ h=>by cases h) packetParses_row_tie rfl ⟨rfl,rfl⟩ (by kernel_rfl) rfl
  (λf fn hf hfn=>by
   obtain rfl : f = 4 := Option.some.inj ((show Tryz.prog.funcNamed "pigeonry/pigeonrylaw16.PacketParses" = some 4 by kernel_rfl).symm.trans hf) |>.symm
   obtain rfl:fn=Tryz.f4:=(Option.some.inj (Tryz.func4.symm.trans hfn)).symm;refine⟨by kernel_rfl,λj t ht=> ?_⟩;have hall:∀t' ∈Tryz.f4.params.toList,Tryz.prog.wantsStandIn t' =false:=by
    have:Tryz.f4.params.toList.all (λt' => !Tryz.prog.wantsStandIn t')=true:=by kernel_rfl
    exact λt' h' =>by simpa using List.all_eq_true.1 this t' h'
   exact hall t (by rw[Array.mem_toList_iff];exact Array.mem_of_getElem? ht))
  (by kernel_rfl)
#print axioms packetParses_card
end Go.Proofs.YtahbikfbjenfpaaGreatDoor
