/- The statement MatchCopies is proved in its second form: copies of a book go on apart, Same tells what is the same, and a walk over all entries may stop. Conditions: what comes in is of bulk at most 1048576 (the second form's own condition). -/
import Derived.Test.YtoadlafdeoklbaaGreatDoorPa1
import Derived.Test.YtoadlafdeoklbaaGreatDoorPa59
import Derived.Test.YtoadlafdeoklbaaGreatDoorPa39

namespace Go.Proofs.YtoadlafdeoklbaaGreatDoor
open Go.ChangeShapes Go.WideShapes Go.ChangeAt Go.RowKit

theorem undIntC:Tryz.prog.underlying 3=some (.int .i64):=by kernel_rfl
theorem bulk_pos {H:Type}(d:DataW H):1≤Rows.uptoBulk d:=by
 cases d with
 | lit l=>cases l <;> simp[Rows.uptoBulk]
 | _=>simp[Rows.uptoBulk]
theorem bulk_len {H:Type}:∀l:List (DataW H),l.length≤Rows.uptoBulkAll l
 | []=>by simp[Rows.uptoBulkAll]
 | d::l=>by
  have h1:=bulk_pos d;have h2:=bulk_len l;simp only[Rows.uptoBulkAll,List.length_cons];omega
theorem bulk_slice {H:Type}(el sp:List (DataW H)):el.length≤Rows.uptoBulk (.slice el sp):=by
 have h:=bulk_len el;simp only[Rows.uptoBulk];omega
set_option maxRecDepth 100000 in
theorem matchCopiesUpto_witness (os:Os){H:Type}(enc:TypeId×Value→H):
  (Rows.OpenSpec.upto Rows.matchCopiesSpec).preRow enc Tryz.prog Tryz.f6 Rows.matchCopiesUptoRow.domain false Rows.matchCopiesUptoRow.laid ((laidWorld os).forCall (fun _ _=>0) ⟨#[], #[.slice none 0 0,.slice none 0 0,.int .i64 0], []⟩).memory #[.slice none 0 0,.slice none 0 0,.int .i64 0]:=by
 have hw:(DataW.whole enc Tryz.prog ((laidWorld os).forCall (fun _ _=>0) ⟨#[], #[.slice none 0 0,.slice none 0 0,.int .i64 0], []⟩).memory Tryz.f6.params.toList (Rows.OpenSpec.upto Rows.matchCopiesSpec).vars false #[.slice none 0 0,.slice none 0 0,.int .i64 0].toList 8).map (fun x=>(x.1,x.2.1))=
   some ([.nil,.nil,.lit (.int .i64 0)], []):=by kernel_rfl
 obtain⟨⟨x1,x2,x3⟩,hx,hx1⟩:=Option.map_eq_some_iff.1 hw;simp only[Prod.mk.injEq]at hx1;obtain⟨rfl,rfl⟩:=hx1;exact OpenSpec.preRow_of_cond 8 hx (by kernel_rfl) (fun k hk=>by cases hk;kernel_rfl) (by kernel_rfl) (laid_met os _)
set_option maxRecDepth 100000 in
theorem matchCopiesUpto_lifted (os:Os)(started:os.Started)(H:Type)(enc:TypeId×Value→H)(F:Stop.Interp):
  ReturnsInHanded {} Tryz.checked os 6 .any ((Rows.OpenSpec.upto Rows.matchCopiesSpec).preRow enc Tryz.prog Tryz.f6 Rows.matchCopiesUptoRow.domain false Rows.matchCopiesUptoRow.laid) (((Rows.OpenSpec.upto Rows.matchCopiesSpec).at F).post enc Tryz.prog Tryz.f6 false true false false):=by
 refine returnsInHanded_of_row (C:=Tryz.checked) (s:=Rows.OpenSpec.upto Rows.matchCopiesSpec) Tryz.own started (by kernel_rfl) Tryz.func6
  (witness_row_atRef (enc:=enc) (C:=Tryz.checked) false (laidWorld os) #[.slice none 0 0,.slice none 0 0,.int .i64 0] rfl (by kernel_rfl) (by kernel_rfl) (by kernel_rfl) (matchCopiesUpto_witness os enc)) ?_
 intro W base args ds gs before hval0 hW _ hco hsz _ hsh _;have hM:MaxL W:=maxL_of_shaped hsh;have hval:∀(j:Nat) t v,Tryz.f6.params[j]? =some t→args[j]? =some v→Value.okWide Tryz.prog W .any base t v:=hval0;have hW' :=hW;obtain⟨p,q,hA0,hV,rfl,hfz,hnd⟩:=hW;obtain⟨rfl,rfl⟩:=trodVars_none hV;have hA:DataW.TrodAll enc Tryz.prog W 0 (fun _=>true) true [23,23,3] args.toList ds p:=hA0;obtain⟨v0,v1,v2,d0,d1,d2,p0,p1,p2,rfl,rfl,rfl,h0,h1,h2⟩:=trodAll_three hA;obtain⟨A1,c1,l1,rfl,C1,z1⟩:=open_acts h0 (okWide_slice oUndActs (hval 0 23 v0 rfl rfl));obtain⟨A2,c2,l2,rfl,C2,z2⟩:=open_acts h1 (okWide_slice oUndActs (hval 1 23 v1 rfl rfl));obtain⟨many,rfl,_,_,_⟩:=open_int undIntC (hval 2 3 v2 rfl rfl) h2;have hb:Rows.uptoSmall H ([d0,d1,d2]++ [])=true:=hco _ rfl;have hb1:Rows.uptoBulkAll [d0,d1,d2]≤1048576:=of_decide_eq_true hb;simp only[Rows.uptoBulkAll]at hb1;have s1:l1.length≤1048576:=by
  rcases z1 with z | ⟨el,sp,rfl,z⟩
  ·omega
  ·have:=bulk_slice el sp
   omega
 have s2:l1.length+l2.length≤2000000:=by
  rcases z2 with z | ⟨el,sp,rfl,z⟩
  ·omega
  ·have:=bulk_slice el sp
   rcases z1 with z' | ⟨el',sp',rfl,z'⟩
   ·omega
   ·have:=bulk_slice el' sp'
    omega
 refine(matchCopies_any W A1 A2 c1 c2 l1 l2 many hM C1 C2 s2).mono fun e W' ⟨he,hk⟩=> ?_
 subst he;exact⟨_,rfl,law_post (L:= [23,23,3,27,25,9]) (by kernel_rfl) (tb:=4) hW' rfl (by decide) rfl undBool rfl hk⟩
theorem matchCopiesUpto_row:Rows.MatchCopiesUptoSaid:=
 OpenClaim.holds_of_cond 6 Tryz.f6 rfl rfl rfl rfl rfl rfl rfl ⟨rfl,rfl,rfl,rfl,rfl⟩ rfl rfl rfl rfl rfl (by kernel_rfl) Tryz.func6 (by kernel_rfl)
  (of_decide_eq_true (by kernel_rfl)) (by unfold Func.isWrapper;first | (rw[if_pos (by decide+kernel)];kernel_rfl) | (rw[if_neg (by decide+kernel)];exact⟨rfl,rfl⟩))
  (fun os started H enc _ F0=>by rw[OpenClaim.pre_eq_preRow];exact matchCopiesUpto_lifted os started H enc F0)
theorem matchCopiesUpto_card:Rows.MatchCopiesUptoCardSaid:=
 Claim7.holds_tied_plain_at .later [] [.data, .pinned] true (true, "8aba75f6cf905f1fbdc825d9b5b5d2b4c5aef33c24cc08716c5c9dd843677c45") false
  matchCopiesUpto_row (fun _ h=>by cases h) (by kernel_rfl) (fun _ h=>by cases h) matchCopiesUpto_row_tie rfl ⟨rfl,rfl⟩ (by kernel_rfl) rfl
  (fun f fn hf hfn=>by
   obtain rfl : f = 6 := Option.some.inj ((show Tryz.prog.funcNamed "pigeonry/pigeonrylaw14.MatchCopies" = some 6 by kernel_rfl).symm.trans hf) |>.symm
   obtain rfl:fn=Tryz.f6:=(Option.some.inj (Tryz.func6.symm.trans hfn)).symm;refine⟨by kernel_rfl,fun j t ht=> ?_⟩;have hall:∀t' ∈Tryz.f6.params.toList,Tryz.prog.wantsStandIn t' =false:=by
    have:Tryz.f6.params.toList.all (fun t' => !Tryz.prog.wantsStandIn t')=true:=by kernel_rfl
    exact fun t' h' =>by simpa using List.all_eq_true.1 this t' h'
   exact hall t (by rw[Array.mem_toList_iff];exact Array.mem_of_getElem? ht))
  (by kernel_rfl)
#print axioms matchCopiesUpto_card
end Go.Proofs.YtoadlafdeoklbaaGreatDoor
