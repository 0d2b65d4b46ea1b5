/- Steps of a fixed region, one operation after the other. Reference 13: signs. Reference 12: May. Reference 12: six. -/
import Derived.Test.YtoadlafdeoklbaaGreatDoorPa6
import Derived.Test.YtoadlafdeoklbaaGreatDoorPa16
import Derived.Deep.MidRow
import Derived.Test.YtoadlafdeoklbaaGreatDoorPa15
import Derived.Test.YtoadlafdeoklbaaGreatDoorPa4

namespace Go.Proofs.YtoadlafdeoklbaaGreatDoor
open Go.RowKit

section
variable {P:Program} {Q:Exit→Act→World→Prop} {ops:Array Oper} {o:Oper} {rest:List Oper} {a:Act} {w:World}
theorem wpList_val (v:Value)(hg:o.guard=none)(h:(execOp a.eval o).run P w= .ok (.value v) w)(hk:wpList P ops Q rest (a.put o.dst v) w):wpList P ops Q (o::rest) a w:=
 wpList_plain hg fun K hK=>by unfold Oper.wp;rw[h];exact hK _ _ hk
theorem wpList_loadc (t:TypeId)(x:Operand)(ad:Addr)(v:Value)(hg:o.guard=none)(ho:o.op= .load t x)(hx:a.eval x= .pointer (some ad))(ht:∀W,(isAgg t).run P W= .ok false W)(hc:w.cell? ad=some v)
  (hk:wpList P ops Q rest (a.put o.dst v) w):wpList P ops Q (o::rest) a w:=
 wpList_val v hg (by
  unfold execOp;simp only[ho,hx,Sem.run_bind,run_load_one ht hc,Result.andThen_ok,Sem.run_pure]) hk
end
theorem wpList_want {P:Program}{Q:Exit→Act→World→Prop}{ops:Array Oper}{o:Oper}{rest:List Oper}{a:Act}{w:World}(hw:Region.wanted o (yielded ops a.tmps)=true)(h:∀K:Act→World→Prop,(∀a w,wpList P ops Q rest a w→K a w)→o.wp P a w K Q):wpList P ops Q (o::rest) a w:=by
 unfold wpList;rw[if_pos hw];exact .inl (h _ (fun _ _ h=>h))
theorem wpList_loadg {P:Program}{Q:Exit→Act→World→Prop}{ops:Array Oper}{op:Oper}{rest:List Oper}{a:Act}{w:World}(hw:Region.wanted op (yielded ops a.tmps)=true)(ty:TypeId)(x:Operand)(ho:op.op= .load ty x)
  (b o:Nat) (hx:a.eval x= .pointer (some ⟨b,o,none⟩)) (cs:List Value) (d:TypeDesc) (hc:w.rangeAt b o cs)
  (hu:P.underlying ty=some d) (hd:d.isRow=true) (hi:(P.info? ty).map (·.size)=some cs.length)
  (h:wpList P ops Q rest (a.put op.dst (.agg cs.toArray)) w):wpList P ops Q (op::rest) a w:=
 wpList_want hw fun _ hK=>wp_load_mid ty x ho b o hx cs d hc hu hd hi (hK _ _ h)
end Go.Proofs.YtoadlafdeoklbaaGreatDoor

namespace Go.Proofs.YtoadlafdeoklbaaGreatDoor
open Go.RowKit Go.Shelf

def tSignN (s:List UInt8):Nat:=s.countP fun b=>b==43 || b==35
set_option maxRecDepth 100000 in
set_option maxHeartbeats 1000000 in
theorem rSigns_any (w:World)(s:List UInt8)(hs:s.length≤60000):
  Calls Tryz.prog 31 #[.string ⟨s.toArray⟩] w fun e w' =>e= .returned (.int .i64 (tSignN s:Nat))∧w=w' :=by
 obtain⟨S,hS⟩:∃S:ByteArray,(⟨s.toArray⟩:ByteArray)=S:=⟨_,rfl⟩;have hz:S.size=s.length:=by rw[←hS];simp[ByteArray.size]
 have HG:=zh (show∀k (h:k < s.length) (h2:k < S.size),S[k]=s[k]from fun k h h2=>by subst hS;rfl);rw[hS];clear hS
 go_enter Tryz.func31,Tryz.ntmps31
 go_wp2
 go_loop [3,4] (fun n i=>∃k:Nat,k≤s.length∧i= .int .i64 k∧n= .int .i64 (tSignN (s.take k):Nat)) (fun _ i=>s.length - (intOf i).toNat)
 case atStart=>exact⟨0,by omega,rfl,rfl⟩
 case round=>
  obtain⟨k,hk,rfl,rfl⟩:=hrel
  by_cases hlt:k < s.length
  ·have HS:=zh (List.take_succ_eq_append_getElem hlt)
   have ix:∀h,S[k]'h=s[k]:=fun h=>HG.out k hlt h
   obtain⟨m,hm⟩:∃m,tSignN (s.take k)=m:=⟨_,rfl⟩;have hmk:m≤k:=by rw[←hm];exact Nat.le_trans List.countP_le_length (by rw[List.length_take];omega)
   have HM:=zh hm;rw[hm];clear hm
   generalize s[k]=y at*
   have HN:=zh (show tSignN (s.take (k+1))=m+(if(y==43 || y==35)=true then 1 else 0)by rw[HS.out,tSignN,List.countP_append,←HM.out];simp[tSignN])
   by_cases h43:y=43
   ·subst h43
    have b1:(((43:UInt8).toNat:Int)==43)=true:=rfl
    go_wp2_with fail
    refine⟨⟨k+1,by omega,by go_num, ?_⟩,by simp[intOf];omega⟩;rw[HN.out]
    go_num
   ·have b1:((y.toNat:Int)==43)=false:=by
     rw[beq_eq_false_iff_ne];intro h;exact h43 (UInt8.toNat_inj.1 (by simpa using (show y.toNat=43 by omega)))
    by_cases h35:y=35
    ·subst h35
     have b2:(((35:UInt8).toNat:Int)==35)=true:=rfl
     go_wp2_with fail
     refine⟨⟨k+1,by omega,by go_num, ?_⟩,by simp[intOf];omega⟩;rw[HN.out]
     go_num
    ·have b2:((y.toNat:Int)==35)=false:=by
      rw[beq_eq_false_iff_ne];intro h;exact h35 (UInt8.toNat_inj.1 (by simpa using (show y.toNat=35 by omega)))
     have HN2:=zh (show(y==43 || y==35)=false by simp[h43,h35])
     go_wp2_with fail
     refine⟨⟨k+1,by omega,by go_num, ?_⟩,by simp[intOf];omega⟩;rw[HN.out,HN2.out];rfl
  ·obtain rfl:k=s.length:=by omega
   rw[List.take_length]
   go_wp2_with fail
   go_ret;exact⟨rfl,rfl⟩

def rMayB (r:Nat):Bool:=decide (r < 55296) || (decide (57343 < r) && decide (r≤1114111))
set_option maxRecDepth 100000 in
theorem rMay_any (w:World)(r:Nat):Calls Tryz.prog 93 #[.int .i32 r] w fun e w' =>e= .returned (.bool (rMayB r))∧w=w' :=by
 have h0:decide ((r:Int)≥0)=true:=by simp
 have h00:decide ((0:Int)≤r)=true:=by simp
 obtain⟨b1,e1⟩:∃b,decide (r < 55296)=b:=⟨_,rfl⟩;obtain⟨b2,e2⟩:∃b,decide (57343 < r)=b:=⟨_,rfl⟩;obtain⟨b3,e3⟩:∃b,decide (r≤1114111)=b:=⟨_,rfl⟩;have HR:=zh (show rMayB r=(b1 || (b2 && b3))by unfold rMayB;rw[e1,e2,e3]);have f1:decide ((r:Int) < 55296)=b1:=by rw[←e1];apply decide_eq_decide.2;omega
 have f2:decide ((57343:Int) < r)=b2:=by rw[←e2];apply decide_eq_decide.2;omega
 have f3:decide ((r:Int)≤1114111)=b3:=by rw[←e3];apply decide_eq_decide.2;omega
 clear e1 e2 e3
 go_enter Tryz.func93,Tryz.ntmps93
 cases b1 <;> cases b2 <;> cases b3
 all_goals go_wp2_with fail
 all_goals go_ret
 all_goals exact⟨by rw[HR.out];rfl,rfl⟩

set_option maxRecDepth 100000 in
theorem rSix_any (w:World)(r:Nat)(hr:r≤4294967295):Calls Tryz.prog 116 #[.int .i64 r] w fun e w' =>e= .returned (.int .u8 (128+r % 64:Nat))∧w=w' :=by
 have h1:(r:Int).tmod 64=((r % 64:Nat):Int):=by rw[Int.tmod_eq_emod_of_nonneg (by omega)];omega
 have hlt:r % 64 < 64:=Nat.mod_lt _ (by omega);obtain⟨m,hm⟩:∃m,r % 64=m:=⟨_,rfl⟩;rw[hm]at h1 hlt ⊢
 clear hm
 go_enter Tryz.func116,Tryz.ntmps116
 go_wp2
 go_ret;exact⟨by go_num,rfl⟩
end Go.Proofs.YtoadlafdeoklbaaGreatDoor
