/- Package utf: the runes of a text (an iterator). -/
import Derived.Test.YtoadlafdeoklbaaGreatDoorPa10
import Derived.Test.YtoadlafdeoklbaaGreatDoorPa2
import Derived.RangeFuncNested
import Derived.RangeFuncBound
import Derived.RangeFuncCalls
import Derived.RangeFuncLeaves
import Derived.RangeFuncBox
import Derived.Shelf.Abstract
import Derived.Shelf.RegionOpen
import Derived.OwnWalkIn
import Derived.TacticsInMore
import Derived.LoopNIn
import Derived.LoopIn

namespace Go.Proofs.YtoadlafdeoklbaaGreatDoor
open Go.RowKit Go.Shelf

attribute [local go_sem] Oper.semAt_some

theorem Keeps.grown0 {w w' :World}(h:Keeps w w' []):w.grownBy w' none:=⟨h.os,h.tape,h.output,h.size,fun k hk _=>h.block k hk (by simp)⟩
/-- What a rune and its place are handed on as. -/
def uArgs (x:Nat×Nat):Array Value:= #[.int .i64 ((x.1:Nat):Int),.int .i32 ((x.2:Nat):Int)]
/-- What is known where all were told, or where it was left. -/
def uDone (s:List UInt8)(ys:List (Nat×Nat)):Prop:=(∀x∈ys,x.2≠0)→uGood s=true
def uStop (s:List UInt8)(ys:List (Nat×Nat)):Prop:=(∃x∈ys,x.2=0)→uGood s=false
set_option maxRecDepth 100000 in
set_option maxHeartbeats 4000000 in
theorem uRunes1_in (F:Fence)(n:Nat)(hF:F.plain=Fence.wide)(hf:F.fn 131)(hro:F.round=none)(hn:1≤n)(l b n₀:Nat)(s:List UInt8)(hs:s.length≤60000)(W:World)(J Jx:List (Nat×Nat)→World→Prop)
  (hAb:AbidesFrom W.heap.size J) (hn₀:n₀≤W.heap.size) (hb:b < n₀)
  (hY:∀pre x W1,J pre W1→pre.length < s.length+1→YieldAt F (n - 1) Tryz.prog l (uArgs x) W1 fun e W' =>
   (e= .returned (.bool true)∧J (pre++ [x]) W' ∧Below n₀ W1 W')∨(e= .returned (.bool false)∧Jx (pre++ [x]) W'))
  (hc:W.cell? ⟨b,0,none⟩=some (.string ⟨s.toArray⟩)) (h0:J [] W):
  CallsIn F n Tryz.prog 131 #[.func (.yield l) #[] #[],.pointer (some ⟨b,0,none⟩)] W fun e W' =>(∃v,e= .returned v)∧
   ((∃ys,uDone s ys∧J ys W')∨(∃pre,uStop s pre∧Jx pre W')):=by
 have hfn:∀f,F.fn f:=fun f=>by
  have:F.plain.fn f:=by rw[hF];trivial
  exact this
 obtain⟨S,hS⟩:∃S:ByteArray,(⟨s.toArray⟩:ByteArray)=S:=⟨_,rfl⟩;have hsz:S.size=s.length:=by rw[←hS];rfl
 rw[hS]at hc;have HF:=zh (And.intro hF hfn);have HS:=zh (And.intro hS hsz);have HJ:=zh hAb;have HY:=zh hY;have HC:=zh hc;have HL:=zh hs;clear hfn hAb hY hc hS hs;refine callsIn_of_wp Tryz.func131 rfl hf ?_ hro;simp only[Tryz.ntmps131,List.size_toArray,List.length_cons,List.length_nil,Nat.reduceAdd,Nat.reduceSub,Array.replicate_succ,Array.replicate_zero,List.push_toArray,List.append_toArray,List.nil_append,List.cons_append]
 gi_wp2
 gi_loopw [3] (fun i wr=>∃k:Nat,k≤s.length∧i= .int .i64 k∧∃pre,J pre wr∧Below n₀ W wr∧pre.length≤k∧(∀x∈pre,x.2≠0)∧uGood s=uGood (s.drop k)) (fun i _=>s.length - (intOf i).toNat)
 case atStart=>exact⟨0,by omega,rfl, [],h0,Below.refl _ _,by simp,fun x hx=>(by cases hx),rfl⟩
 case round=>
  obtain⟨k,hk,rfl,pre,hJs,hnx,hpl,hpn,hgd⟩:=hrel;have hsl:=HS.out.2;have hss:=HL.out;have cb:wr.cell? ⟨b,0,none⟩=some (.string S):=(hnx.cell (p:=⟨b,0,none⟩) hb).trans HC.out;have hnw:=hnx.size;have HR:=zh (And.intro hJs (And.intro hnx (And.intro hpl (And.intro hpn hgd))));clear hJs hnx hpl hpn hgd
  by_cases hlt:k < s.length
  ·obtain⟨T,hT⟩:∃T,S.extract k s.length=T:=⟨_,rfl⟩
   have hT' :(⟨(s.drop k).toArray⟩:ByteArray)=T:=by
    rw[←hT,←HS.out.1,str_cut]
    congr 2
    rw[List.take_of_length_le (by rw[List.length_drop];exact Nat.le_refl _)]
   have HT:=zh hT';clear hT'
   gi_wp2_with fail
   rw[←HT.out];refine⟨HF.out.2 _,(callsIn_of HF.out.1 (uFirst_any wr (s.drop k) (by rw[List.length_drop];omega))).mono ?_⟩;rintro e w2 ⟨r,rfl,hr0,hk2⟩;rw[HT.out];have hgs:=uGood_step (s:=s.drop k) (fun e=>by
    have:=congrArg List.length e;rw[List.length_drop]at this;simp at this;omega)
   have hul:=(uFirst_len (s.drop k)).1;rw[List.length_drop]at hul;obtain⟨m,hm⟩:∃m,uFirst (s.drop k)=m:=⟨_,rfl⟩;rw[hm]at hgs hr0 hul ⊢
   have hJ2:=HJ.out _ _ _ none HR.out.1 hk2.grown0 (fun _ h=>by cases h);have hB2:=HR.out.2.1.trans (hk2.below (B:=n₀) (by omega) (by simp));have cb2:w2.cell? ⟨b,0,none⟩=some (.string S):=(hB2.cell (p:=⟨b,0,none⟩) hb).trans HC.out
   by_cases hm0:m=0
   ·subst hm0
    rw[if_pos rfl]at hgs;have HG:=zh (show uGood s=false by rw[HR.out.2.2.2.2,hgs]);obtain⟨fn,tmps,assign,body,hy,hR⟩:=HY.out _ (k,0) w2 hJ2 (by have:=HR.out.2.2.1;omega);have HRR:=zh hR;unfold uArgs at hy
    dsimp only at hy
    rw[show((0:Nat):Int)=0 from rfl]at hy;have hn2:=n - 1;clear hR hgs hr0 hJ2 hm hk2
    gi_wp2_with fail
    refine HRR.out.mono ?_;rintro e W3 (⟨rfl,hJ3,hk3⟩ | ⟨rfl,hJx3⟩)
    ·gi_wp2
     refine bodyPost_ret (results_none rfl _ _ _) rfl ?_;exact⟨⟨_,rfl⟩,.inl ⟨_,fun h=>absurd rfl (h (k,0) (by simp)),hJ3⟩⟩
    ·gi_wp2
     refine bodyPost_ret (results_none rfl _ _ _) rfl ?_;exact⟨⟨_,rfl⟩,.inr ⟨_,fun _=>HG.out,hJx3⟩⟩
   ·have hr1:r≠0:=by have:=hr0 hm0;omega
    rw[if_neg hm0,List.drop_drop]at hgs;have HG:=zh (show uGood s=uGood (s.drop (k+m))by rw[HR.out.2.2.2.2,hgs]);obtain⟨fn,tmps,assign,body,hy,hR⟩:=HY.out _ (k,r) w2 hJ2 (by have:=HR.out.2.2.1;omega);have HRR:=zh hR;have HR1:=zh hr1;have HB2:=zh hB2;unfold uArgs at hy;have hn2:=n - 1;have hmb:((m:Int)==0)=false:=by simpa using hm0
    have hwk:IntKind.i64.wrap ((k:Int)+m)=((k+m:Nat):Int):=by rw[IntWalk.i64_in _ (by omega)];omega
    have hkm:¬(65535:Int) < ((k+m:Nat):Int):=by omega
    clear hR hgs hr0 hJ2 hm hk2 hr1 hB2
    gi_wp2_with fail
    refine HRR.out.mono ?_;rintro e W3 (⟨rfl,hJ3,hk3⟩ | ⟨rfl,hJx3⟩)
    ·gi_wp2
     go_roundw
     case rel=>exact⟨k+m,by omega,by go_num,pre++ [(k,r)],hJ3,HB2.out.trans hk3,by rw[List.length_append];have:=HR.out.2.2.1;simp;omega,fun x hx=>by
      rcases List.mem_append.1 hx with hx | hx
      ·exact HR.out.2.2.2.1 x hx
      ·obtain rfl:=List.mem_singleton.1 hx
       exact HR1.out,HG.out⟩
     case measure=>simp[intOf];omega
    ·gi_wp2
     refine bodyPost_ret (results_none rfl _ _ _) rfl ?_;refine⟨⟨_,rfl⟩,.inr ⟨_, ?_,hJx3⟩⟩;rintro⟨x,hx,h0⟩
     rcases List.mem_append.1 hx with hx | hx
     ·exact absurd h0 (HR.out.2.2.2.1 x hx)
     ·obtain rfl:=List.mem_singleton.1 hx
      exact absurd h0 HR1.out
  ·obtain rfl:k=s.length:=by omega
   gi_wp2_with fail
   go_end0
   exact⟨⟨_,rfl⟩,.inl ⟨_,fun _=>by rw[HR.out.2.2.2.2,List.drop_length];rfl,HR.out.1⟩⟩
end Go.Proofs.YtoadlafdeoklbaaGreatDoor
