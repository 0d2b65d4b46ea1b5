/- Package utf: Wrong, Check. -/
import Derived.Test.YtoadlafdeoklbaaGreatDoorPa11
import Derived.RangeFuncWrites
import Derived.RangeFuncKeeps
import Derived.Maps.OwnIn

namespace Go.Proofs.YtoadlafdeoklbaaGreatDoor
open Go.RowKit Go.Shelf

attribute [local go_sem] Oper.semAt_some

theorem uRunes1_stops (F:Fence)(n:Nat)(hF:F.plain=Fence.wide)(hf:F.fn 131)(hro:F.round=none)(hn:1≤n)(b n₀:Nat)(s:List UInt8)(hs:s.length≤60000)(w:World)(hn₀:n₀≤w.heap.size)(hb:b < n₀)(hc:w.cell? ⟨b,0,none⟩=some (.string ⟨s.toArray⟩)):
  SeqStopsK F n Tryz.prog 131 #[.pointer (some ⟨b,0,none⟩)] uArgs (Below n₀) (uDone s) (uStop s) (s.length+1) w:=fun l J Jx W hW hAb _ hY h0=>
 uRunes1_in F n hF hf hro hn l b n₀ s hs W J Jx hAb (Nat.le_trans hn₀ hW.size) hb hY ((hW.cell (p:=⟨b,0,none⟩) (Nat.lt_of_lt_of_le hb hn₀)).trans hc) h0
theorem uRunes_in (F:Fence)(n:Nat)(hf:F.fn 121)(hro:F.round=none)(S:ByteArray)(w:World):
  CallsIn F n Tryz.prog 121 #[.string S] w fun e w' =>e= .returned (.func (.func 131) #[] #[.pointer (some ⟨w.heap.size,0,none⟩)])∧w' =w.alloc (.cells #[.string S] 9):=by
 refine callsIn_of_wp Tryz.func121 rfl hf ?_ hro;simp only[Tryz.ntmps121,List.size_toArray,List.length_cons,List.length_nil,Nat.reduceAdd,Nat.reduceSub,Array.replicate_succ,Array.replicate_zero,List.push_toArray,List.append_toArray,List.nil_append,List.cons_append]
 gi_wp2
 go_ret;exact⟨rfl,rfl⟩
/-- What Wrong answers. -/
def WrongPost (w:World)(s:List UInt8)(e:Ending)(w' :World):Prop:=∃z:Int,e= .returned (.int .i64 z)∧(0≤z↔uGood s=false)∧Keeps w w' []
theorem wrong_door {n N D:Nat}{w W9:World}{t:Array Value}{s:List UInt8}{z:Int}(h2:t.getD 2 undef= .pointer (some ⟨N,0,none⟩))(q:Row W9 N 3 #[.int .i64 z])(hD:N < D)(hwD:w.heap.size≤D)(hK:W9.heap[D]? =some (.deferred (some [])))(hk:Keeps w W9 [])(hz:0≤z↔uGood s=false):
  bodyPostM Fence.wide n Tryz.prog Tryz.f99 (WrongPost w s) Exit.ret {tmps:=t,defers:= [{target:= .collected D,args:= #[]}]} W9:=by
 refine⟨by simp,.inl ⟨_,_,rfl,run_takeDeferred hK, ?_⟩⟩;have kp:Keeps W9 (W9.putObj D (.deferred none)) [D]:=Keeps.of_grown (grownBy_putObj' W9 D _);have z1:=q.keep kp (by simp;omega);have c0:=z1.cell 0;rw[Array.getD_eq_getD_getElem?]at h2;simp at c0;refine⟨.int .i64 z, ?_,z,rfl,hz,hk.trans kp (fun y hy hlt=>by simp at hy;omega)⟩;simp[results,Tryz.results99,go_sem,h2,c0]
theorem rowOwn {W W' :World}{row:Option Nat}{g:Nat}{t:TypeId}{cs:Array Value}(h:Row W g t cs)(hg:W.grownBy W' row)(hr:∀r,row=some r→r≠g):Row W' g t cs:=
 h.keep (Keeps.of_grown hg) (fun hm=>hr g (by simpa using hm) rfl)
set_option maxRecDepth 100000 in
set_option maxHeartbeats 4000000 in
theorem uWrong_in (n:Nat)(hn:4≤n)(w:World)(s:List UInt8)(hs:s.length≤60000):CallsIn Fence.wide n Tryz.prog 99 #[.string ⟨s.toArray⟩] w (WrongPost w s):=by
 have h1:1≤n:=by omega
 have hro:Fence.wide.round=none:=rfl;obtain⟨S,hS⟩:∃S:ByteArray,(⟨s.toArray⟩:ByteArray)=S:=⟨_,rfl⟩;have HS:=zh hS;rw[hS];clear hS;refine callsIn_of_wp_marks Tryz.func99 rfl trivial ?_ hro;simp only[Tryz.ntmps99,List.size_toArray,List.length_cons,List.length_nil,Nat.reduceAdd,Nat.reduceSub,Array.replicate_succ,Array.replicate_zero,List.push_toArray,List.append_toArray,List.nil_append,List.cons_append]
 gi_wp2_with fail
 obtain⟨W0,hW0⟩:∃W0,w.alloc (.cells #[.int .i64 0] 3)=W0:=⟨_,rfl⟩;have q0:Row W0 w.heap.size 3 #[.int .i64 0]:=by rw[←hW0];exact Row.new _ _ _
 have k0:Keeps w W0 []:=by rw[←hW0];exact Keeps.alloc _ _
 have s0:W0.heap.size=w.heap.size+1:=by rw[←hW0];simp
 rw[hW0];refine⟨trivial,(uRunes_in _ _ trivial rfl S W0).mono ?_⟩;rintro e w1 ⟨rfl,rfl⟩;obtain⟨W2,hW2⟩:∃W2,W0.alloc (.cells #[.string S] 9)=W2:=⟨_,rfl⟩;have q2:Row W2 W0.heap.size 9 #[.string S]:=by rw[←hW2];exact Row.new _ _ _
 have k2:Keeps W0 W2 []:=by rw[←hW2];exact Keeps.alloc _ _
 have s2:W2.heap.size=w.heap.size+2:=by rw[←hW2];simp;omega
 rw[hW2];have HQ:=zh (And.intro (q0.keeps k2) (And.intro q2 (And.intro (k0.then_ k2) (And.intro s0 s2))));have c2:=q2.cell 0;simp only[zga,zgz]at c2;clear hW0 hW2 q0 q2 k0 k2 s0 s2
 gi_wp2_with fail
 refine wpIn_rangeFunc_ownG hro h1 (gf:=131) (lb:= #[.pointer (some ⟨W0.heap.size,0,none⟩)]) rfl trivial (enters_of Tryz.func131 (by kernel_rfl) rfl)
  (uRunes1_stops Fence.wide (n - 1) rfl trivial hro (by omega) W0.heap.size W2.heap.size s hs W2 (Nat.le_refl _) (by have:=HQ.out.2.2.2;omega) (by rw[HS.out];exact c2)) belowK_t (belowK_b (Nat.le_refl _)) (Below.refl _ _) (fun _=>rfl)
  (fun pre W=>(∀x∈pre,x.2≠0)∧Below W2.heap.size W2 W)
  (fun c pre W=>c= .ret∧(∃x∈pre,x.2=0)∧∃z:Int,0≤z∧Row W w.heap.size 3 #[.int .i64 z]∧Keeps W2 W [w.heap.size])
  (OwnFrom.and (ownFrom_pure _ (fun pre:List (Nat×Nat)=>∀x∈pre,x.2≠0)) (ownFrom_below (Nat.le_refl _) (Nat.le_refl _)))
  (fun c pre A B row hs hg hr=>by
   obtain⟨h1,h2,z,h3,h4,h5⟩:=hs;exact⟨h1,h2,z,h3,rowOwn h4 hg (fun r e he=>by have:=(hr r e).1;have:=HQ.out.2.2.2;omega),h5.trans (Keeps.of_grown hg) (fun y hy hlt=>by have:=(hr y (by simpa using hy)).1;have:=HQ.out.2.2.2;omega)⟩)
  ⟨fun x hx=>(by cases hx),Below.refl _ _⟩
  (fun x=>{tmps:= #[.string S,undef,.pointer (some ⟨w.heap.size,0,none⟩),.int .i64 ((x.1:Nat):Int),.int .i32 ((x.2:Nat):Int),.string S,.func (.func 131) #[] #[.pointer (some ⟨W0.heap.size,0,none⟩)],.int .i64 ((x.1:Nat):Int),.int .i32 ((x.2:Nat):Int),undef,undef,undef],defers:= []}) ?assign ?body ?done ?stop
 case assign=>
  intro l x W K hK;unfold uArgs
  gi_wp2
  exact hK
 case body=>
  rintro l pre x W ⟨hp,hB⟩ hlt;have hkW:Keeps W2 W []:=Keeps.of_below hB;have g0:=HQ.out.1.keeps hkW;have e0:=g0.cell 0;have f0:=g0.frozen 0;simp only[zga,zgz]at e0;have HP:=zh (And.intro hp (And.intro hB (And.intro hkW g0)));clear hp hB hkW g0
  by_cases hx:x.2=0
  ·have hxb:(((x.2:Nat):Int)==0)=true:=by rw[hx];rfl
   have HX:=zh hx;clear hx
   gi_wp2_with fail
   have kk:Keeps W (W.setCell ⟨w.heap.size,0,none⟩ (.int .i64 ((x.1:Nat):Int))) [w.heap.size]:=Keeps.setCell _ _ _;refine⟨⟨kk.size,fun k o hk0 hk _=>(kk.block k (Array.getElem?_eq_some_iff.1 hk).1 (by have:=HQ.out.2.2.2;simp;omega)).trans hk⟩,rfl,⟨x,by simp,HX.out⟩,_,Int.natCast_nonneg _,HP.out.2.2.2.store 0 _,(HP.out.2.2.1.weaken (T:= [w.heap.size]) (by simp)).trans kk (fun y hy _=>hy)⟩
  ·have hxb:(((x.2:Nat):Int)==0)=false:=by simpa using hx
   have HX:=zh hx;clear hx
   gi_wp2_with fail
   exact⟨KeepsFrom.refl _ _,Below.refl _ _,fun y hy=>by
    rcases List.mem_append.1 hy with hy | hy
    ·exact HP.out.1 y hy
    ·obtain rfl:=List.mem_singleton.1 hy
     exact HX.out,HP.out.2.1⟩
 case done=>
  rintro D ys WA hD hys ⟨hp,hB⟩ hK;have hg:=hys hp;have hkW:Keeps W2 WA []:=Keeps.of_below hB;have g0:=HQ.out.1.keeps hkW;have e0:=g0.cell 0;have f0:=g0.frozen 0;simp only[zga,zgz]at e0;have HP:=zh (And.intro hg (And.intro hkW (And.intro g0 (And.intro hK hD))));clear hg hkW g0 hK hp hB hys
  gi_wp2_with fail
  have kk:Keeps WA (WA.setCell ⟨w.heap.size,0,none⟩ (.int .i64 (-1))) [w.heap.size]:=Keeps.setCell _ _ _;have hsz:=HQ.out.2.2.2;have hD:=HP.out.2.2.2.2;refine wrong_door rfl (HP.out.2.2.1.store 0 _) (by omega) (by omega) ?_ (((HQ.out.2.2.1.then_ HP.out.2.1).weaken (T:= [w.heap.size]) (by simp)).trans kk (fun y hy _=>hy) |>.weaken (fun y hy hlt=>by simp at hy;omega)) ⟨fun h=>by omega,fun h=>by rw[HP.out.1]at h;cases h⟩;exact(kk.block D (Array.getElem?_eq_some_iff.1 HP.out.2.2.2.1).1 (by simp;omega)).trans HP.out.2.2.2.1
 case stop=>
  rintro D c pre WA hD hst ⟨rfl,hx,z,hz,hr,hk⟩ hK
  gi_wp2_with fail
  exact wrong_door rfl hr (by have:=HQ.out.2.2.2.2;omega) (by have:=HQ.out.2.2.2.2;omega) hK (HQ.out.2.2.1.trans hk (fun y hy hlt=>by simp at hy;omega)) ⟨fun _=>hst hx,fun _=>hz⟩
theorem uWrong_any (w:World)(s:List UInt8)(hs:s.length≤60000):Calls Tryz.prog 99 #[.string ⟨s.toArray⟩] w (WrongPost w s):=
 callsIn_wide.1 (uWrong_in 4 (by omega) w s hs)
/-- What Check answers. -/
def uCode (s:List UInt8):Int:=if uGood s=true then 0 else 220
set_option maxRecDepth 100000 in
theorem uCheck_any (w:World)(s:List UInt8)(hs:s.length≤60000):Calls Tryz.prog 80 #[.string ⟨s.toArray⟩] w fun e w' =>e= .returned (.int .i64 (uCode s))∧Keeps w w' []:=by
 obtain⟨S,hS⟩:∃S:ByteArray,(⟨s.toArray⟩:ByteArray)=S:=⟨_,rfl⟩;have HS:=zh hS;rw[hS];clear hS
 go_enter Tryz.func80,Tryz.ntmps80
 go_wp2_with fail
 rw[←HS.out];refine(uWrong_any w s hs).mono ?_;rintro e w1 ⟨z,rfl,hz,hk⟩;rw[HS.out];have HK:=zh hk;clear hk
 by_cases h0:0≤z
 ·have HG:=zh (hz.1 h0)
  clear hz
  go_wp2_with fail
  go_ret;exact⟨by unfold uCode;rw[HG.out];rfl,HK.out⟩
 ·have HG:=zh (show uGood s=true by
   cases h:uGood s with
   | true=>rfl
   | false=>exact absurd (hz.2 h) h0)
  clear hz
  go_wp2_with fail
  go_ret;exact⟨by unfold uCode;rw[HG.out];rfl,HK.out⟩
end Go.Proofs.YtoadlafdeoklbaaGreatDoor
