/- Package topic: the levels of a filter, one by one (an iterator). Package topic: Filter. Texts as values. -/
import Derived.Test.YtoadlafdeoklbaaGreatDoorPa14
import Derived.RangeFuncKeeps

namespace Go.Proofs.YtoadlafdeoklbaaGreatDoor
open Go.RowKit Go.Shelf

attribute [local go_sem] Oper.semAt_some

/-- What a round leaves alone: all below n₀ and all cells, but for blocks of S. -/
structure KpS (n₀:Nat)(S:List Nat)(W W' :World):Prop where
 os:W'.os=W.os
 tape:W'.tape=W.tape
 output:W'.output=W.output
 size:W.heap.size≤W'.heap.size
 block:∀k,k < n₀→k∉S→W'.heap[k]? =W.heap[k]?
 same:∀(k:Nat) (cs:Array Value) (t:TypeId) (d:Nat×Nat),k∉S→W.heap[k]? =some (.cells cs t d)→W'.heap[k]? =some (.cells cs t d)
theorem KpS.refl (n₀:Nat)(S:List Nat)(W:World):KpS n₀ S W W:=⟨rfl,rfl,rfl,Nat.le_refl _,fun _ _ _=>rfl,fun _ _ _ _ _ h=>h⟩
theorem KpS.t {n₀:Nat}{S:List Nat}{A B C:World}(h:KpS n₀ S A B)(k:KpS n₀ S B C):KpS n₀ S A C:=
 ⟨k.os.trans h.os,k.tape.trans h.tape,k.output.trans h.output,Nat.le_trans h.size k.size,fun i hi hS=>(k.block i hi hS).trans (h.block i hi hS),fun i cs t d hS hc=>k.same i cs t d hS (h.same i cs t d hS hc)⟩
theorem KpS.put {n₀:Nat}{S:List Nat}{w:World}(hn:n₀≤w.heap.size)(W:World)(l:Nat)(o o' :Obj)(hl:w.heap.size≤l)(h:W.heap[l]? =some o)(hc:o.isCells=false)(hw:o.isWalk=false):KpS n₀ S W (W.putObj l o'):=
 have b:=belowK_b hn W l o o' hl h hc hw
 ⟨b.os,b.tape,b.output,b.size,fun k hk _=>b.block k hk,fun k cs t d _ hk=>by
  by_cases e:k=l
  ·subst e
   rw[h]at hk
   cases hk
   cases hc
  ·exact(World.putObj_heap_other e).trans hk⟩
theorem KpS.of {n₀:Nat}{S:List Nat}{W W' :World}(h:Keeps W W' S)(hn:n₀≤W.heap.size):KpS n₀ S W W' :=
 ⟨h.os,h.tape,h.output,h.size,fun k hk hS=>h.block k (Nat.lt_of_lt_of_le hk hn) hS,fun k _ _ _ hS hk=>(h.block k (Array.getElem?_eq_some_iff.1 hk).1 hS).trans hk⟩
theorem KpS.cell {n₀:Nat}{S:List Nat}{W W' :World}(h:KpS n₀ S W W'){p:Addr}(hp:p.block < n₀)(hS:p.block∉S):W'.cell? p=W.cell? p:=World.cell?_of_block (h.block _ hp hS)
/-- Levels, each with whether it is the last one. -/
def tSeq (L:List (List UInt8)):List (List UInt8×Bool):=(List.range L.length).map fun i=>(L.getD i [],i+1==L.length)
def tArgs (x:List UInt8×Bool):Array Value:= #[.string ⟨x.1.toArray⟩,.bool x.2]
theorem tSeq_len (L:List (List UInt8)):(tSeq L).length=L.length:=by simp[tSeq]
theorem tSeq_get {L:List (List UInt8)}{k:Nat}(h:k < L.length):(tSeq L)[k]'(by rw[tSeq_len];exact h)=(L[k],k+1==L.length):=by
 simp[tSeq,List.getD_eq_getElem?_getD,List.getElem?_eq_getElem h]
theorem tSeq_next {L:List (List UInt8)}{k:Nat}(h:k < L.length):(tSeq L).take (k+1)=(tSeq L).take k++ [(L[k],k+1==L.length)]:=by
 rw[List.take_succ_eq_append_getElem (by rw[tSeq_len];exact h),tSeq_get h]
theorem txC_get {L:List (List UInt8)}{k:Nat}(h:k < L.length):(txC L)[k]? =some (.string ⟨L[k].toArray⟩):=by
 unfold txC;rw[zga];have:=flat_get (encTxt) (l:=L) h (j:=0) (by omega);rw[Nat.mul_one,Nat.add_zero]at this;rw[this];rfl
set_option maxRecDepth 100000 in
set_option maxHeartbeats 4000000 in
theorem tLevels1_in (F:Fence)(n:Nat)(hF:F.plain=Fence.wide)(hf:F.fn 78)(hro:F.round=none)(hn:1≤n)(l b b2 n₀:Nat)(L:List (List UInt8))(hL:L.length≤60000)(W:World)(J Jx:List (List UInt8×Bool)→World→Prop)
  (_hn₀:n₀≤W.heap.size) (S:List Nat) (hb:b < n₀∧b∉S) (hb2:b2 < n₀∧b2∉S)
  (hLx:∀x∈L,x.length≤60000) (hY:∀pre x W1,J pre W1→pre.length < L.length+1→x.1.length≤60000→YieldAt F (n - 1) Tryz.prog l (tArgs x) W1 fun e W' =>
   (e= .returned (.bool true)∧J (pre++ [x]) W' ∧KpS n₀ S W1 W')∨(e= .returned (.bool false)∧Jx (pre++ [x]) W'))
  (hc:W.cell? ⟨b,0,none⟩=some (.slice (some ⟨b2,0,none⟩) L.length L.length)) (hr:Row W b2 9 (txC L)) (h0:J [] W):
  CallsIn F n Tryz.prog 78 #[.func (.yield l) #[] #[],.pointer (some ⟨b,0,none⟩)] W fun e W' =>(∃v,e= .returned v)∧
   ((∃ys,ys=tSeq L∧J ys W')∨(∃pre,pre <+:tSeq L∧Jx pre W')):=by
 have hfn:∀f,F.fn f:=fun f=>by
  have:F.plain.fn f:=by rw[hF];trivial
  exact this
 have HF:=zh (And.intro hF hfn);have HY:=zh hY;have HC:=zh (And.intro hc hr);have HL:=zh hL;have cb:W.cell? ⟨b,0,none⟩=some (.slice (some ⟨b2,0,none⟩) L.length L.length):=hc;clear hfn hY hc hr hL;refine callsIn_of_wp Tryz.func78 rfl hf ?_ hro;simp only[Tryz.ntmps78,List.size_toArray,List.length_cons,List.length_nil,Nat.reduceAdd,Nat.reduceSub,Array.replicate_succ,Array.replicate_zero,List.push_toArray,List.append_toArray,List.nil_append,List.cons_append]
 gi_wp2
 clear cb
 gi_loopw [7] (fun i wr=>∃k:Nat,k≤L.length∧i= .int .i64 k∧J ((tSeq L).take k) wr∧KpS n₀ S W wr) (fun i _=>L.length - (intOf i).toNat)
 case atStart=>exact⟨0,by omega,rfl,by rw[ztz];exact h0,KpS.refl _ _ _⟩
 case round=>
  obtain⟨k,hk,rfl,hJs,hnx⟩:=hrel;have hl6:=HL.out;have cb:wr.cell? ⟨b,0,none⟩=some (.slice (some ⟨b2,0,none⟩) L.length L.length):=(hnx.cell (p:=⟨b,0,none⟩) hb.1 hb.2).trans HC.out.1
  by_cases hlt:k < L.length
  ·have cx:wr.cell? ⟨b2,k,none⟩=some (.string ⟨L[k].toArray⟩):=by
    rw[hnx.cell (p:=⟨b2,k,none⟩) hb2.1 hb2.2,HC.out.2.cell,txC_get hlt]
   obtain⟨x,hx⟩:∃x,L[k]=x:=⟨_,rfl⟩;obtain⟨lb,hlb⟩:∃lb:Bool,(k+1==L.length)=lb:=⟨_,rfl⟩;rw[hx]at cx;have hlb' :((k:Int)==(L.length:Int) - 1)=lb:=by
    rw[←hlb,Bool.eq_iff_iff];simp;omega
   have hwl:IntKind.i64.wrap ((L.length:Int) - 1)=(L.length:Int) - 1:=IntWalk.i64_in _ (by omega);have HN:=zh (show(tSeq L).take (k+1)=(tSeq L).take k++ [(x,lb)]by rw[tSeq_next hlt,hx,hlb]);obtain⟨fn,tmps,assign,body,hy,hR⟩:=HY.out _ (x,lb) wr hJs (by rw[List.length_take,tSeq_len];omega) (by rw[←hx];exact hLx _ (List.getElem_mem hlt));have HRR:=zh (And.intro hR hnx);unfold tArgs at hy
   dsimp only at hy
   have hn2:=n - 1;clear hR hnx hJs hx hlb
   gi_wp2_with fail
   refine HRR.out.1.mono ?_;rintro e W3 (⟨rfl,hJ3,hk3⟩ | ⟨rfl,hJx3⟩)
   ·rw[←HN.out]at hJ3
    have HJ3:=zh (And.intro hJ3 (HRR.out.2.t hk3));clear hJ3 hk3
    gi_wp2
    go_roundw
    case rel=>exact⟨k+1,by omega,by go_num,HJ3.out.1,HJ3.out.2⟩
    case measure=>simp[intOf];omega
   ·rw[←HN.out]at hJx3
    have HJ3:=zh hJx3;clear hJx3
    gi_wp2
    refine bodyPost_ret (results_none rfl _ _ _) rfl ?_;exact⟨⟨_,rfl⟩,.inr ⟨_,List.take_prefix _ _,HJ3.out⟩⟩
  ·obtain rfl:k=L.length:=by omega
   have HJ3:=zh (show J (tSeq L) wr by rwa [List.take_of_length_le (by rw[tSeq_len];exact Nat.le_refl _)]at hJs);clear hJs
   gi_wp2_with fail
   go_end0
   exact⟨⟨_,rfl⟩,.inl ⟨_,rfl,HJ3.out⟩⟩
/-- A level of a bounded length. -/
abbrev Lvl:={x:List UInt8×Bool // x.1.length≤60000}
theorem tLevels1_stops (F:Fence)(n:Nat)(hF:F.plain=Fence.wide)(hf:F.fn 78)(hro:F.round=none)(hn:1≤n)(b b2 n₀:Nat)(L:List (List UInt8))(hL:L.length≤60000)(hLx:∀x∈L,x.length≤60000)(w:World)(hn₀:n₀≤w.heap.size)(S:List Nat)(hb:b < n₀∧b∉S)(hb2:b2 < n₀∧b2∉S)
  (hc:w.cell? ⟨b,0,none⟩=some (.slice (some ⟨b2,0,none⟩) L.length L.length)) (hr:Row w b2 9 (txC L)):
  SeqStopsK F n Tryz.prog 78 #[.pointer (some ⟨b,0,none⟩)] (fun x:Lvl=>tArgs x.1) (KpS n₀ S) (fun ys=>ys.map (fun x=>x.1)=tSeq L) (fun pre=>pre.map (fun x=>x.1) <+:tSeq L) (L.length+1) w:=fun l J Jx W hW _ _ hY h0=>by
 refine(tLevels1_in F n hF hf hro hn l b b2 n₀ L hL W (fun ys W=>∃zs:List Lvl,zs.map (fun x=>x.1)=ys∧J zs W) (fun ys W=>∃zs:List Lvl,zs.map (fun x=>x.1)=ys∧Jx zs W) (Nat.le_trans hn₀ hW.size) S hb hb2 hLx ?_ ((hW.cell (p:=⟨b,0,none⟩) (Nat.lt_of_lt_of_le hb.1 hn₀)).trans hc) (hr.below hW (Nat.lt_of_lt_of_le hb2.1 hn₀)) ⟨[],rfl,h0⟩).mono ?_
 ·rintro pre x W1 ⟨zs,rfl,h2⟩ hl hx
  obtain⟨fn,tmps,assign,body,hy,hR⟩:=hY zs ⟨x,hx⟩ W1 h2 (by simpa using hl);refine⟨fn,tmps,assign,body,hy,hR.mono ?_⟩;rintro e W' (⟨h1,h2,h3⟩ | ⟨h1,h2⟩)
  ·exact .inl ⟨h1,⟨zs++ [⟨x,hx⟩],by simp,h2⟩,h3⟩
  ·exact .inr ⟨h1,⟨zs++ [⟨x,hx⟩],by simp,h2⟩⟩
 ·rintro e W' ⟨h1,⟨ys,h2,zs,h3,h4⟩ | ⟨pre,h2,zs,h3,h4⟩⟩
  ·exact⟨h1,.inl ⟨zs,h3.trans h2,h4⟩⟩
  ·exact⟨h1,.inr ⟨zs,by show zs.map (fun x=>x.1) <+:tSeq L;rw[h3];exact h2,h4⟩⟩
theorem tLevelsF_in (F:Fence)(n:Nat)(hf:F.fn 63)(hro:F.round=none)(A:Option Addr)(m c:Nat)(w:World):
  CallsIn F n Tryz.prog 63 #[.slice A m c] w fun e w' =>e= .returned (.func (.func 78) #[] #[.pointer (some ⟨w.heap.size,0,none⟩)])∧w' =w.alloc (.cells #[.slice A m c] 77):=by
 refine callsIn_of_wp Tryz.func63 rfl hf ?_ hro;simp only[Tryz.ntmps63,List.size_toArray,List.length_cons,List.length_nil,Nat.reduceAdd,Nat.reduceSub,Array.replicate_succ,Array.replicate_zero,List.push_toArray,List.append_toArray,List.nil_append,List.cons_append]
 gi_wp2
 go_ret;exact⟨rfl,rfl⟩

attribute [local go_sem] Oper.semAt_some

theorem tSeq_cons (x y:List UInt8)(l:List (List UInt8)):tSeq (x::y::l)=(x,false)::tSeq (y::l):=by
 unfold tSeq;rw[List.length_cons,List.range_succ_eq_map,List.map_cons,List.map_map]
 congr 1
 refine List.map_congr_left fun i hi=> ?_
 simp only[Function.comp];rw[show Nat.succ i=i+1 from rfl,List.getD_cons_succ]
 congr 1
 rw[Bool.eq_iff_iff];simp
theorem tOks_seq (L:List (List UInt8)):tOks L=(tSeq L).all fun x=>tOk x.1 x.2:=by
 induction L with
 | nil=>rfl
 | cons x L ih=>
  cases L with
  | nil=>simp[tOks,tSeq]
  | cons y l=>rw[tSeq_cons,List.all_cons,←ih];rfl
/-- What a function of one truth answers. -/
theorem filter_door {n N D:Nat}{w W9:World}{t:Array Value}{B:Bool}(h2:t.getD 2 undef= .pointer (some ⟨N,0,none⟩))(q:Row W9 N 4 #[.bool B])(hD:N < D)(hwD:w.heap.size≤D)(hK:W9.heap[D]? =some (.deferred (some [])))(hk:Keeps w W9 []):
  bodyPostM Fence.wide n Tryz.prog Tryz.f34 (TruePost w B) Exit.ret {tmps:=t,defers:= [{target:= .collected D,args:= #[]}]} W9:=by
 refine⟨by simp,.inl ⟨_,_,rfl,run_takeDeferred hK, ?_⟩⟩;have kp:Keeps W9 (W9.putObj D (.deferred none)) [D]:=Keeps.of_grown (grownBy_putObj' W9 D _);have z1:=q.keep kp (by simp;omega);have c0:=z1.cell 0;rw[Array.getD_eq_getD_getElem?]at h2;simp at c0;refine⟨.bool B, ?_,rfl,hk.trans kp (fun y hy hlt=>by simp at hy;omega)⟩;simp[results,Tryz.results34,go_sem,h2,c0]
theorem KeepsFrom.of_keepsS {W W' :World}{S:List Nat}(h:Keeps W W' S)(B:Nat)(hS:∀x∈S,x < B):KeepsFrom B W W' :=⟨h.size,fun k o hk h0 _=>(h.block k (Array.getElem?_eq_some_iff.1 h0).1 (fun hm=>by have:=hS k hm;omega)).trans h0⟩
set_option maxRecDepth 100000 in
set_option maxHeartbeats 4000000 in
theorem tFilter_in (n:Nat)(hn:4≤n)(w:World)(s:List UInt8)(hs:s.length≤50000)(hm:MaxL w):CallsIn Fence.wide n Tryz.prog 34 #[.string ⟨s.toArray⟩] w (TruePost w (tFilter s)):=by
 have h1:1≤n:=by omega
 have hro:Fence.wide.round=none:=rfl;obtain⟨S,hS⟩:∃S:ByteArray,(⟨s.toArray⟩:ByteArray)=S:=⟨_,rfl⟩;have HS:=zh hS;have HM:=zh hm;rw[hS];clear hS hm;refine callsIn_of_wp_marks Tryz.func34 rfl trivial ?_ hro;simp only[Tryz.ntmps34,List.size_toArray,List.length_cons,List.length_nil,Nat.reduceAdd,Nat.reduceSub,Array.replicate_succ,Array.replicate_zero,List.push_toArray,List.append_toArray,List.nil_append,List.cons_append]
 gi_wp2_with fail
 obtain⟨W0,hW0⟩:∃W0,w.alloc (.cells #[.bool false] 4)=W0:=⟨_,rfl⟩;have q0:Row W0 w.heap.size 4 #[.bool false]:=by rw[←hW0];exact Row.new _ _ _
 have k0:Keeps w W0 []:=by rw[←hW0];exact Keeps.alloc _ _
 have s0:W0.heap.size=w.heap.size+1:=by rw[←hW0];simp
 rw[hW0];rw[←HS.out];refine⟨trivial,(callsIn_of rfl (tLevels_any W0 s (by omega) (HM.out.keeps k0))).mono ?_⟩;rintro e w1 ⟨rfl,rfl⟩;rw[HS.out];obtain⟨L,hL⟩:∃L,tLev s=L:=⟨_,rfl⟩;have hLl:L.length≤60000:=by rw[←hL];have:=tLev_len s;omega
 have hLx:∀x∈L,x.length≤60000:=fun x hx=>by rw[←hL]at hx;have:=tLev_size hx;omega
 rw[hL];obtain⟨W1,hW1⟩:∃W1,W0.alloc (.cells (txC L) 9)=W1:=⟨_,rfl⟩;have r1:Row W1 W0.heap.size 9 (txC L):=by rw[←hW1];exact Row.new _ _ _
 have k1:Keeps W0 W1 []:=by rw[←hW1];exact Keeps.alloc _ _
 have s1:W1.heap.size=W0.heap.size+1:=by rw[←hW1];simp
 rw[hW1];have HH:=zh (And.intro q0 (And.intro k0 (And.intro s0 (And.intro r1 (And.intro k1 s1)))));clear hW0 hW1 q0 k0 s0 r1 k1 s1
 gi_wp2_with fail
 refine⟨trivial,(tLevelsF_in _ _ trivial rfl _ _ _ W1).mono ?_⟩;rintro e w2 ⟨rfl,rfl⟩;obtain⟨W2,hW2⟩:∃W2,W1.alloc (.cells #[.slice (some ⟨W0.heap.size,0,none⟩) L.length L.length] 77)=W2:=⟨_,rfl⟩;have r2:Row W2 W1.heap.size 77 #[.slice (some ⟨W0.heap.size,0,none⟩) L.length L.length]:=by rw[←hW2];exact Row.new _ _ _
 have k2:Keeps W1 W2 []:=by rw[←hW2];exact Keeps.alloc _ _
 have s2:W2.heap.size=w.heap.size+3:=by rw[←hW2];simp;have:=HH.out;omega
 rw[hW2];have HQ:=zh (show Row W2 w.heap.size 4 #[.bool false]∧Row W2 W0.heap.size 9 (txC L)∧Keeps w W2 []∧W0.heap.size=w.heap.size+1∧W1.heap.size=w.heap.size+2∧W2.heap.size=w.heap.size+3 from
  ⟨(HH.out.1.keeps HH.out.2.2.2.2.1).keeps k2,HH.out.2.2.2.1.keeps k2,(HH.out.2.1.then_ HH.out.2.2.2.2.1).then_ k2,HH.out.2.2.1,by have:=HH.out;omega,s2⟩)
 have c2:=r2.cell 0;simp only[zga,zgz]at c2;have HL:=zh hL;clear hW2 r2 k2 s2 HH hL
 gi_wp2_with fail
 refine wpIn_rangeFunc_ownG hro h1 (gf:=78) (lb:= #[.pointer (some ⟨W1.heap.size,0,none⟩)]) rfl trivial (enters_of Tryz.func78 (by kernel_rfl) rfl)
  (tLevels1_stops Fence.wide (n - 1) rfl trivial hro (by omega) W1.heap.size W0.heap.size W2.heap.size L hLl hLx W2 (Nat.le_refl _) [] ⟨by have:=HQ.out.2.2.2;omega,by simp⟩ ⟨by have:=HQ.out.2.2.2;omega,by simp⟩ c2 HQ.out.2.1) KpS.t (KpS.put (Nat.le_refl _)) (Below.refl _ _) (fun _=>rfl)
  (fun pre W=>(∀x∈pre,tOk x.1.1 x.1.2=true)∧Below W2.heap.size W2 W)
  (fun c pre W=>c= .ret∧(∃x∈pre,tOk x.1.1 x.1.2=false)∧Row W w.heap.size 4 #[.bool false]∧Keeps W2 W [w.heap.size])
  (OwnFrom.and (ownFrom_pure _ (fun pre:List Lvl=>∀x∈pre,tOk x.1.1 x.1.2=true)) (ownFrom_below (Nat.le_refl _) (Nat.le_refl _)))
  (fun c pre A B row hs hg hr=>by
   obtain⟨h1,h2,h4,h5⟩:=hs;exact⟨h1,h2,rowOwn h4 hg (fun r e he=>by have:=(hr r e).1;have:=HQ.out.2.2.2;omega),h5.trans (Keeps.of_grown hg) (fun y hy hlt=>by have:=(hr y (by simpa using hy)).1;have:=HQ.out.2.2.2;omega)⟩)
  ⟨fun x hx=>(by cases hx),Below.refl _ _⟩
  (fun x=>{tmps:= #[.string S,undef,.pointer (some ⟨w.heap.size,0,none⟩),.string ⟨x.1.1.toArray⟩,.bool x.1.2,undef,.string S,.slice (some ⟨W0.heap.size,0,none⟩) L.length L.length,.func (.func 78) #[] #[.pointer (some ⟨W1.heap.size,0,none⟩)],.string ⟨x.1.1.toArray⟩,.bool x.1.2,undef,undef,undef,undef,undef,undef,undef,undef,undef,undef,undef,undef,undef,undef,undef,undef,undef],defers:= []}) ?assign ?body ?done ?stop
 case assign=>
  intro l x W K hK;unfold tArgs
  gi_wp2
  exact hK
 case body=>
  rintro l pre ⟨⟨x,lb⟩,hxl⟩ W ⟨hp,hB⟩ hlt;replace hxl:x.length≤60000:=hxl;have hkW:Keeps W2 W []:=Keeps.of_below hB;have HP:=zh (And.intro hp (And.intro hB (And.intro hkW (HQ.out.1.keeps hkW))));clear hp hB hkW
  dsimp only
  obtain⟨X,hX⟩:∃X:ByteArray,(⟨x.toArray⟩:ByteArray)=X:=⟨_,rfl⟩;rw[hX];have eX:X.toList=x:=by rw[←hX,Lib.toList_data]
  obtain⟨b1,h1⟩:∃b,(x== [43])=b:=⟨_,rfl⟩;obtain⟨b2,h2⟩:∃b,(x== [35])=b:=⟨_,rfl⟩;have HOK:=zh (show tOk x lb=(b1 || (b2 && lb) || !tSign x)by unfold tOk;rw[h1,h2]);have e1:(X.toList== [43])=b1:=by rw[eX];exact h1
  have e2:(X.toList== [35])=b2:=by rw[eX];exact h2
  have HXX:=zh hX;clear h1 h2 eX hX
  cases b1 with
  | true=>
   gi_wp2_with fail
   refine⟨trivial, ?_⟩
   gi_wp2_with fail
   exact⟨KeepsFrom.refl _ _,KpS.refl _ _ _,fun y hy=>by
    rcases List.mem_append.1 hy with hy | hy
    ·exact HP.out.1 y hy
    ·obtain rfl:=List.mem_singleton.1 hy
     exact(by rw[HOK.out];rfl),HP.out.2.1⟩
  | false=>
   cases hbl:(b2 && lb)with
   | true=>
    have hb2:b2=true:=by cases b2 <;> simp at hbl ⊢
    have hlb:lb=true:=by cases lb <;> simp at hbl ⊢
    subst hb2 hlb;clear hbl
    gi_wp2_with fail
    refine⟨trivial, ?_⟩
    gi_wp2_with fail
    exact⟨KeepsFrom.refl _ _,KpS.refl _ _ _,fun y hy=>by
     rcases List.mem_append.1 hy with hy | hy
     ·exact HP.out.1 y hy
     ·obtain rfl:=List.mem_singleton.1 hy
      exact(by rw[HOK.out];rfl),HP.out.2.1⟩
   | false=>
    rw[hbl]at HOK
    cases b2 with
    | false=>
     clear hbl
     gi_wp2_with fail
     rw[←HXX.out];refine⟨trivial,(fun h=>by cases h),(callsIn_of (F:=Fence.wide.inRound l) rfl (cntAny_any W x hxl)).mono ?_⟩;rintro e w5 ⟨rfl,hk5⟩;rw[HXX.out];have HK5:=zh hk5;have g0:=HP.out.2.2.2.keeps hk5;have e0:=g0.cell 0;have f0:=g0.frozen 0;simp only[zga,zgz]at e0;have HG:=zh g0;clear hk5 g0
     cases hsg:tSign x with
     | false=>
      have HSG:=zh hsg;clear hsg
      gi_wp2_with fail
      have hbb:=HK5.out.below (B:=W2.heap.size) HP.out.2.1.size (by simp);exact⟨KeepsFrom.of_keepsS HK5.out _ (by simp),KpS.of HK5.out HP.out.2.1.size,fun y hy=>by
       rcases List.mem_append.1 hy with hy | hy
       ·exact HP.out.1 y hy
       ·obtain rfl:=List.mem_singleton.1 hy
        exact(by rw[HOK.out,HSG.out];simp),HP.out.2.1.trans hbb⟩
     | true=>
      have HSG:=zh hsg;clear hsg
      gi_wp2_with fail
      have kk:Keeps w5 (w5.setCell ⟨w.heap.size,0,none⟩ (.bool false)) [w.heap.size]:=Keeps.setCell _ _ _;have k6:=(HK5.out.weaken (T:= [w.heap.size]) (by simp)).trans kk (fun y hy _=>hy);refine⟨⟨k6.size,fun k o hk0 hk _=>(k6.block k (Array.getElem?_eq_some_iff.1 hk).1 (by have:=HQ.out.2.2.2;simp;omega)).trans hk⟩,rfl,⟨⟨(x,lb),hxl⟩,by simp,by show tOk x lb=false;rw[HOK.out,HSG.out];simp⟩,HG.out.store 0 _,(HP.out.2.2.1.weaken (T:= [w.heap.size]) (by simp)).trans k6 (fun y hy _=>hy)⟩
    | true=>
     have hlb:lb=false:=by cases lb <;> simp at hbl ⊢
     subst hlb;clear hbl
     gi_wp2_with fail
     rw[←HXX.out];refine⟨trivial,(fun h=>by cases h),(callsIn_of (F:=Fence.wide.inRound l) rfl (cntAny_any W x hxl)).mono ?_⟩;rintro e w5 ⟨rfl,hk5⟩;rw[HXX.out];have HK5:=zh hk5;have g0:=HP.out.2.2.2.keeps hk5;have e0:=g0.cell 0;have f0:=g0.frozen 0;simp only[zga,zgz]at e0;have HG:=zh g0;clear hk5 g0
     cases hsg:tSign x with
     | false=>
      have HSG:=zh hsg;clear hsg
      gi_wp2_with fail
      have hbb:=HK5.out.below (B:=W2.heap.size) HP.out.2.1.size (by simp);exact⟨KeepsFrom.of_keepsS HK5.out _ (by simp),KpS.of HK5.out HP.out.2.1.size,fun y hy=>by
       rcases List.mem_append.1 hy with hy | hy
       ·exact HP.out.1 y hy
       ·obtain rfl:=List.mem_singleton.1 hy
        exact(by rw[HOK.out,HSG.out];simp),HP.out.2.1.trans hbb⟩
     | true=>
      have HSG:=zh hsg;clear hsg
      gi_wp2_with fail
      have kk:Keeps w5 (w5.setCell ⟨w.heap.size,0,none⟩ (.bool false)) [w.heap.size]:=Keeps.setCell _ _ _;have k6:=(HK5.out.weaken (T:= [w.heap.size]) (by simp)).trans kk (fun y hy _=>hy);refine⟨⟨k6.size,fun k o hk0 hk _=>(k6.block k (Array.getElem?_eq_some_iff.1 hk).1 (by have:=HQ.out.2.2.2;simp;omega)).trans hk⟩,rfl,⟨⟨(x,false),hxl⟩,by simp,by show tOk x false=false;rw[HOK.out,HSG.out];simp⟩,HG.out.store 0 _,(HP.out.2.2.1.weaken (T:= [w.heap.size]) (by simp)).trans k6 (fun y hy _=>hy)⟩
 case done=>
  rintro D ys WA hD hys ⟨hp,hB⟩ hK;have hT:=zh (show tOks (tLev s)=true by rw[HL.out,tOks_seq,←hys,List.all_eq_true];intro y hy;obtain⟨z,hz,rfl⟩:=List.mem_map.1 hy;exact hp z hz);have hkW:Keeps W2 WA []:=Keeps.of_below hB;have HP:=zh (And.intro hkW (And.intro hK hD));clear hp hB hK hkW hD
  gi_wp2_with fail
  rw[←HS.out];refine⟨trivial,(callsIn_of rfl (tSaid_any WA s (by omega))).mono ?_⟩;rintro e w5 ⟨rfl,hk5⟩;rw[HS.out];have g0:=(HQ.out.1.keeps HP.out.1).keeps hk5;have e0:=g0.cell 0;have f0:=g0.frozen 0;simp only[zga,zgz]at e0;have H5:=zh (And.intro g0 hk5);clear g0 hk5
  gi_wp2_with fail
  have kk:Keeps w5 (w5.setCell ⟨w.heap.size,0,none⟩ (.bool (tSaid s))) [w.heap.size]:=Keeps.setCell _ _ _;have hsz:=HQ.out.2.2.2;have hD:=HP.out.2.2;have hTF:tFilter s=tSaid s:=by unfold tFilter;rw[hT.out,Bool.and_true]
  rw[hTF];refine filter_door rfl (H5.out.1.store 0 _) (by omega) (by omega) ?_ ((((HQ.out.2.2.1.then_ HP.out.1).then_ H5.out.2).weaken (T:= [w.heap.size]) (by simp)).trans kk (fun y hy _=>hy) |>.weaken (fun y hy hlt=>by simp at hy;omega));have hK5:=(H5.out.2.block D (Array.getElem?_eq_some_iff.1 HP.out.2.1).1 (by simp)).trans HP.out.2.1;exact(kk.block D (Array.getElem?_eq_some_iff.1 hK5).1 (by simp;omega)).trans hK5
 case stop=>
  rintro D c pre WA hD hst ⟨rfl,⟨x,hx,hxf⟩,hr,hk⟩ hK;have hTF:tFilter s=false:=by
   unfold tFilter;have:tOks (tLev s)=false:=by
    rw[HL.out,tOks_seq,List.all_eq_false];exact⟨x.1,hst.subset (List.mem_map.2 ⟨x,hx,rfl⟩),by rw[hxf];exact Bool.false_ne_true⟩
   rw[this,Bool.and_false]
  rw[hTF]
  gi_wp2_with fail
  exact filter_door rfl hr (by have:=HQ.out.2.2.2;omega) (by have:=HQ.out.2.2.2;omega) hK (HQ.out.2.2.1.trans hk (fun y hy hlt=>by simp at hy;omega))

/-- Texts as values. -/
abbrev txL (l:List (List UInt8)):List Value:=l.map fun x=> .string ⟨x.toArray⟩
def lenOf (v:Value):Nat:=match v with
 | .slice _ n _=>n
 | _=>0
theorem txC_list (l:List (List UInt8)):(txC l).toList=txL l:=by
 show(l.flatMap _)=_
 induction l with
 | nil=>rfl
 | cons a l ih=>rw[List.flatMap_cons,ih];rfl
theorem txL_lies {w:World}{b:Nat}{l:List (List UInt8)}(h:Row w b 9 (txC l)):Lies w w.heap.size (some ⟨b,0,none⟩) (txL l):=
 lies_of_row h (txC_list l)
theorem txt_app (a b:List UInt8):(⟨a.toArray⟩:ByteArray)++⟨b.toArray⟩=⟨(a++b).toArray⟩:=by
 apply ByteArray.ext;simp
/-- A list behind its first element. -/
theorem lies_tail {w:World}{g o c:Nat}{x:List UInt8}{l:List (List UInt8)}(h:Lies w w.heap.size (some ⟨g,o,none⟩) (txL (x::l)))(hc:(x::l).length≤c):Lies w w.heap.size (if c=1 then some ⟨g,o,none⟩else some ⟨g,o+1,none⟩) (txL l)∧l.length≤c - 1:=by
 rw[List.length_cons]at hc;refine⟨fun hp=> ?_,by omega⟩;have hl:0 < l.length:=by simpa using hp
 obtain⟨b,o',e,hb,hcx⟩:=h (by simp);injection e with e
 injection e with e1 e2
 subst e1 e2;refine⟨g,o+1,if_neg (by omega),hb,fun j u hu=> ?_⟩;rw[Nat.add_assoc,Nat.add_comm 1 j];exact hcx (j+1) u hu
end Go.Proofs.YtoadlafdeoklbaaGreatDoor
