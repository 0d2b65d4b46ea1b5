/- A scope of labels, inside a fence, that nothing jumps in. Package match: All (an iterator over all entries). Law 14: list (a range over All). -/
import Derived.ControlIn
import Derived.Scope
import Derived.Test.YtoadlafdeoklbaaGreatDoorPa40

namespace Go.Proofs.YtoadlafdeoklbaaGreatDoor

section
variable {F:Fence} {n:Nat} {P:Program} {b:Frame} {a:Act} {k:List Item} {cs:List Frame} {w:World} {Q:Exit→Act→World→Prop}
theorem stepR_scope {c:Code}:step P (lone (b.atR a (.code (.scope c)::k)) cs w)= .next (lone (b.atR a (.code c:: .inScope c::k)) cs w):=
 step_lone_go (by simp[stepG,stepG.exec,Frame.atR])
theorem stepR_inScope {c:Code}:step P (lone (b.atR a (.inScope c::k)) cs w)= .next (lone (b.atR a k) cs w):=
 step_lone_go (by simp[stepG,stepG.exec,Frame.atR])
theorem wpIn_scope_straight {c:Code}(h:c.wpIn F n P (Exit.noGoto Q) a w):(Code.scope c).wpIn F n P Q a w:=by
 intro b k cs hro hb hr;have h0:(lone (b.atR a (.code (.scope c)::k)) cs w).fenced P F:=fenced_calm hb hr rfl;obtain⟨e,a₁,w₁,hq,harr⟩:=h b (.inScope c::k) cs hro hb hr
 cases e with
 | normal=>exact⟨.normal,a₁,w₁,hq,.head h0 stepR_scope (StepsIn.trans harr (.one (fenced_calm hb hr rfl) stepR_inScope))⟩
 | exit id=>
  have hx:exitTo id (.inScope c::k)=exitTo id k:=by simp[exitTo]
  exact⟨_,a₁,w₁,hq,fun k' hk=> .head h0 stepR_scope (harr.1 k' (by rw[hx];exact hk)),
   fun hr' hk=>let⟨k₁,h1,h2⟩:=harr.2 hr' (by rw[hx];exact hk);⟨k₁,h1,.head h0 stepR_scope h2⟩⟩
 | goto l=>exact hq.elim
 | ret=>exact⟨_,a₁,w₁,hq,.of_steps (.one h0 stepR_scope) harr⟩
 | panic ch=>exact⟨_,a₁,w₁,hq,.of_steps (.one h0 stepR_scope) harr⟩
 | outgrown=>exact⟨_,a₁,w₁,hq,.of_steps (.one h0 stepR_scope) harr⟩
end
end Go.Proofs.YtoadlafdeoklbaaGreatDoor

namespace Go.Proofs.YtoadlafdeoklbaaGreatDoor
open Go.RowKit Go.Maps Go.Shelf

attribute [local go_sem] Oper.semAt_some

/-- What a round leaves alone: all below n₀ but for blocks of S. -/
structure KpB (n₀:Nat)(S:List Nat)(W W' :World):Prop where
 os:W'.os=W.os
 tape:W'.tape=W.tape
 output:W'.output=W.output
 size:W.heap.size≤W'.heap.size
 block:∀k,k < n₀→k∉S→W'.heap[k]? =W.heap[k]?
theorem KpB.refl (n₀:Nat)(S:List Nat)(W:World):KpB n₀ S W W:=⟨rfl,rfl,rfl,Nat.le_refl _,fun _ _ _=>rfl⟩
theorem KpB.t {n₀:Nat}{S:List Nat}{A B C:World}(h:KpB n₀ S A B)(k:KpB n₀ S B C):KpB n₀ S A C:=
 ⟨k.os.trans h.os,k.tape.trans h.tape,k.output.trans h.output,Nat.le_trans h.size k.size,fun i hi hS=>(k.block i hi hS).trans (h.block i hi hS)⟩
theorem KpB.of {n₀:Nat}{S:List Nat}{W W' :World}(h:Keeps W W' S)(hn:n₀≤W.heap.size):KpB n₀ S W W' :=
 ⟨h.os,h.tape,h.output,h.size,fun k hk hS=>h.block k (Nat.lt_of_lt_of_le hk hn) hS⟩
theorem KpB.cell {n₀:Nat}{S:List Nat}{W W' :World}(h:KpB n₀ S W W'){p:Addr}(hp:p.block < n₀)(hS:p.block∉S):W'.cell? p=W.cell? p:=World.cell?_of_block (h.block _ hp hS)
theorem KpB.put {n₀:Nat}{S:List Nat}{w:World}(hn:n₀≤w.heap.size)(W:World)(l:Nat)(o o' :Obj)(hl:w.heap.size≤l)(h:W.heap[l]? =some o)(hc:o.isCells=false)(hw:o.isWalk=false):KpB n₀ S W (W.putObj l o'):=
 have b:=belowK_b hn W l o o' hl h hc hw
 ⟨b.os,b.tape,b.output,b.size,fun k hk _=>b.block k hk⟩
def sbArgs (x:Sb):Array Value:= #[.agg #[.string ⟨x.f.toArray⟩,.string ⟨x.c.toArray⟩,.int .i64 x.q]]
theorem keeps_grown {w w' :World}(h:Keeps w w' []):w.grownBy w' none:=⟨h.os,h.tape,h.output,h.size,fun k hk _=>h.block k hk (by simp)⟩
set_option maxRecDepth 100000 in
set_option maxHeartbeats 4000000 in
theorem mtAll1_in (F:Fence)(n:Nat)(hF:F.plain=Fence.wide)(hf:F.fn 61)(hro:F.round=none)(hn:1≤n)(l b n₀:Nat)(A:Option Addr)(c:Nat)(L:List Sb)(hLl:L.length≤1000000)(W:World)(J Jx:List Sb→World→Prop)
  (hAb:AbidesFrom W.heap.size J) (hn₀:n₀≤W.heap.size) (S:List Nat) (_hb:b < n₀∧b∉S) (hL:ListAt W 25 3 sbC A L) (hg:∀g o,A=some ⟨g,o,none⟩→0 < L.length→g < n₀∧g∉S)
  (hY:∀pre x W1,J pre W1→pre.length < L.length+1→YieldAt F (n - 1) Tryz.prog l (sbArgs x) W1 fun e W' =>
   (e= .returned (.bool true)∧J (pre++ [x]) W' ∧KpB n₀ S W1 W')∨(e= .returned (.bool false)∧Jx (pre++ [x]) W'))
  (hc:W.cell? ⟨b,0,none⟩=some (.slice A L.length c)) (h0:J [] W):
  CallsIn F n Tryz.prog 61 #[.func (.yield l) #[] #[],.pointer (some ⟨b,0,none⟩)] W fun e W' =>(∃v,e= .returned v)∧
   ((∃ys,ys=L∧J ys W')∨(∃pre,pre <+:L∧Jx pre W')):=by
 have hfn:∀f,F.fn f:=fun f=>by
  have:F.plain.fn f:=by rw[hF];trivial
  exact this
 have HF:=zh (And.intro hF hfn);have HY:=zh hY;have HJ:=zh hAb;have HL:=zh (And.intro hL hg);have HLL:=zh hLl;have HN0:=zh hn₀;clear hfn hY hL hAb hg hLl;refine callsIn_of_wp Tryz.func61 rfl hf ?_ hro;simp only[Tryz.ntmps61,List.size_toArray,List.length_cons,List.length_nil,Nat.reduceAdd,Nat.reduceSub,Array.replicate_succ,Array.replicate_zero,List.push_toArray,List.append_toArray,List.nil_append,List.cons_append];apply wpIn_scope_straight
 gi_wp2_with fail
 apply wpIn_label
 gi_wp2_with fail
 clear hc
 gi_loopw [7] (fun i wr=>∃k:Nat,k≤L.length∧i= .int .i64 k∧J (L.take k) wr∧KpB n₀ S W wr) (fun i _=>L.length - (intOf i).toNat)
 case atStart=>exact⟨0,by omega,rfl,by rw[ztz];exact h0,KpB.refl _ _ _⟩
 case round=>
  obtain⟨k,hk,rfl,hJs,hnx⟩:=hrel;have hl6:=HLL.out
  by_cases hlt:k < L.length
  ·obtain⟨g,o,cs,rfl,hrow,hcs⟩:=HL.out.1 (by omega)
   have hgn:=HL.out.2 g o rfl (by omega);obtain⟨⟨xf,xc,xq⟩,hx⟩:∃x,L[k]=x:=⟨_,rfl⟩;have HC:=fun i (hi:i < 3)=>(hnx.cell (p:=⟨g,o+k*3+i,none⟩) hgn.1 hgn.2).trans ((hrow.cell _).trans (hcs k hlt i hi))
   rw[hx]at HC;have c0:=HC 0 (by omega);have c1:=HC 1 (by omega);have c2:=HC 2 (by omega);have HN:=zh (show L.take (k+1)=L.take k++ [⟨xf,xc,xq⟩]by rw[List.take_succ_eq_append_getElem hlt,hx]);simp only[sbC,zgz,zgs,Nat.add_zero]at c0 c1 c2;obtain⟨X,hX⟩:∃S:ByteArray,(⟨xf.toArray⟩:ByteArray)=S:=⟨_,rfl⟩;obtain⟨Y,hY⟩:∃S:ByteArray,(⟨xc.toArray⟩:ByteArray)=S:=⟨_,rfl⟩;obtain⟨W5,hW5⟩:∃W5,wr.alloc (.cells #[.string X,.string Y,.int .i64 xq] 25)=W5:=⟨_,rfl⟩;have hk5:Keeps wr W5 []:=by rw[←hW5];exact Keeps.alloc _ _
   have hr5:Row W5 wr.heap.size 25 #[.string X,.string Y,.int .i64 xq]:=by rw[←hW5];exact Row.new _ _ _
   have hJ5:=HJ.out _ _ _ none hJs (keeps_grown hk5) (fun _ h=>by cases h);obtain⟨fn,tmps,assign,body,hy,hR⟩:=HY.out _ ⟨xf,xc,xq⟩ W5 hJ5 (by rw[List.length_take];omega);have HRR:=zh (And.intro hR (hnx.t (KpB.of (hk5.weaken (T:=S) (by simp)) (Nat.le_trans HN0.out hnx.size))));have HR5:=zh hr5;have HW5:=zh hW5;unfold sbArgs at hy
   dsimp only at hy
   rw[hX]at c0 hy;rw[hY]at c1 hy;have hn2:=n - 1;clear hR hnx hJs hx HC hrow hcs hgn hk5 hJ5 hW5 hr5 hX hY;rw[←HW5.out]at hy;rw[←HW5.out]at HRR
   gi_wp2_with fail
   refine HRR.out.1.mono ?_;rintro e W3 (⟨rfl,hJ3,hk3⟩ | ⟨rfl,hJx3⟩)
   ·rw[←HN.out]at hJ3
    have HJ3:=zh (And.intro hJ3 (HRR.out.2.t hk3));clear hJ3 hk3 hy
    gi_wp2_with fail
    exact⟨⟨k+1,by omega,by go_num,HJ3.out.1,HJ3.out.2⟩,by simp[intOf];omega⟩
   ·rw[←HN.out]at hJx3
    have HJ3:=zh hJx3;clear hJx3 hy
    gi_wp2_with fail
    simp only[Exit.noGoto]
    go_end0
    exact⟨⟨_,rfl⟩,.inr ⟨_,List.take_prefix _ _,HJ3.out⟩⟩
  ·obtain rfl:k=L.length:=by omega
   have HJ3:=zh (show J L wr by rwa [List.take_length]at hJs);clear hJs
   gi_wp2_with fail
   simp only[Exit.noGoto]
   go_end0
   exact⟨⟨_,rfl⟩,.inl ⟨_,rfl,HJ3.out⟩⟩
theorem mtAll1_stops (F:Fence)(n:Nat)(hF:F.plain=Fence.wide)(hf:F.fn 61)(hro:F.round=none)(hn:1≤n)(b n₀:Nat)(A:Option Addr)(c:Nat)(L:List Sb)(hLl:L.length≤1000000)(w:World)
  (hn₀:n₀≤w.heap.size) (S:List Nat) (hb:b < n₀∧b∉S) (hL:ListAt w 25 3 sbC A L) (hg:∀g o,A=some ⟨g,o,none⟩→0 < L.length→g < n₀∧g∉S) (hc:w.cell? ⟨b,0,none⟩=some (.slice A L.length c)):
  SeqStopsK F n Tryz.prog 61 #[.pointer (some ⟨b,0,none⟩)] sbArgs (KpB n₀ S) (fun ys=>ys=L) (fun pre=>pre <+:L) (L.length+1) w:=fun l J Jx W hW hJ _ hY h0=>
 (mtAll1_in F n hF hf hro hn l b n₀ A c L hLl W J Jx hJ (Nat.le_trans hn₀ hW.size) S hb (hL.keeps (Keeps.of_below hW)) hg hY ((hW.cell (p:=⟨b,0,none⟩) (Nat.lt_of_lt_of_le hb.1 hn₀)).trans hc) h0).mono
  fun _ _ ⟨h1,h2⟩=>⟨h1,h2⟩
/-- What All answers. -/
def AllPost (W:World)(L:List Sb)(e:Ending)(w' :World):Prop:=∃b A c,e= .returned (.func (.func 61) #[] #[.pointer (some ⟨b,0,none⟩)])∧Keeps W w' []∧W.heap.size≤b∧Row w' b 22 #[.slice A L.length c]∧OwnN w' W.heap.size 25 3 sbC (.slice A L.length c) L
set_option maxRecDepth 100000 in
theorem mtAllF_any (W:World)(nv:Value)(L:List Sb)(h:Calls Tryz.prog 52 #[nv] W fun e w' =>∃v,e= .returned v∧OwnN w' W.heap.size 25 3 sbC v L∧Keeps W w' []):
  Calls Tryz.prog 26 #[nv] W (AllPost W L):=by
 have H:=zh h;clear h
 go_enter Tryz.func26,Tryz.ntmps26
 go_wp2_with fail
 refine H.out.mono ?_;rintro e w1 ⟨v,rfl,ho,hk⟩;obtain⟨A,c,rfl⟩:=OwnN.slice ho;have HO:=zh (And.intro ho hk);clear ho hk
 go_wp2_with fail
 go_ret;exact⟨_,A,c,rfl,HO.out.2.then_ (Keeps.alloc _ _),HO.out.2.size,Row.new _ _ _,HO.out.1.keeps (Keeps.alloc _ _)⟩

attribute [local go_sem] Oper.semAt_some

theorem wpListIn_append_N {α:Type}{k:Nat}{f:α→List Value}{e t:TypeId}{w:World}{F:Fence}{nF:Nat}{P:Program}{ops:Array Oper}{rest:List Oper}{o:Oper}{a:Act}{Q:Exit→Act→World→Prop}(T:ElemN P t e k)(E:Enc k f)(hgd:o.guard=none)(s x:Operand)
  (ho:o.op= .call {callee:= .builtin .append,args:= #[s,x],argTypes:= #[t,t]})
  (B:Nat) (v:Value) (A:Option Addr) (n c:Nat) (l1 l2:List α) (hn:l2.length=n) (hs:a.eval s=v) (hx:a.eval x= .slice A n c) (hown:OwnN w B e k f v l1) (hb:Lies w w.heap.size A (l2.flatMap f)) (hlen:l1.length+l2.length≤1000000) (hbase:B≤w.heap.size)
  (h:∀A c w',OwnN w' B e k f (.slice A (l1++l2).length c) (l1++l2)→Keeps w w' v.ownBlock.toList→wpListIn F nF P ops Q rest (a.put o.dst (.slice A (l1++l2).length c)) w'):wpListIn F nF P ops Q (o::rest) a w:=by
 subst hn;refine wpListIn_plain hgd fun K hK=> ?_
 obtain⟨A',c',w',hrun,h2,h3,h4⟩:=run_append_N T E v A c l1 l2 o.type hown hb hlen hbase;unfold Oper.wpIn;refine⟨by simp[Oper.about,ho,resolve,Target.leads,Sem.run_pure], ?_⟩;rw[Oper.semAt_plain F _ _ (by rw[ho];intro c hc';cases hc')];simp only[execOp,ho,resolve,invoke,builtin,Sem.run_bind,Sem.run_pure,Result.andThen_ok,List.map_toArray,List.map_cons,List.map_nil,hs,hx,hrun];exact hK _ _ (h A' c' w' h2 h3)
/-- What is listed so far. -/
structure LtSt (B g:Nat)(W0 W:World)(pre:List Sb):Prop where
 ex:∃v,Row W g 22 #[v]∧OwnN W B 25 3 sbC v pre
 k:Keeps W0 W [g]
theorem ownN_grown {α:Type}{k:Nat}{f:α→List Value}{e:TypeId}{W W' :World}{B:Nat}{v:Value}{l:List α}{row:Option Nat}(h:OwnN W B e k f v l)(hg:W.grownBy W' row)(hr:∀r,row=some r→∃o:Obj,W.heap[r]? =some o∧o.isCells=false):OwnN W' B e k f v l:=
 h.keep (Keeps.of_grown hg) fun x hx=> .inr fun cs hc=>by
  obtain⟨o,h1,h2⟩:=hr x (by simpa using hx);rw[hc]at h1
  cases h1
  cases h2
theorem row_grown {W W' :World}{g:Nat}{t:TypeId}{cs:Array Value}{row:Option Nat}(h:Row W g t cs)(hg:W.grownBy W' row)(hr:∀r,row=some r→∃o:Obj,W.heap[r]? =some o∧o.isCells=false):Row W' g t cs:=
 h.keep (Keeps.of_grown hg) fun hx=>by
  obtain⟨o,h1,h2⟩:=hr g (by simpa using hx);rw[h]at h1
  cases h1
  cases h2
theorem LtSt.own {B g:Nat}{W0 W W' :World}{pre:List Sb}{row:Option Nat}(h:LtSt B g W0 W pre)(hg:W.grownBy W' row)(hr:∀r,row=some r→W0.heap.size≤r∧∃o:Obj,W.heap[r]? =some o∧o.isCells=false):LtSt B g W0 W' pre:=by
 obtain⟨⟨v,h1,h2⟩,h3⟩:=h;exact⟨⟨v,row_grown h1 hg fun r e=>(hr r e).2,ownN_grown h2 hg fun r e=>(hr r e).2⟩,h3.trans (Keeps.of_grown hg) fun y hy hlt=>by have:=(hr y (by simpa using hy)).1;omega⟩
theorem LtSt.keeps {B g:Nat}{W0 W W' :World}{pre:List Sb}(h:LtSt B g W0 W pre)(hk:Keeps W W' []):LtSt B g W0 W' pre:=by
 obtain⟨⟨v,h1,h2⟩,h3⟩:=h;exact⟨⟨v,h1.keeps hk,h2.keeps hk⟩,h3.trans (hk.weaken (T:= []) (by simp)) (fun y hy _=>by cases hy)⟩
theorem keepsFrom_rows {B:Nat}{S:List Nat}{W W' :World}(h:Keeps W W' S)(hS:∀x∈S,∃t cs,Row W x t cs):KeepsFrom B W W' :=⟨h.size,fun k o _ h0 ho=>by
 by_cases hk:k∈S
 ·obtain⟨t,cs,hr⟩:=hS k hk
  rw[hr]at h0
  cases h0
  cases ho
 ·exact(h.block k (Array.getElem?_eq_some_iff.1 h0).1 hk).trans h0⟩
set_option maxRecDepth 100000 in
set_option maxHeartbeats 4000000 in
theorem mtList_in (n:Nat)(hn:3≤n)(w:World)(nv:Value)(L:List Sb)(hLl:L.length≤100000)(hall:∀W,Keeps w W []→Calls Tryz.prog 26 #[nv] W (AllPost W L)):
  CallsIn Fence.wide n Tryz.prog 28 #[nv] w fun e w' =>∃v,e= .returned v∧OwnN w' w.heap.size 25 3 sbC v L∧Keeps w w' []:=by
 have h1:1≤n:=by omega
 have hro:Fence.wide.round=none:=rfl;have HA:=zh hall;have HLL:=zh hLl;clear hall hLl;refine callsIn_of_wp_marks Tryz.func28 rfl trivial ?_ hro;simp only[Tryz.ntmps28,List.size_toArray,List.length_cons,List.length_nil,Nat.reduceAdd,Nat.reduceSub,Array.replicate_succ,Array.replicate_zero,List.push_toArray,List.append_toArray,List.nil_append,List.cons_append]
 gi_wp2_with fail
 obtain⟨W0,hW0⟩:∃W0,w.alloc (.cells #[.slice none 0 0] 22)=W0:=⟨_,rfl⟩;have r0:Row W0 w.heap.size 22 #[.slice none 0 0]:=by rw[←hW0];exact Row.new _ _ _
 have k0:Keeps w W0 []:=by rw[←hW0];exact Keeps.alloc _ _
 have s0:W0.heap.size=w.heap.size+1:=by rw[←hW0];simp
 rw[hW0];have H0:=zh (And.intro r0 (And.intro k0 s0));clear hW0 r0 k0 s0;refine⟨trivial,(callsIn_of rfl (HA.out W0 H0.out.2.1)).mono ?_⟩;rintro e W2 ⟨b,A,c,rfl,hk2,hb2,hr2,ho2⟩;have H2:=zh (And.intro hk2 (And.intro hb2 (And.intro hr2 ho2)));clear hk2 hb2 hr2 ho2;have heq:∀W,(binOp .eql 59 (.func (.func 61) #[] #[.pointer (some ⟨b,0,none⟩)]) .nilFunc).run Tryz.prog W= .ok (.bool false) W:=fun W=>by kernel_rfl
 gi_wp2_with fail
 clear heq;have HI:LtSt W2.heap.size w.heap.size W2 W2 []:=⟨⟨_,H0.out.1.keeps H2.out.1,OwnN.nil _ _ _ _ _⟩,Keeps.refl _ _⟩;have hblt:=H2.out.2.2.1.lt;have hs2:=H2.out.1.size;have hb2:=H2.out.2.1;have hs0:=H0.out.2.2;refine wpIn_rangeFunc_ownH hro h1 (gf:=61) (lb:= #[.pointer (some ⟨b,0,none⟩)]) rfl trivial (enters_of Tryz.func61 (by kernel_rfl) rfl)
  (mtAll1_stops Fence.wide (n - 1) rfl trivial hro (by omega) b W2.heap.size A c L (by have:=HLL.out;omega) W2 (Nat.le_refl _) [w.heap.size] ⟨hblt,by simp;omega⟩ (H2.out.2.2.2.at_ encSb) (fun g o e hl=>by
   obtain⟨q1,cs,q2⟩:=H2.out.2.2.2.rows g (by rw[e];simp[Value.ownBlock]);exact⟨q2.lt,by simp;omega⟩) (H2.out.2.2.1.cell 0))
  KpB.t (KpB.put (Nat.le_refl _)) (Below.refl _ _) (fun _=>rfl)
  (fun pre W' =>LtSt W2.heap.size w.heap.size W2 W' pre)
  (fun _ _ _=>False)
  (fun pre A B row hs hg hr=>hs.own hg hr)
  (fun _ _ _ _ _ hs _ _=>hs)
  HI
  (fun x a' W' =>∃g,a' = {tmps:= #[nv,undef,.slice none 0 0,.pointer (some ⟨w.heap.size,0,none⟩),.func (.func 61) #[] #[.pointer (some ⟨b,0,none⟩)],.pointer (some ⟨g,0,none⟩),nv,.func (.func 61) #[] #[.pointer (some ⟨b,0,none⟩)],.func (.func 61) #[] #[.pointer (some ⟨b,0,none⟩)],.bool false,.func (.func 61) #[] #[.pointer (some ⟨b,0,none⟩)],.agg #[.string ⟨x.f.toArray⟩,.string ⟨x.c.toArray⟩,.int .i64 x.q],undef,undef,undef,undef,undef],defers:= []}∧Row W' g 25 #[.string ⟨x.f.toArray⟩,.string ⟨x.c.toArray⟩,.int .i64 x.q]∧W2.heap.size≤g)
  (fun _ _ _ _ _ _ hs hg hr=>by
   obtain⟨g,h1,h2,h3⟩:=hs;exact⟨g,h1,row_grown h2 hg (fun r e=>(hr r e).2),h3⟩) ?assign ?body ?done ?stop
 case assign=>
  intro l pre x W1 K hI hK;unfold sbArgs
  gi_wp2
  have hk:=Keeps.alloc W1 (.cells #[.string ⟨x.f.toArray⟩,.string ⟨x.c.toArray⟩,.int .i64 x.q] 25);exact hK _ _ (KeepsFrom.of_keepsS hk _ (by simp)) (KpB.of (hk.weaken (by simp)) hI.k.size) (hI.keeps hk) ⟨_,rfl,Row.new _ _ _,hI.k.size⟩
 case stop=>
  rintro D c pre W _ _ h _;exact h.elim
 case done=>
  rintro D ys WA hD hys hI hK;subst hys;obtain⟨⟨v,hr,ho⟩,hk⟩:=hI;have d0:=hr.cell 0;simp only[zga,zgz]at d0;have HE:=zh (And.intro ho (And.intro hk (And.intro hK hD)));clear hr ho hk hK hD
  gi_wp2_with fail
  obtain⟨ho,hk,hK,hD⟩:=HE.out;have hsz:=H2.out.1.size;have hs0' :=H0.out.2.2;refine⟨by simp,.inl ⟨_,_,rfl,run_takeDeferred hK, ?_⟩⟩;have hg:=grownBy_putObj' WA D (.deferred none);have kp:Keeps WA (WA.putObj D (.deferred none)) [D]:=Keeps.of_grown hg;refine⟨v, ?_,v,rfl, ?_, ?_⟩
  ·simp[results,Tryz.results28,go_sem]
  ·exact OwnN.low (ownN_grown ho hg (fun r e=>by cases e;exact⟨_,hK,rfl⟩)) (by omega)
  ·exact(((H0.out.2.1.then_ H2.out.1).trans hk (fun y hy hlt=>by simp at hy;omega)).trans kp (fun y hy hlt=>by simp at hy;omega))
 case body=>
  rintro l pre ⟨xf,xc,xq⟩ a' W1 hl _ ⟨⟨v,hr,ho⟩,hk⟩ ⟨g,rfl,hg,hgl⟩ hpre
  dsimp only at hg ⊢
  obtain⟨A1,n1,rfl⟩:=OwnN.slice ho;obtain⟨X,hX⟩:∃S:ByteArray,(⟨xf.toArray⟩:ByteArray)=S:=⟨_,rfl⟩;obtain⟨Y,hY⟩:∃S:ByteArray,(⟨xc.toArray⟩:ByteArray)=S:=⟨_,rfl⟩;rw[hX,hY]at hg;rw[hX,hY];obtain⟨Wc,hWc⟩:∃Wc,W1.alloc (.cells #[.string X,.string Y,.int .i64 xq] 25)=Wc:=⟨_,rfl⟩;have kc:Keeps W1 Wc []:=by rw[←hWc];exact Keeps.alloc _ _
  have HLa:=zh (show Lies Wc Wc.heap.size (some ⟨W1.heap.size,0,none⟩) (([⟨xf,xc,xq⟩]:List Sb).flatMap sbC)from lies_of_row (cs:= #[.string X,.string Y,.int .i64 xq]) (by rw[←hWc];exact Row.new _ _ _) (by rw[←hX,←hY];rfl));have HOc:=zh (ho.keeps kc);have HRc:=zh (hr.keeps kc);have HKc:=zh kc;have HK:=zh hk;have hbs:W2.heap.size≤Wc.heap.size:=Nat.le_trans hk.size kc.size;have HPR:=zh (show pre.length≤100000 from by have:=HLL.out;omega);have d0:=hr.cell 0;have c0:=hg.cell 0;have c1:=hg.cell 1;have c2:=hg.cell 2;simp only[zga,zgz,zgs]at d0 c0 c1 c2;have HR1:=zh hr;have hor:=ho.rows;have HOR:=zh hor;clear kc hk hr ho hg hX hY hpre hor
  gi_wp2_with (gi_at_builtin;refine wpListIn_append_N elemSub encSb rfl (.tmp 12) (.tmp 14) rfl W2.heap.size (.slice A1 pre.length n1) (some ⟨W1.heap.size,0,none⟩) 1 1 pre [⟨xf,xc,xq⟩] rfl rfl rfl HOc.out HLa.out (by have:=HPR.out;simp;omega) hbs ?_;intro A7 c7 w7 ho7 hk7;refine Hid.out ?_)
  refine zh ?_;have hne:w.heap.size∉(Value.slice A1 pre.length n1).ownBlock.toList:=fun e=>by
   obtain⟨_,cs,hc⟩:=HOc.out.rows _ e;exact HRc.out.ne_type hc (by decide) rfl
  have hr7:=HRc.out.keep hk7 hne;have HR7:=zh (And.intro hr7 (And.intro ho7 hk7));have z0:=hr7.frozen 0;have e0:=hr7.cell 0;simp only[zga,zgz]at e0;clear hne hr7 ho7 hk7 c0 c1 c2 d0
  gi_wp2_with fail
  obtain⟨hr7,ho7,hk7⟩:=HR7.out;rw[show(pre++ [(⟨xf,xc,xq⟩:Sb)]).length=pre.length+1 by simp]at ho7;have hor:=HOR.out;have k9:Keeps w7 (w7.setCell ⟨w.heap.size,0,none⟩ (.slice A7 (pre.length+1) c7)) [w.heap.size]:=Keeps.setCell _ _ _;have hrows:∀x∈(Value.slice A1 pre.length n1).ownBlock.toList++ [w.heap.size],∃t cs,Row W1 x t cs:=fun x hx=>by
   rcases List.mem_append.1 hx with hx | hx
   ·obtain⟨cs,hc⟩:=(hor x hx).2
    exact⟨_,cs,hc⟩
   ·rw[List.mem_singleton.1 hx]
    exact⟨_,_,HR1.out⟩
  have kT:Keeps W1 (w7.setCell ⟨w.heap.size,0,none⟩ (.slice A7 (pre.length+1) c7)) ((Value.slice A1 pre.length n1).ownBlock.toList++ [w.heap.size]):=
   ((HKc.out.weaken (T:=(Value.slice A1 pre.length n1).ownBlock.toList++ [w.heap.size]) (by simp)).trans (hk7.weaken (T:=(Value.slice A1 pre.length n1).ownBlock.toList++ [w.heap.size]) (by intro y hy;simp[hy])) (fun y hy _=>hy)).trans (k9.weaken (by simp)) (fun y hy _=>hy)
  have kW:Keeps W2 (w7.setCell ⟨w.heap.size,0,none⟩ (.slice A7 (pre.length+1) c7)) [w.heap.size]:=HK.out.trans kT (fun y hy hlt=>by
   rcases List.mem_append.1 hy with hy | hy
   ·have:=(hor y hy).1
    omega
   ·exact hy)
  refine⟨keepsFrom_rows kT hrows,⟨kT.os,kT.tape,kT.output,kT.size,fun k hk hS=>kT.block k (Nat.lt_of_lt_of_le hk HK.out.size) (fun hm=> ?_)⟩,⟨⟨_,hr7.store 0 _,ho7.keep k9 (fun x hx=> .inr fun cs hc=> ?_)⟩,kW⟩⟩
  ·rcases List.mem_append.1 hm with hm | hm
   ·have:=(hor k hm).1
    omega
   ·exact hS hm
  ·rw[List.mem_singleton.1 hx]at hc
   exact hr7.ne_type hc (by decide) rfl
end Go.Proofs.YtoadlafdeoklbaaGreatDoor
