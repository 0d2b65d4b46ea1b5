/- A scope of labels, inside a fence, that nothing jumps in. A range over a function, whose rounds may turn maps: a rule of its own. Package match: All (an iterator over all entries). Law 14: list (a range over All). Plain law 14: a copy is set entry by entry. Package match: Copy (a range over All that sets entry by entry). -/
import Derived.ControlIn
import Derived.Scope
import Derived.RangeFuncOwn
import Derived.RangeFuncLeaves
import Derived.Test.YtoadlafdeoklbaaGreatDoorPa0
import Derived.Test.YtoadlafdeoklbaaGreatDoorPa40
import Derived.Test.YtoadlafdeoklbaaGreatDoorPa30

namespace Go.Proofs.YtoadlafdeoklbaaGreatDoor

section
variable {F:Fence} {n:Nat} {P:Program} {b:Frame} {a:Act} {k:List Item} {cs:List Frame} {w:World} {Q:Exit→Act→World→Prop}
theorem stepR_scope {c:Code}:step P (lone (b.atR a (.code (.scope c)::k)) cs w)= .next (lone (b.atR a (.code c:: .inScope c::k)) cs w):=
 step_lone_go (by simp[stepG,stepG.exec,Frame.atR])
theorem stepR_inScope {c:Code}:step P (lone (b.atR a (.inScope c::k)) cs w)= .next (lone (b.atR a k) cs w):=
 step_lone_go (by simp[stepG,stepG.exec,Frame.atR])
theorem wpIn_scope_straight {c:Code}(h:c.wpIn F n P (Exit.noGoto Q) a w):(Code.scope c).wpIn F n P Q a w:=by
 intro b k cs hro hb hr;have h0:(lone (b.atR a (.code (.scope c)::k)) cs w).fenced P F:=fenced_calm hb hr rfl;obtain⟨e,a₁,w₁,hq,harr⟩:=h b (.inScope c::k) cs hro hb hr
 cases e with
 | normal=>exact⟨.normal,a₁,w₁,hq,.head h0 stepR_scope (StepsIn.trans harr (.one (fenced_calm hb hr rfl) stepR_inScope))⟩
 | exit id=>
  have hx:exitTo id (.inScope c::k)=exitTo id k:=by simp[exitTo]
  exact⟨_,a₁,w₁,hq,fun k' hk=> .head h0 stepR_scope (harr.1 k' (by rw[hx];exact hk)),
   fun hr' hk=>let⟨k₁,h1,h2⟩:=harr.2 hr' (by rw[hx];exact hk);⟨k₁,h1,.head h0 stepR_scope h2⟩⟩
 | goto l=>exact hq.elim
 | ret=>exact⟨_,a₁,w₁,hq,.of_steps (.one h0 stepR_scope) harr⟩
 | panic ch=>exact⟨_,a₁,w₁,hq,.of_steps (.one h0 stepR_scope) harr⟩
 | outgrown=>exact⟨_,a₁,w₁,hq,.of_steps (.one h0 stepR_scope) harr⟩
end
end Go.Proofs.YtoadlafdeoklbaaGreatDoor

namespace Go.Proofs.YtoadlafdeoklbaaGreatDoor
open Go.RowKit

/-- A loop's record, or the block of its deferred calls. -/
def isRec:Obj→Bool
 | .loop _=>true
 | .deferred _=>true
 | _=>false
/-- Records lie as they lay. -/
structure KRec (W W' :World):Prop where
 size:W.heap.size≤W'.heap.size
 same:∀(k:Nat) (o:Obj),W.heap[k]? =some o→isRec o=true→W'.heap[k]? =some o
theorem KRec.of {W W' :World}{S:List Nat}(h:Keeps W W' S)(hS:∀x∈S,∀o,W.heap[x]? =some o→isRec o=false):KRec W W' :=
 ⟨h.size,fun k o h1 h2=>by
  by_cases hk:k∈S
  ·rw[hS k hk o h1]at h2
   cases h2
  ·exact(h.block k (Array.getElem?_eq_some_iff.1 h1).1 hk).trans h1⟩
theorem KRec.keeps {W W' :World}(h:Keeps W W' []):KRec W W' :=KRec.of h (by simp)
/-- What stays where records turn. -/
def RecOk (B:Nat)(I:World→Prop):Prop:=∀(X Y:World) (S:List Nat),I X→Keeps X Y S→(∀x∈S,B≤x∧∃o,X.heap[x]? =some o∧isRec o=true)→I Y
theorem RecOk.keeps {B:Nat}{I:World→Prop}(h:RecOk B I){X Y:World}(hi:I X)(hk:Keeps X Y []):I Y:=h X Y [] hi hk (by simp)
theorem keeps_put (W:World)(l:Nat)(o:Obj):Keeps W (W.putObj l o) [l]:=Keeps.of_grown (grownBy_putObj' W l o)
theorem RecOk.put {B:Nat}{I:World→Prop}(h:RecOk B I){W:World}{l:Nat}{o:Obj}(o' :Obj)(hi:I W)(hB:B≤l)(hl:W.heap[l]? =some o)(ho:isRec o=true):I (W.putObj l o'):=
 h W _ [l] hi (keeps_put W l o') fun x hx=>by
  rw[List.mem_singleton.1 hx];exact⟨hB,o,hl,ho⟩
/-- What an iterator promises to a round that may turn maps. -/
def IterK {α:Type}(F:Fence)(n:Nat)(P:Program)(g:Nat)(lb:Array Value)(encs:α→Array Value)(Kp:World→World→Prop)(S Sp:List α→Prop)(w:World):Prop:=
 ∀(l:Nat) (J Jx:List α→World→Prop) (W:World),Keeps w W []→(∀s A B,J s A→Keeps A B []→J s B)→
  (∀s x V,J s V→Sp (s++ [x])→YieldAt F (n - 1) P l (encs x) V fun e V' =>(e= .returned (.bool true)∧J (s++ [x]) V' ∧Kp V V')∨(e= .returned (.bool false)∧Jx (s++ [x]) V'))→
  J [] W→CallsIn F n P g (#[.func (.yield l) #[] #[]]++lb) W fun e V=>(∃v,e= .returned v)∧((∃s,S s∧J s V)∨∃s,Sp s∧Jx s V)
/-- How a round may end. -/
def rPost {α:Type}(Kp:World→World→Prop)(I:List α→World→Prop)(Ix:Code→List α→World→Prop)(s:List α)(W:World):Exit→Act→World→Prop
 | .normal,_,V=>KRec W V∧Kp W V∧I s V
 | .ret,_,V=>KRec W V∧Ix .ret s V
 | .exit i,_,V=>KRec W V∧Ix (.exit i) s V
 | .goto i,_,V=>KRec W V∧Ix (.goto i) s V
 | .panic _,_,_=>False
 | .outgrown,_,_=>False
/-- The state between rounds: the record and the block of deferred calls beside. -/
def RSt (B:Nat)(r:Loop)(p:World→Prop)(W:World):Prop:=p W∧W.heap[B+1]? =some (.loop r)∧W.heap[B]? =some (.deferred (some []))
theorem RSt.put {B:Nat}{r:Loop}{p:World→Prop}{W:World}(hp:RecOk B p)(h:RSt B r p W)(r' :Loop):RSt B r' p (W.putObj (B+1) (.loop r')):=
 ⟨hp.put _ h.1 (by omega) h.2.1 rfl,World.putObj_heap_same (Array.getElem?_eq_some_iff.1 h.2.1).1,(World.putObj_heap_other (by omega)).trans h.2.2⟩
theorem RSt.rec_ {B:Nat}{r:Loop}{p q:World→Prop}{W V:World}(h:RSt B r p W)(k:KRec W V)(hq:q V):RSt B r q V:=
 ⟨hq,k.same _ _ h.2.1 rfl,k.same _ _ h.2.2 rfl⟩
theorem wpIn_rangeR {α:Type}{F:Fence}{n:Nat}{P:Program}{g:Operand}{ps:Array Tmp}{assign body:Code}{Q:Exit→Act→World→Prop}{a:Act}{w:World}
  (hro:F.round=none) (h1:1≤n) {gf:Nat} {lb:Array Value} (hg:a.eval g= .func (.func gf) #[] lb) (hF:F.fn gf) (eg:∀x w,(callFunc gf x).run P w= .ok (.enter gf x) w)
  {encs:α→Array Value} {Kp:World→World→Prop} {S Sp:List α→Prop} (hit:IterK F (n - 1) P gf lb encs Kp S Sp w)
  (hKt:∀{X Y Z:World},Kp X Y→Kp Y Z→Kp X Z) (hKb:∀(W:World) (l:Nat) (o:Obj),w.heap.size≤l→l < W.heap.size→Kp W (W.putObj l o)) (hps:∀x,(encs x).size=ps.size)
  (I:List α→World→Prop) (Ix:Code→List α→World→Prop) (hI:∀s,RecOk w.heap.size (I s)) (hIx:∀c s,RecOk w.heap.size (Ix c s)) (h0:I [] w) (AX:Array Value→α→Act→World→Prop) (hAx:∀x c,RecOk w.heap.size (AX a.tmps x c))
  (has:∀(l:Nat) (s:List α) (x:α) (W:World) (K:Act→World→Prop),I s W→(∀c V,KRec W V→Kp W V→I s V→AX a.tmps x c V→K c V)→
   assign.wpIn (F.inRound l) (n - 1 - 1) P (Exit.then K (fun _ _ _=>False)) {tmps:=(ps.zip (encs x)).foldl (fun t (p,v)=>t.setIfInBounds p v) a.tmps,defers:= []} W)
  (hbo:∀(l:Nat) (s:List α) (x:α) (c:Act) (W:World),I s W→AX a.tmps x c W→Sp (s++ [x])→body.wpIn (F.inRound l) (n - 1 - 1) P (rPost Kp I Ix (s++ [x]) W) c W)
  (hdo:∀(s:List α) (W:World),S s→I s W→W.heap[w.heap.size]? =some (.deferred (some []))→Q .normal {a with defers:={target:= .collected w.heap.size,args:= #[]}::a.defers} W)
  (hst:∀(c:Code) (s:List α) (W:World),Sp s→Ix c s W→W.heap[w.heap.size]? =some (.deferred (some []))→c.wpIn F n P Q {a with defers:={target:= .collected w.heap.size,args:= #[]}::a.defers} W):
  (Code.rangeFunc g ps assign body).wpIn F n P Q a w:=by
 refine wpIn_rangeFunc fun fn hfn=> ?_
 obtain⟨B,hB⟩:∃B,w.heap.size=B:=⟨_,rfl⟩;rw[hB]at hI hIx hAx hdo hst hKb;rw[hro];obtain⟨R,hR⟩:∃R:LoopState→Option Code→Loop,R=fun st j=>{state:=st,pending:=j,fn,tmps:=a.tmps,params:=ps,assign,body,defers:=B}:=⟨_,rfl⟩
 have hent:=run_enterLoop_outer (P:=P) (w:=w) fn a.tmps ps assign body;rw[hB]at hent;obtain⟨V,hV⟩:∃V,(w.alloc (.deferred (some []))).alloc (.loop (R .ready none))=V:=⟨_,rfl⟩;have kV:Keeps w V []:=by rw[←hV];exact(Keeps.alloc _ _).trans (Keeps.alloc _ _) (by simp)
 have sV:RSt B (R .ready none) (I []) V:=by
  refine⟨(hI []).keeps h0 kV, ?_, ?_⟩
  ·have:=World.alloc_heap_new (w.alloc (.deferred (some []))) (.loop (R .ready none))
   rwa [World.size_alloc,hB,hV]at this
  ·rw[←hV,←hB]
   exact(Below.heap_alloc _ _ _ (by simp)).trans (World.alloc_heap_new w _)
 refine⟨B+1, [{target:= .collected B,args:= #[]}],V,{target:= .fn (.func gf) lb,args:= #[.func (.yield (B+1)) #[] #[]]},V,gf, #[.func (.yield (B+1)) #[] #[]]++lb,V, ?_, ?_, ?_, ?_,fun _=>h1, ?_⟩
 ·rw[hent,←hV,hR]
 ·simp only[resolve,hg]
  simp[go_sem]
 ·intro f hf
  simp[Target.leads]at hf;subst hf;exact hF
 ·simp[invoke,go_sem,eg]
 refine(hit (B+1) (fun s W=>RSt B (R .ready none) (I s) W) (fun s W=>∃c,RSt B (R .done (some c)) (Ix c s) W) V kV (fun s X Y h hk=>h.rec_ (KRec.keeps hk) ((hI s).keeps h.1 hk)) ?_ sV).mono ?_
 ·intro s x W hs hlen
  have hy:=run_yield (P:=P) (args:=encs x) hs.2.1 (by rw[hR];exact hps x);have q1:(R .ready none).fn=fn:=by rw[hR]
  have q2:(R .ready none).tmps=a.tmps:=by rw[hR]
  have q3:(R .ready none).params=ps:=by rw[hR]
  have q4:(R .ready none).assign=assign:=by rw[hR]
  have q5:(R .ready none).body=body:=by rw[hR]
  rw[q1,q2,q3,q4,q5]at hy;refine⟨_,_,_,_,hy,roundIn_of_wpIn hfn ?_⟩;refine has _ s x W _ hs.1 fun c U hk hkp hi hax=> ?_
  have hs1:RSt B (R .ready none) (I s) U:=hs.rec_ hk hi;refine⟨_,run_beginRound hs1.2.1 (by rw[hR]), ?_⟩;have hs2:=hs1.put (hI s) {R .ready none with state:= .busy};have hkp2:=hKt hkp (hKb U (B+1) (.loop {R .ready none with state:= .busy}) (by omega) (Array.getElem?_eq_some_iff.1 hs1.2.1).1);have hax2:=(hAx x c).put (.loop {R .ready none with state:= .busy}) hax (by omega) hs1.2.1 rfl;refine wpIn_mono (hbo _ s x c _ hs2.1 hax2 hlen) ?_;have fin:∀(j:Option Code) (p:World→Prop) (T:World),RecOk B p→KRec (U.putObj (B+1) (.loop {R .ready none with state:= .busy})) T→p T→
    ∃T',(Instr.endRound (B+1) j).run P T= .ok (.bool j.isNone) T' ∧RSt B (R (if j.isNone then .ready else .done) j) p T' ∧T' =T.putObj (B+1) (.loop (R (if j.isNone then .ready else .done) j))∧B+1 < T.heap.size:=fun j p T hp hk hpT=>by
   have h3:=hs2.rec_ hk hpT;have h4:=run_endRound (P:=P) j h3.2.1;refine⟨_, ?_,h3.put hp (R (if j.isNone then .ready else .done) j),rfl,(Array.getElem?_eq_some_iff.1 h3.2.1).1⟩;rw[h4,hR]
  rintro e c' T hp
  cases e with
  | normal=>
   obtain⟨p1,p2,p3⟩:=hp;obtain⟨T',t1,t2,t3,t4⟩:=fin none _ T (hI _) p1 p3;refine⟨_,_,t1,.inl ⟨rfl,t2, ?_⟩⟩;rw[t3];exact hKt (hKt hkp2 p2) (hKb _ _ _ (by omega) t4)
  | ret=>
   obtain⟨p1,p3⟩:=hp;obtain⟨T',t1,t2,_⟩:=fin (some .ret) _ T (hIx _ _) p1 p3;exact⟨_,_,t1,.inr ⟨rfl,_,t2⟩⟩
  | exit i=>
   obtain⟨p1,p3⟩:=hp;obtain⟨T',t1,t2,_⟩:=fin (some (.exit i)) _ T (hIx _ _) p1 p3;exact⟨_,_,t1,.inr ⟨rfl,_,t2⟩⟩
  | goto i=>
   obtain⟨p1,p3⟩:=hp;obtain⟨T',t1,t2,_⟩:=fin (some (.goto i)) _ T (hIx _ _) p1 p3;exact⟨_,_,t1,.inr ⟨rfl,_,t2⟩⟩
  | panic c=>exact hp.elim
  | outgrown=>exact hp.elim
 ·rintro e W ⟨⟨v,rfl⟩,⟨s,hs,h⟩ | ⟨s,hs,c,h⟩⟩
  ·have h2:=h.put (hI s) {R .ready none with state:= .exhausted}
   exact⟨none,_,by rw[run_endLoop (P:=P) h.2.1 (by rw[hR];simp),hR],hdo s _ hs h2.1 h2.2.2⟩
  ·have h2:=h.put (hIx c s) {R .done (some c)with state:= .exhausted}
   exact⟨some c,_,by rw[run_endLoop (P:=P) h.2.1 (by rw[hR];simp),hR],hst c s _ hs h2.1 h2.2.2⟩
end Go.Proofs.YtoadlafdeoklbaaGreatDoor

namespace Go.Proofs.YtoadlafdeoklbaaGreatDoor
open Go.RowKit Go.Maps Go.Shelf

attribute [local go_sem] Oper.semAt_some

/-- What a round leaves alone: all below n₀ but for blocks of S. -/
structure KpB (n₀:Nat)(S:List Nat)(W W' :World):Prop where
 os:W'.os=W.os
 tape:W'.tape=W.tape
 output:W'.output=W.output
 size:W.heap.size≤W'.heap.size
 block:∀k,k < n₀→k∉S→W'.heap[k]? =W.heap[k]?
theorem KpB.refl (n₀:Nat)(S:List Nat)(W:World):KpB n₀ S W W:=⟨rfl,rfl,rfl,Nat.le_refl _,fun _ _ _=>rfl⟩
theorem KpB.t {n₀:Nat}{S:List Nat}{A B C:World}(h:KpB n₀ S A B)(k:KpB n₀ S B C):KpB n₀ S A C:=
 ⟨k.os.trans h.os,k.tape.trans h.tape,k.output.trans h.output,Nat.le_trans h.size k.size,fun i hi hS=>(k.block i hi hS).trans (h.block i hi hS)⟩
theorem KpB.of {n₀:Nat}{S:List Nat}{W W' :World}(h:Keeps W W' S)(hn:n₀≤W.heap.size):KpB n₀ S W W' :=
 ⟨h.os,h.tape,h.output,h.size,fun k hk hS=>h.block k (Nat.lt_of_lt_of_le hk hn) hS⟩
theorem KpB.cell {n₀:Nat}{S:List Nat}{W W' :World}(h:KpB n₀ S W W'){p:Addr}(hp:p.block < n₀)(hS:p.block∉S):W'.cell? p=W.cell? p:=World.cell?_of_block (h.block _ hp hS)
theorem KpB.put {n₀:Nat}{S:List Nat}{w:World}(hn:n₀≤w.heap.size)(W:World)(l:Nat)(o o' :Obj)(hl:w.heap.size≤l)(h:W.heap[l]? =some o)(hc:o.isCells=false)(hw:o.isWalk=false):KpB n₀ S W (W.putObj l o'):=
 have b:=belowK_b hn W l o o' hl h hc hw
 ⟨b.os,b.tape,b.output,b.size,fun k hk _=>b.block k hk⟩
def sbArgs (x:Sb):Array Value:= #[.agg #[.string ⟨x.f.toArray⟩,.string ⟨x.c.toArray⟩,.int .i64 x.q]]
theorem keeps_grown {w w' :World}(h:Keeps w w' []):w.grownBy w' none:=⟨h.os,h.tape,h.output,h.size,fun k hk _=>h.block k hk (by simp)⟩
set_option maxRecDepth 100000 in
set_option maxHeartbeats 4000000 in
theorem mtAll1_in (F:Fence)(n:Nat)(hF:F.plain=Fence.wide)(hf:F.fn 61)(hro:F.round=none)(hn:1≤n)(l b n₀:Nat)(A:Option Addr)(c:Nat)(L:List Sb)(hLl:L.length≤1000000)(W:World)(J Jx:List Sb→World→Prop)
  (hAb:∀s A B,J s A→Keeps A B []→J s B) (hn₀:n₀≤W.heap.size) (S:List Nat) (_hb:b < n₀∧b∉S) (hL:ListAt W 25 3 sbC A L) (hg:∀g o,A=some ⟨g,o,none⟩→0 < L.length→g < n₀∧g∉S)
  (hY:∀pre x W1,J pre W1→pre++ [x] <+:L→YieldAt F (n - 1) Tryz.prog l (sbArgs x) W1 fun e W' =>
   (e= .returned (.bool true)∧J (pre++ [x]) W' ∧KpB n₀ S W1 W')∨(e= .returned (.bool false)∧Jx (pre++ [x]) W'))
  (hc:W.cell? ⟨b,0,none⟩=some (.slice A L.length c)) (h0:J [] W):
  CallsIn F n Tryz.prog 61 #[.func (.yield l) #[] #[],.pointer (some ⟨b,0,none⟩)] W fun e W' =>(∃v,e= .returned v)∧
   ((∃ys,ys=L∧J ys W')∨(∃pre,pre <+:L∧Jx pre W')):=by
 have hfn:∀f,F.fn f:=fun f=>by
  have:F.plain.fn f:=by rw[hF];trivial
  exact this
 have HF:=zh (And.intro hF hfn);have HY:=zh hY;have HJ:=zh hAb;have HL:=zh (And.intro hL hg);have HLL:=zh hLl;have HN0:=zh hn₀;clear hfn hY hL hAb hg hLl;refine callsIn_of_wp Tryz.func61 rfl hf ?_ hro;simp only[Tryz.ntmps61,List.size_toArray,List.length_cons,List.length_nil,Nat.reduceAdd,Nat.reduceSub,Array.replicate_succ,Array.replicate_zero,List.push_toArray,List.append_toArray,List.nil_append,List.cons_append];apply wpIn_scope_straight
 gi_wp2_with fail
 apply wpIn_label
 gi_wp2_with fail
 clear hc
 gi_loopw [7] (fun i wr=>∃k:Nat,k≤L.length∧i= .int .i64 k∧J (L.take k) wr∧KpB n₀ S W wr) (fun i _=>L.length - (intOf i).toNat)
 case atStart=>exact⟨0,by omega,rfl,by rw[ztz];exact h0,KpB.refl _ _ _⟩
 case round=>
  obtain⟨k,hk,rfl,hJs,hnx⟩:=hrel;have hl6:=HLL.out
  by_cases hlt:k < L.length
  ·obtain⟨g,o,cs,rfl,hrow,hcs⟩:=HL.out.1 (by omega)
   have hgn:=HL.out.2 g o rfl (by omega);obtain⟨⟨xf,xc,xq⟩,hx⟩:∃x,L[k]=x:=⟨_,rfl⟩;have HC:=fun i (hi:i < 3)=>(hnx.cell (p:=⟨g,o+k*3+i,none⟩) hgn.1 hgn.2).trans ((hrow.cell _).trans (hcs k hlt i hi))
   rw[hx]at HC;have c0:=HC 0 (by omega);have c1:=HC 1 (by omega);have c2:=HC 2 (by omega);have HN:=zh (show L.take (k+1)=L.take k++ [⟨xf,xc,xq⟩]by rw[List.take_succ_eq_append_getElem hlt,hx]);simp only[sbC,zgz,zgs,Nat.add_zero]at c0 c1 c2;obtain⟨X,hX⟩:∃S:ByteArray,(⟨xf.toArray⟩:ByteArray)=S:=⟨_,rfl⟩;obtain⟨Y,hY⟩:∃S:ByteArray,(⟨xc.toArray⟩:ByteArray)=S:=⟨_,rfl⟩;obtain⟨W5,hW5⟩:∃W5,wr.alloc (.cells #[.string X,.string Y,.int .i64 xq] 25)=W5:=⟨_,rfl⟩;have hk5:Keeps wr W5 []:=by rw[←hW5];exact Keeps.alloc _ _
   have hr5:Row W5 wr.heap.size 25 #[.string X,.string Y,.int .i64 xq]:=by rw[←hW5];exact Row.new _ _ _
   have hJ5:=HJ.out _ _ _ hJs hk5;obtain⟨fn,tmps,assign,body,hy,hR⟩:=HY.out _ ⟨xf,xc,xq⟩ W5 hJ5 (by rw[←HN.out];exact List.take_prefix _ _);have HRR:=zh (And.intro hR (hnx.t (KpB.of (hk5.weaken (T:=S) (by simp)) (Nat.le_trans HN0.out hnx.size))));have HR5:=zh hr5;have HW5:=zh hW5;unfold sbArgs at hy
   dsimp only at hy
   rw[hX]at c0 hy;rw[hY]at c1 hy;have hn2:=n - 1;clear hR hnx hJs hx HC hrow hcs hgn hk5 hJ5 hW5 hr5 hX hY;rw[←HW5.out]at hy;rw[←HW5.out]at HRR
   gi_wp2_with fail
   refine HRR.out.1.mono ?_;rintro e W3 (⟨rfl,hJ3,hk3⟩ | ⟨rfl,hJx3⟩)
   ·rw[←HN.out]at hJ3
    have HJ3:=zh (And.intro hJ3 (HRR.out.2.t hk3));clear hJ3 hk3 hy
    gi_wp2_with fail
    exact⟨⟨k+1,by omega,by go_num,HJ3.out.1,HJ3.out.2⟩,by simp[intOf];omega⟩
   ·rw[←HN.out]at hJx3
    have HJ3:=zh hJx3;clear hJx3 hy
    gi_wp2_with fail
    simp only[Exit.noGoto]
    go_end0
    exact⟨⟨_,rfl⟩,.inr ⟨_,List.take_prefix _ _,HJ3.out⟩⟩
  ·obtain rfl:k=L.length:=by omega
   have HJ3:=zh (show J L wr by rwa [List.take_length]at hJs);clear hJs
   gi_wp2_with fail
   simp only[Exit.noGoto]
   go_end0
   exact⟨⟨_,rfl⟩,.inl ⟨_,rfl,HJ3.out⟩⟩
theorem mtAll1_stops (F:Fence)(n:Nat)(hF:F.plain=Fence.wide)(hf:F.fn 61)(hro:F.round=none)(hn:1≤n)(b n₀:Nat)(A:Option Addr)(c:Nat)(L:List Sb)(hLl:L.length≤1000000)(w:World)
  (hn₀:n₀≤w.heap.size) (S:List Nat) (hb:b < n₀∧b∉S) (hL:ListAt w 25 3 sbC A L) (hg:∀g o,A=some ⟨g,o,none⟩→0 < L.length→g < n₀∧g∉S) (hc:w.cell? ⟨b,0,none⟩=some (.slice A L.length c)):
  SeqStopsK F n Tryz.prog 61 #[.pointer (some ⟨b,0,none⟩)] sbArgs (KpB n₀ S) (fun ys=>ys=L) (fun pre=>pre <+:L) (L.length+1) w:=fun l J Jx W hW hJ _ hY h0=>
 (mtAll1_in F n hF hf hro hn l b n₀ A c L hLl W J Jx (fun s A B h hk=>hJ s A B none h (keeps_grown hk) (fun _ e=>by cases e)) (Nat.le_trans hn₀ hW.size) S hb (hL.keeps (Keeps.of_below hW)) hg (fun pre x W1 h hp=>hY pre x W1 h (by have:=hp.length_le;simp at this;omega)) ((hW.cell (p:=⟨b,0,none⟩) (Nat.lt_of_lt_of_le hb.1 hn₀)).trans hc) h0).mono
  fun _ _ ⟨h1,h2⟩=>⟨h1,h2⟩
theorem mtAll1_iter (F:Fence)(n:Nat)(hF:F.plain=Fence.wide)(hf:F.fn 61)(hro:F.round=none)(hn:1≤n)(b n₀:Nat)(A:Option Addr)(c:Nat)(L:List Sb)(hLl:L.length≤1000000)(w:World)
  (hn₀:n₀≤w.heap.size) (S:List Nat) (hb:b < n₀∧b∉S) (hL:ListAt w 25 3 sbC A L) (hg:∀g o,A=some ⟨g,o,none⟩→0 < L.length→g < n₀∧g∉S) (hc:w.cell? ⟨b,0,none⟩=some (.slice A L.length c)):
  IterK F n Tryz.prog 61 #[.pointer (some ⟨b,0,none⟩)] sbArgs (KpB n₀ S) (fun ys=>ys=L) (fun pre=>pre <+:L) w:=fun l J Jx W hW hJ hY h0=>
 (mtAll1_in F n hF hf hro hn l b n₀ A c L hLl W J Jx hJ (Nat.le_trans hn₀ hW.size) S hb (hL.keeps hW) hg hY ((hW.cell (p:=⟨b,0,none⟩) (Nat.lt_of_lt_of_le hb.1 hn₀) (by simp)).trans hc) h0).mono
  fun _ _ ⟨h1,h2⟩=>⟨h1,h2⟩
/-- What All answers. -/
def AllPost (W:World)(L:List Sb)(e:Ending)(w' :World):Prop:=∃b A c,e= .returned (.func (.func 61) #[] #[.pointer (some ⟨b,0,none⟩)])∧Keeps W w' []∧W.heap.size≤b∧Row w' b 22 #[.slice A L.length c]∧OwnN w' W.heap.size 25 3 sbC (.slice A L.length c) L
set_option maxRecDepth 100000 in
theorem mtAllF_any (W:World)(nv:Value)(L:List Sb)(h:Calls Tryz.prog 52 #[nv] W fun e w' =>∃v,e= .returned v∧OwnN w' W.heap.size 25 3 sbC v L∧Keeps W w' []):
  Calls Tryz.prog 26 #[nv] W (AllPost W L):=by
 have H:=zh h;clear h
 go_enter Tryz.func26,Tryz.ntmps26
 go_wp2_with fail
 refine H.out.mono ?_;rintro e w1 ⟨v,rfl,ho,hk⟩;obtain⟨A,c,rfl⟩:=OwnN.slice ho;have HO:=zh (And.intro ho hk);clear ho hk
 go_wp2_with fail
 go_ret;exact⟨_,A,c,rfl,HO.out.2.then_ (Keeps.alloc _ _),HO.out.2.size,Row.new _ _ _,HO.out.1.keeps (Keeps.alloc _ _)⟩

attribute [local go_sem] Oper.semAt_some

theorem wpListIn_append_N {α:Type}{k:Nat}{f:α→List Value}{e t:TypeId}{w:World}{F:Fence}{nF:Nat}{P:Program}{ops:Array Oper}{rest:List Oper}{o:Oper}{a:Act}{Q:Exit→Act→World→Prop}(T:ElemN P t e k)(E:Enc k f)(hgd:o.guard=none)(s x:Operand)
  (ho:o.op= .call {callee:= .builtin .append,args:= #[s,x],argTypes:= #[t,t]})
  (B:Nat) (v:Value) (A:Option Addr) (n c:Nat) (l1 l2:List α) (hn:l2.length=n) (hs:a.eval s=v) (hx:a.eval x= .slice A n c) (hown:OwnN w B e k f v l1) (hb:Lies w w.heap.size A (l2.flatMap f)) (hlen:l1.length+l2.length≤1000000) (hbase:B≤w.heap.size)
  (h:∀A c w',OwnN w' B e k f (.slice A (l1++l2).length c) (l1++l2)→Keeps w w' v.ownBlock.toList→wpListIn F nF P ops Q rest (a.put o.dst (.slice A (l1++l2).length c)) w'):wpListIn F nF P ops Q (o::rest) a w:=by
 subst hn;refine wpListIn_plain hgd fun K hK=> ?_
 obtain⟨A',c',w',hrun,h2,h3,h4⟩:=run_append_N T E v A c l1 l2 o.type hown hb hlen hbase;unfold Oper.wpIn;refine⟨by simp[Oper.about,ho,resolve,Target.leads,Sem.run_pure], ?_⟩;rw[Oper.semAt_plain F _ _ (by rw[ho];intro c hc';cases hc')];simp only[execOp,ho,resolve,invoke,builtin,Sem.run_bind,Sem.run_pure,Result.andThen_ok,List.map_toArray,List.map_cons,List.map_nil,hs,hx,hrun];exact hK _ _ (h A' c' w' h2 h3)
/-- What is listed so far. -/
structure LtSt (B g:Nat)(W0 W:World)(pre:List Sb):Prop where
 ex:∃v,Row W g 22 #[v]∧OwnN W B 25 3 sbC v pre
 k:Keeps W0 W [g]
theorem ownN_grown {α:Type}{k:Nat}{f:α→List Value}{e:TypeId}{W W' :World}{B:Nat}{v:Value}{l:List α}{row:Option Nat}(h:OwnN W B e k f v l)(hg:W.grownBy W' row)(hr:∀r,row=some r→∃o:Obj,W.heap[r]? =some o∧o.isCells=false):OwnN W' B e k f v l:=
 h.keep (Keeps.of_grown hg) fun x hx=> .inr fun cs hc=>by
  obtain⟨o,h1,h2⟩:=hr x (by simpa using hx);rw[hc]at h1
  cases h1
  cases h2
theorem row_grown {W W' :World}{g:Nat}{t:TypeId}{cs:Array Value}{row:Option Nat}(h:Row W g t cs)(hg:W.grownBy W' row)(hr:∀r,row=some r→∃o:Obj,W.heap[r]? =some o∧o.isCells=false):Row W' g t cs:=
 h.keep (Keeps.of_grown hg) fun hx=>by
  obtain⟨o,h1,h2⟩:=hr g (by simpa using hx);rw[h]at h1
  cases h1
  cases h2
theorem LtSt.own {B g:Nat}{W0 W W' :World}{pre:List Sb}{row:Option Nat}(h:LtSt B g W0 W pre)(hg:W.grownBy W' row)(hr:∀r,row=some r→W0.heap.size≤r∧∃o:Obj,W.heap[r]? =some o∧o.isCells=false):LtSt B g W0 W' pre:=by
 obtain⟨⟨v,h1,h2⟩,h3⟩:=h;exact⟨⟨v,row_grown h1 hg fun r e=>(hr r e).2,ownN_grown h2 hg fun r e=>(hr r e).2⟩,h3.trans (Keeps.of_grown hg) fun y hy hlt=>by have:=(hr y (by simpa using hy)).1;omega⟩
theorem LtSt.keeps {B g:Nat}{W0 W W' :World}{pre:List Sb}(h:LtSt B g W0 W pre)(hk:Keeps W W' []):LtSt B g W0 W' pre:=by
 obtain⟨⟨v,h1,h2⟩,h3⟩:=h;exact⟨⟨v,h1.keeps hk,h2.keeps hk⟩,h3.trans (hk.weaken (T:= []) (by simp)) (fun y hy _=>by cases hy)⟩
theorem keepsFrom_rows {B:Nat}{S:List Nat}{W W' :World}(h:Keeps W W' S)(hS:∀x∈S,∃t cs,Row W x t cs):KeepsFrom B W W' :=⟨h.size,fun k o _ h0 ho=>by
 by_cases hk:k∈S
 ·obtain⟨t,cs,hr⟩:=hS k hk
  rw[hr]at h0
  cases h0
  cases ho
 ·exact(h.block k (Array.getElem?_eq_some_iff.1 h0).1 hk).trans h0⟩
set_option maxRecDepth 100000 in
set_option maxHeartbeats 4000000 in
theorem mtList_in (n:Nat)(hn:3≤n)(w:World)(nv:Value)(L:List Sb)(hLl:L.length≤100000)(hall:∀W,Keeps w W []→Calls Tryz.prog 26 #[nv] W (AllPost W L)):
  CallsIn Fence.wide n Tryz.prog 28 #[nv] w fun e w' =>∃v,e= .returned v∧OwnN w' w.heap.size 25 3 sbC v L∧Keeps w w' []:=by
 have h1:1≤n:=by omega
 have hro:Fence.wide.round=none:=rfl;have HA:=zh hall;have HLL:=zh hLl;clear hall hLl;refine callsIn_of_wp_marks Tryz.func28 rfl trivial ?_ hro;simp only[Tryz.ntmps28,List.size_toArray,List.length_cons,List.length_nil,Nat.reduceAdd,Nat.reduceSub,Array.replicate_succ,Array.replicate_zero,List.push_toArray,List.append_toArray,List.nil_append,List.cons_append]
 gi_wp2_with fail
 obtain⟨W0,hW0⟩:∃W0,w.alloc (.cells #[.slice none 0 0] 22)=W0:=⟨_,rfl⟩;have r0:Row W0 w.heap.size 22 #[.slice none 0 0]:=by rw[←hW0];exact Row.new _ _ _
 have k0:Keeps w W0 []:=by rw[←hW0];exact Keeps.alloc _ _
 have s0:W0.heap.size=w.heap.size+1:=by rw[←hW0];simp
 rw[hW0];have H0:=zh (And.intro r0 (And.intro k0 s0));clear hW0 r0 k0 s0;refine⟨trivial,(callsIn_of rfl (HA.out W0 H0.out.2.1)).mono ?_⟩;rintro e W2 ⟨b,A,c,rfl,hk2,hb2,hr2,ho2⟩;have H2:=zh (And.intro hk2 (And.intro hb2 (And.intro hr2 ho2)));clear hk2 hb2 hr2 ho2;have heq:∀W,(binOp .eql 59 (.func (.func 61) #[] #[.pointer (some ⟨b,0,none⟩)]) .nilFunc).run Tryz.prog W= .ok (.bool false) W:=fun W=>by kernel_rfl
 gi_wp2_with fail
 clear heq;have HI:LtSt W2.heap.size w.heap.size W2 W2 []:=⟨⟨_,H0.out.1.keeps H2.out.1,OwnN.nil _ _ _ _ _⟩,Keeps.refl _ _⟩;have hblt:=H2.out.2.2.1.lt;have hs2:=H2.out.1.size;have hb2:=H2.out.2.1;have hs0:=H0.out.2.2;refine wpIn_rangeFunc_ownH hro h1 (gf:=61) (lb:= #[.pointer (some ⟨b,0,none⟩)]) rfl trivial (enters_of Tryz.func61 (by kernel_rfl) rfl)
  (mtAll1_stops Fence.wide (n - 1) rfl trivial hro (by omega) b W2.heap.size A c L (by have:=HLL.out;omega) W2 (Nat.le_refl _) [w.heap.size] ⟨hblt,by simp;omega⟩ (H2.out.2.2.2.at_ encSb) (fun g o e hl=>by
   obtain⟨q1,cs,q2⟩:=H2.out.2.2.2.rows g (by rw[e];simp[Value.ownBlock]);exact⟨q2.lt,by simp;omega⟩) (H2.out.2.2.1.cell 0))
  KpB.t (KpB.put (Nat.le_refl _)) (Below.refl _ _) (fun _=>rfl)
  (fun pre W' =>LtSt W2.heap.size w.heap.size W2 W' pre)
  (fun _ _ _=>False)
  (fun pre A B row hs hg hr=>hs.own hg hr)
  (fun _ _ _ _ _ hs _ _=>hs)
  HI
  (fun x a' W' =>∃g,a' = {tmps:= #[nv,undef,.slice none 0 0,.pointer (some ⟨w.heap.size,0,none⟩),.func (.func 61) #[] #[.pointer (some ⟨b,0,none⟩)],.pointer (some ⟨g,0,none⟩),nv,.func (.func 61) #[] #[.pointer (some ⟨b,0,none⟩)],.func (.func 61) #[] #[.pointer (some ⟨b,0,none⟩)],.bool false,.func (.func 61) #[] #[.pointer (some ⟨b,0,none⟩)],.agg #[.string ⟨x.f.toArray⟩,.string ⟨x.c.toArray⟩,.int .i64 x.q],undef,undef,undef,undef,undef],defers:= []}∧Row W' g 25 #[.string ⟨x.f.toArray⟩,.string ⟨x.c.toArray⟩,.int .i64 x.q]∧W2.heap.size≤g)
  (fun _ _ _ _ _ _ hs hg hr=>by
   obtain⟨g,h1,h2,h3⟩:=hs;exact⟨g,h1,row_grown h2 hg (fun r e=>(hr r e).2),h3⟩) ?assign ?body ?done ?stop
 case assign=>
  intro l pre x W1 K hI hK;unfold sbArgs
  gi_wp2
  have hk:=Keeps.alloc W1 (.cells #[.string ⟨x.f.toArray⟩,.string ⟨x.c.toArray⟩,.int .i64 x.q] 25);exact hK _ _ (KeepsFrom.of_keepsS hk _ (by simp)) (KpB.of (hk.weaken (by simp)) hI.k.size) (hI.keeps hk) ⟨_,rfl,Row.new _ _ _,hI.k.size⟩
 case stop=>
  rintro D c pre W _ _ h _;exact h.elim
 case done=>
  rintro D ys WA hD hys hI hK;subst hys;obtain⟨⟨v,hr,ho⟩,hk⟩:=hI;have d0:=hr.cell 0;simp only[zga,zgz]at d0;have HE:=zh (And.intro ho (And.intro hk (And.intro hK hD)));clear hr ho hk hK hD
  gi_wp2_with fail
  obtain⟨ho,hk,hK,hD⟩:=HE.out;have hsz:=H2.out.1.size;have hs0' :=H0.out.2.2;refine⟨by simp,.inl ⟨_,_,rfl,run_takeDeferred hK, ?_⟩⟩;have hg:=grownBy_putObj' WA D (.deferred none);have kp:Keeps WA (WA.putObj D (.deferred none)) [D]:=Keeps.of_grown hg;refine⟨v, ?_,v,rfl, ?_, ?_⟩
  ·simp[results,Tryz.results28,go_sem]
  ·exact OwnN.low (ownN_grown ho hg (fun r e=>by cases e;exact⟨_,hK,rfl⟩)) (by omega)
  ·exact(((H0.out.2.1.then_ H2.out.1).trans hk (fun y hy hlt=>by simp at hy;omega)).trans kp (fun y hy hlt=>by simp at hy;omega))
 case body=>
  rintro l pre ⟨xf,xc,xq⟩ a' W1 hl _ ⟨⟨v,hr,ho⟩,hk⟩ ⟨g,rfl,hg,hgl⟩ hpre
  dsimp only at hg ⊢
  obtain⟨A1,n1,rfl⟩:=OwnN.slice ho;obtain⟨X,hX⟩:∃S:ByteArray,(⟨xf.toArray⟩:ByteArray)=S:=⟨_,rfl⟩;obtain⟨Y,hY⟩:∃S:ByteArray,(⟨xc.toArray⟩:ByteArray)=S:=⟨_,rfl⟩;rw[hX,hY]at hg;rw[hX,hY];obtain⟨Wc,hWc⟩:∃Wc,W1.alloc (.cells #[.string X,.string Y,.int .i64 xq] 25)=Wc:=⟨_,rfl⟩;have kc:Keeps W1 Wc []:=by rw[←hWc];exact Keeps.alloc _ _
  have HLa:=zh (show Lies Wc Wc.heap.size (some ⟨W1.heap.size,0,none⟩) (([⟨xf,xc,xq⟩]:List Sb).flatMap sbC)from lies_of_row (cs:= #[.string X,.string Y,.int .i64 xq]) (by rw[←hWc];exact Row.new _ _ _) (by rw[←hX,←hY];rfl));have HOc:=zh (ho.keeps kc);have HRc:=zh (hr.keeps kc);have HKc:=zh kc;have HK:=zh hk;have hbs:W2.heap.size≤Wc.heap.size:=Nat.le_trans hk.size kc.size;have HPR:=zh (show pre.length≤100000 from by have:=HLL.out;omega);have d0:=hr.cell 0;have c0:=hg.cell 0;have c1:=hg.cell 1;have c2:=hg.cell 2;simp only[zga,zgz,zgs]at d0 c0 c1 c2;have HR1:=zh hr;have hor:=ho.rows;have HOR:=zh hor;clear kc hk hr ho hg hX hY hpre hor
  gi_wp2_with (gi_at_builtin;refine wpListIn_append_N elemSub encSb rfl (.tmp 12) (.tmp 14) rfl W2.heap.size (.slice A1 pre.length n1) (some ⟨W1.heap.size,0,none⟩) 1 1 pre [⟨xf,xc,xq⟩] rfl rfl rfl HOc.out HLa.out (by have:=HPR.out;simp;omega) hbs ?_;intro A7 c7 w7 ho7 hk7;refine Hid.out ?_)
  refine zh ?_;have hne:w.heap.size∉(Value.slice A1 pre.length n1).ownBlock.toList:=fun e=>by
   obtain⟨_,cs,hc⟩:=HOc.out.rows _ e;exact HRc.out.ne_type hc (by decide) rfl
  have hr7:=HRc.out.keep hk7 hne;have HR7:=zh (And.intro hr7 (And.intro ho7 hk7));have z0:=hr7.frozen 0;have e0:=hr7.cell 0;simp only[zga,zgz]at e0;clear hne hr7 ho7 hk7 c0 c1 c2 d0
  gi_wp2_with fail
  obtain⟨hr7,ho7,hk7⟩:=HR7.out;rw[show(pre++ [(⟨xf,xc,xq⟩:Sb)]).length=pre.length+1 by simp]at ho7;have hor:=HOR.out;have k9:Keeps w7 (w7.setCell ⟨w.heap.size,0,none⟩ (.slice A7 (pre.length+1) c7)) [w.heap.size]:=Keeps.setCell _ _ _;have hrows:∀x∈(Value.slice A1 pre.length n1).ownBlock.toList++ [w.heap.size],∃t cs,Row W1 x t cs:=fun x hx=>by
   rcases List.mem_append.1 hx with hx | hx
   ·obtain⟨cs,hc⟩:=(hor x hx).2
    exact⟨_,cs,hc⟩
   ·rw[List.mem_singleton.1 hx]
    exact⟨_,_,HR1.out⟩
  have kT:Keeps W1 (w7.setCell ⟨w.heap.size,0,none⟩ (.slice A7 (pre.length+1) c7)) ((Value.slice A1 pre.length n1).ownBlock.toList++ [w.heap.size]):=
   ((HKc.out.weaken (T:=(Value.slice A1 pre.length n1).ownBlock.toList++ [w.heap.size]) (by simp)).trans (hk7.weaken (T:=(Value.slice A1 pre.length n1).ownBlock.toList++ [w.heap.size]) (by intro y hy;simp[hy])) (fun y hy _=>hy)).trans (k9.weaken (by simp)) (fun y hy _=>hy)
  have kW:Keeps W2 (w7.setCell ⟨w.heap.size,0,none⟩ (.slice A7 (pre.length+1) c7)) [w.heap.size]:=HK.out.trans kT (fun y hy hlt=>by
   rcases List.mem_append.1 hy with hy | hy
   ·have:=(hor y hy).1
    omega
   ·exact hy)
  refine⟨keepsFrom_rows kT hrows,⟨kT.os,kT.tape,kT.output,kT.size,fun k hk hS=>kT.block k (Nat.lt_of_lt_of_le hk HK.out.size) (fun hm=> ?_)⟩,⟨⟨_,hr7.store 0 _,ho7.keep k9 (fun x hx=> .inr fun cs hc=> ?_)⟩,kW⟩⟩
  ·rcases List.mem_append.1 hm with hm | hm
   ·have:=(hor k hm).1
    omega
   ·exact hS hm
  ·rw[List.mem_singleton.1 hx]at hc
   exact hr7.ne_type hc (by decide) rfl
end Go.Proofs.YtoadlafdeoklbaaGreatDoor

namespace Go.Proofs.YtoadlafdeoklbaaGreatDoor

theorem mtCopy_step {L s:List Sb}{x:Sb}(h:MtOk L)(hp:s++ [x] <+:L):(mtSetA s x).1=s++ [x]:=by
 have hx:x∈L:=hp.subset (by simp);have hl:s.length < 4096:=by
  have h1:=hp.length_le;have h2:=h.le;simp at h1;omega
 rw[setA_ok (h.ok x hx).1 (h.ok x hx).2 hl];have hu:SbUp (s++ [x]):=List.Pairwise.sublist hp.sublist h.up;have hlt:∀a∈s,sbLt a x=true:=fun a ha=>(List.pairwise_append.1 hu).2.2 a ha x (by simp)
 show mtSet s x=s++ [x];unfold mtSet;have e1:(s.filter fun a=>kLt a.f a.c x.f x.c)=s:=List.filter_eq_self.2 hlt;have e2:(s.filter fun a=>kLt x.f x.c a.f a.c)= []:=List.filter_eq_nil_iff.2 fun a ha=>by
  rw[kLt_asymm (hlt a ha)]
  decide
 rw[e1,e2]
end Go.Proofs.YtoadlafdeoklbaaGreatDoor

namespace Go.Proofs.YtoadlafdeoklbaaGreatDoor
open Go.RowKit Go.Maps Go.Shelf

attribute [local go_sem] Oper.semAt_some

theorem Bk.norec {B:Nat}{W:World}{d:Nat}{L:List Sb}{X:List Nat}(h:Bk B W d L X){x:Nat}(hx:x∈X){o:Obj}(ho:W.heap[x]? =some o):isRec o=false:=by
 obtain⟨S,N,hb,hd,hX⟩:=h;have hrow:∀{g:Nat} {t:TypeId} {cs:Array Value},Row W g t cs→W.heap[g]? =some o→isRec o=false:=fun hr h=>by
  unfold Row at hr;rw[hr]at h
  cases h
  rfl
 have hmap:∀{b:Nat} {f:List UInt8→Option Value},SMap W Tryz.prog 9 b f→W.heap[b]? =some o→isRec o=false:=fun hm h=>by
  obtain⟨D,⟨es,clock,hb,_⟩,_⟩:=hm;rw[hb]at h
  cases h
  rfl
 rcases(hX x).1 hx with rfl | hx
 ·exact hrow hb.row ho
 ·obtain⟨q,hq,hx⟩:=mem_bks.1 hx
  rcases hx with rfl | rfl | rfl
  ·exact hrow (hb.tree.row q hq) ho
  ·exact hmap (hb.tree.here q hq) ho
  ·exact hmap (hb.tree.kids q hq) ho
theorem Row.norec {W:World}{g:Nat}{t:TypeId}{cs:Array Value}(hr:Row W g t cs){o:Obj}(h:W.heap[g]? =some o):isRec o=false:=by
 unfold Row at hr;rw[hr]at h
 cases h
 rfl
theorem Row.rec_ {W V:World}{g:Nat}{t:TypeId}{cs:Array Value}{S:List Nat}{B:Nat}(hr:Row W g t cs)(hk:Keeps W V S)(hS:∀x∈S,B≤x∧∃o,W.heap[x]? =some o∧isRec o=true):Row V g t cs:=
 hr.keep hk fun hg=>by
  obtain⟨_,o,h1,h2⟩:=hS g hg;rw[hr.norec h1]at h2
  cases h2
/-- A copy under way. -/
structure CpSt (B:Nat)(W0:World)(dc:Nat)(X0:List Nat)(s:List Sb)(W:World):Prop where
 bk:∃X,Bk B W dc s X∧∀x∈X,x∈X0∨W0.heap.size≤x
 k:Keeps W0 W X0
section
variable {B:Nat} {W0 W V:World} {dc:Nat} {X0:List Nat} {s:List Sb}
theorem CpSt.rec_:RecOk W0.heap.size (CpSt B W0 dc X0 s):=fun X Y S h hk hS=>by
 obtain⟨⟨Z,h1,h2⟩,h3⟩:=h;refine⟨⟨Z,h1.keep hk fun x hx hs=> ?_,h2⟩,h3.trans hk fun y hy hlt=> ?_⟩
 ·obtain⟨_,o,h4,h5⟩:=hS x hs
  rw[h1.norec hx h4]at h5
  cases h5
 ·have:=(hS y hy).1
  omega
theorem CpSt.keeps (h:CpSt B W0 dc X0 s W)(hk:Keeps W V []):CpSt B W0 dc X0 s V:=CpSt.rec_.keeps h hk
end
def CopyPost (B:Nat)(W:World)(L:List Sb)(e:Ending)(w' :World):Prop:=∃d X,e= .returned (ptr0 d)∧Bk B w' d L X∧(∀x∈X,W.heap.size≤x)∧Keeps W w' []
theorem KpB.put' {n₀:Nat}{S:List Nat}(W:World)(l:Nat)(o:Obj)(hl:n₀≤l):KpB n₀ S W (W.putObj l o):=
 have h:=keeps_put W l o
 ⟨h.os,h.tape,h.output,h.size,fun k hk _=>World.putObj_heap_other (by omega)⟩
set_option maxRecDepth 100000 in
set_option maxHeartbeats 4000000 in
theorem mtCopy_in (n:Nat)(hn:3≤n)(w0 w:World)(d:Nat)(L:List Sb)(h:BkIn w0 w d L)(hm:MaxL w)(B:Nat)(hB:B≤w.heap.size):
  CallsIn Fence.wide n Tryz.prog 25 #[ptr0 d] w (CopyPost B w L):=by
 have h1:1≤n:=by omega
 have hro:Fence.wide.round=none:=rfl;have HB:=zh h;have HOK:=zh h.ok;have HNW:=zh (mtNew_any w B hB);have HM:=zh hm;clear h hm;refine callsIn_of_wp_marks Tryz.func25 rfl trivial ?_ hro;simp only[Tryz.ntmps25,List.size_toArray,List.length_cons,List.length_nil,Nat.reduceAdd,Nat.reduceSub,Array.replicate_succ,Array.replicate_zero,List.push_toArray,List.append_toArray,List.nil_append,List.cons_append]
 gi_wp2_with fail
 refine⟨trivial,(callsIn_of rfl HB.out.none_).mono ?_⟩;rintro e w1 ⟨rfl,rfl⟩
 gi_wp2_with fail
 refine⟨trivial,(callsIn_of rfl HNW.out).mono ?_⟩;rintro e w2 ⟨dc,X0,rfl,hb2,hk2,hx2⟩;have HB2:=zh (And.intro hb2 (And.intro hk2 hx2));clear hb2 hk2 hx2
 gi_wp2_with fail
 obtain⟨bc,hbc⟩:∃b,w2.heap.size=b:=⟨_,rfl⟩;rw[hbc];obtain⟨W3,hW3⟩:∃W3,w2.alloc (.cells #[.pointer (some ⟨dc,0,none⟩)] 31)=W3:=⟨_,rfl⟩;have r3:Row W3 bc 31 #[.pointer (some ⟨dc,0,none⟩)]:=by rw[←hW3,←hbc];exact Row.new _ _ _
 have k3:Keeps w2 W3 []:=by rw[←hW3];exact Keeps.alloc _ _
 rw[hW3];have H3:=zh (And.intro r3 k3);clear hW3 r3 k3 HNW;refine⟨trivial,(callsIn_of rfl (mtAllF_any W3 _ L (((HB.out.keeps HB2.out.2.1).keeps H3.out.2).all))).mono ?_⟩;rintro e W4 ⟨b,A,c,rfl,hk4,hb4,hr4,ho4⟩;have H4:=zh (And.intro hk4 (And.intro hb4 (And.intro hr4 ho4)));clear hk4 hb4 hr4 ho4
 gi_wp2_with fail
 have hbk4:Bk B W4 dc [] X0:=(HB2.out.1.keeps H3.out.2).keeps H4.out.1;have hx0:∀x∈X0,w1.heap.size≤x∧x < bc:=fun x hx=>⟨HB2.out.2.2 x hx,by rw[←hbc];exact(HB2.out.1.base x hx).2⟩
 have hrc4:=H3.out.1.keeps H4.out.1;have hbX:b∉X0:=hbk4.far H4.out.2.2.1 (by decide) (by decide);have hcX:bc∉X0:=hbk4.far hrc4 (by decide) (by decide);have hlen:L.length≤4096:=HOK.out.le;refine wpIn_rangeR hro h1 (gf:=61) (lb:= #[.pointer (some ⟨b,0,none⟩)]) rfl trivial (enters_of Tryz.func61 (by kernel_rfl) rfl)
  (mtAll1_iter Fence.wide (n - 1) rfl trivial hro (by omega) b W4.heap.size A c L (by omega) W4 (Nat.le_refl _) X0 ⟨H4.out.2.2.1.lt,hbX⟩ (H4.out.2.2.2.at_ encSb) (fun g o e hl=>by
   obtain⟨q1,cs,q2⟩:=H4.out.2.2.2.rows g (by rw[e];simp[Value.ownBlock]);exact⟨q2.lt,hbk4.far q2 (by decide) (by decide)⟩) (H4.out.2.2.1.cell 0))
  KpB.t (fun W l o hl _=>KpB.put' W l o hl) (fun _=>rfl)
  (fun s W' =>CpSt B W4 dc X0 s W')
  (fun _ _ _=>False)
  (fun s=>CpSt.rec_)
  (fun _ _ _ _ _ h _ _=>h)
  ⟨⟨X0,hbk4,fun x hx=> .inl hx⟩,Keeps.refl _ _⟩
  (fun _ x a' W' =>∃g,a' = {tmps:= #[ptr0 d,undef,.pointer none,.pointer (some ⟨bc,0,none⟩),.pointer (some ⟨g,0,none⟩),ptr0 d,.bool false,ptr0 dc,ptr0 d,.func (.func 61) #[] #[.pointer (some ⟨b,0,none⟩)],.agg #[.string ⟨x.f.toArray⟩,.string ⟨x.c.toArray⟩,.int .i64 x.q],undef,undef,undef,undef],defers:= []}∧Row W' g 25 #[.string ⟨x.f.toArray⟩,.string ⟨x.c.toArray⟩,.int .i64 x.q])
  (fun _ _ _ _ _ h hk hS=>by
   obtain⟨g,e1,e2⟩:=h;exact⟨g,e1,e2.rec_ hk hS⟩) ?assign ?body ?done ?stop
 case assign=>
  intro l s x W1 K hI hK;unfold sbArgs
  gi_wp2
  have hk:=Keeps.alloc W1 (.cells #[.string ⟨x.f.toArray⟩,.string ⟨x.c.toArray⟩,.int .i64 x.q] 25);exact hK _ _ (KRec.keeps hk) (KpB.of (hk.weaken (by simp)) hI.k.size) (hI.keeps hk) ⟨_,rfl,Row.new _ _ _⟩
 case stop=>
  rintro c s W _ h _;exact h.elim
 case done=>
  rintro s WA rfl hI hK;obtain⟨⟨Z,hbz,hzx⟩,hk⟩:=hI;have hrc:=hrc4.keep hk hcX;have d0:=hrc.cell 0;simp only[zga,zgz]at d0;have HE:=zh (And.intro hbz (And.intro hzx (And.intro hk hK)));have HX0:=zh hx0;clear hbz hzx hk hK hrc hx0 hbk4 hrc4 hbX hcX
  gi_wp2_with fail
  obtain⟨hbz,hzx,hk,hK⟩:=HE.out;refine⟨by simp,.inl ⟨_,_,rfl,run_takeDeferred hK, ?_⟩⟩;have kp:=keeps_put WA W4.heap.size (.deferred none);have hs4:w1.heap.size≤W4.heap.size:=Nat.le_trans HB2.out.2.1.size (Nat.le_trans H3.out.2.size H4.out.1.size);refine⟨ptr0 dc, ?_,dc,Z,rfl, ?_, ?_, ?_⟩
  ·simp[results,Tryz.results25,go_sem]
  ·exact hbz.keep kp fun x hx hy=>by
    rw[List.mem_singleton.1 hy]at hx;have:=hbz.norec hx hK
    cases this
  ·intro x hx
   rcases hzx x hx with h | h
   ·exact(HX0.out x h).1
   ·omega
  ·exact(((HB2.out.2.1.then_ H3.out.2).then_ H4.out.1).trans hk (fun y hy hlt=>by have:=(HX0.out y hy).1;omega)).trans kp (fun y hy hlt=>by simp at hy;omega)
 case body=>
  rintro l s ⟨xf,xc,xq⟩ a' V hI ⟨g,rfl,hg⟩ hp
  dsimp only at hg ⊢
  obtain⟨⟨Z,hbz,hzx⟩,hk⟩:=hI;have hst:=mtCopy_step HOK.out hp;have hxo:=HOK.out.ok ⟨xf,xc,xq⟩ (hp.subset (by simp));have hfl:xf.length≤200:=(tFilter_levels hxo.1).2.1;have hcl:xc.length≤23:=by
   have:=hxo.2;simp only[mtSubOk,mtCl,Bool.and_eq_true,decide_eq_true_eq]at this;exact this.1.2
  have hmV:MaxL V:=HM.out.keeps (((HB2.out.2.1.then_ H3.out.2).then_ H4.out.1).trans hk (fun y hy hlt=>by have:=(hx0 y hy).1;omega));have HS:=zh (mtSet_any B V dc s Z hbz hmV ⟨xf,xc,xq⟩ (by simp only;omega) (by simp only;omega));unfold SetPost at HS;rw[hst]at HS;unfold sbV at HS;simp only at HS;have hrc:=hrc4.keep hk hcX;have d0:=hrc.cell 0;have c0:=hg.cell 0;have c1:=hg.cell 1;have c2:=hg.cell 2;simp only[zga,zgz,zgs]at d0 c0 c1 c2;obtain⟨X,hX⟩:∃S:ByteArray,(⟨xf.toArray⟩:ByteArray)=S:=⟨_,rfl⟩;obtain⟨Y,hY⟩:∃S:ByteArray,(⟨xc.toArray⟩:ByteArray)=S:=⟨_,rfl⟩;rw[hX]at c0 HS;rw[hY]at c1 HS;rw[hX,hY];have HE:=zh (And.intro hbz (And.intro hzx hk));have HX0:=zh hx0;clear hbz hzx hk hst hxo hfl hcl hmV hrc hX hY hg hp hx0 hbk4 hrc4 hbX hcX
  gi_wp2_with fail
  refine⟨trivial,(fun h=>by cases h),(CallsIn.inRound (F:=Fence.wide) l (callsIn_of (F:=Fence.wide) rfl HS.out)).mono ?_⟩;rintro e V' ⟨rfl,Z',hgo⟩;have HG:=zh hgo;clear hgo d0 c0 c1 c2
  gi_wp2_with fail
  obtain⟨hbz,hzx,hk⟩:=HE.out;refine⟨KRec.of HG.out.k (fun x hx o h=>hbz.norec hx h),⟨HG.out.k.os,HG.out.k.tape,HG.out.k.output,HG.out.k.size,fun k hkn hkX=>HG.out.k.block k (Nat.lt_of_lt_of_le hkn hk.size) fun hz=> ?_⟩,⟨⟨Z',HG.out.bk,fun x hx=> ?_⟩,hk.trans HG.out.k fun y hy hlt=> ?_⟩⟩
  ·rcases hzx k hz with h | h
   ·exact hkX h
   ·omega
  ·rcases HG.out.x x hx with h | h
   ·exact hzx x h
   ·exact .inr (Nat.le_trans hk.size h)
  ·rcases hzx y hy with h | h
   ·exact h
   ·omega
theorem mtCopy_any (w0 w:World)(d:Nat)(L:List Sb)(h:BkIn w0 w d L)(hm:MaxL w)(B:Nat)(hB:B≤w.heap.size):Calls Tryz.prog 25 #[ptr0 d] w (CopyPost B w L):=
 callsIn_wide.1 (mtCopy_in 3 (by omega) w0 w d L h hm B hB)
end Go.Proofs.YtoadlafdeoklbaaGreatDoor
