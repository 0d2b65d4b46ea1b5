/- Package packet: what is known of a kind's shape. Package packet: what is known of the shapes that have an ID; of any shape. Package packet: Check. -/
import Derived.Test.YtahbikfbjenfpaaGreatDoorPa33

namespace Go.Proofs.YtahbikfbjenfpaaGreatDoor
open Go.RowKit Go.Maps

section
variable {P:Program} {w0:World} {ops:Array Oper} {a0:Act} {Q:List Ent→Prop} {o:Oper} {rest:List Oper} {env:List Ent}
/-- A call of a function that is no constant, of whose answer something is known. -/
theorem loose_qvh (i:FuncId)(cap args:Array Value)(φ:Value→World→Prop){c:Call}(ho:o.op= .call c)(hr:∀(args:Array Value) (w:World),(callFunc i args).run P w= .ok (.enter i args) w)(hw:∀vals:Tmp→Value,Region.wanted o (yielded ops (fill vals env a0).tmps)=true)
  (he:∀(W:World) (vals:Tmp→Value),(resolve (fill vals env a0).eval c o.type).run P W= .ok {target:= .fn (.func i) cap,args:=args} W)
  (hc:∀W,KeepsAll w0 W→Calls P i (args++cap) W fun e w' =>∃v,e= .returned v∧Keeps W w' []∧φ v w')
  (hk:wpLoose P KeepsAll w0 ops a0 Q rest (addEnt o.dst none [] (fun _=>φ) env)):wpLoose P KeepsAll w0 ops a0 Q (o::rest) env:=
 loose_has φ (fun W vals hW _ φ' hφ=>⟨by
  rw[if_pos (hw vals)];have e:(execOp (fill vals env a0).eval o).run P W= .ok (.enter i (args++cap)) W:=by
   unfold execOp;simp only[ho,Sem.run_bind,he,Result.andThen_ok];exact hr _ _
  rw[e];exact looseUpon_calls ((hc W hW).mono fun e w' ⟨v,h1,h2,h3⟩=>⟨v,h1,h2,hφ.out _ _ h3⟩)⟩) hk
/-- The same, at an operation that is walked. -/
theorem wpList_callv {Q:Exit→Act→World→Prop}{a:Act}{w:World}(i:FuncId)(cap args:Array Value){c:Call}(hg:o.guard=none)(ho:o.op= .call c)(hr:∀(args:Array Value) (w:World),(callFunc i args).run P w= .ok (.enter i args) w)
  (he:(resolve a.eval c o.type).run P w= .ok {target:= .fn (.func i) cap,args:=args} w)
  (hc:Calls P i (args++cap) w fun e w' =>(∃v,e= .returned v∧wpList P ops Q rest (a.put o.dst v) w')∨(∃ps,e= .panicked ps∧Q (.panic ps) a w')):wpList P ops Q (o::rest) a w:=by
 refine wpList_plain hg fun K hK=> ?_
 unfold Oper.wp;have e:(execOp a.eval o).run P w= .ok (.enter i (args++cap)) w:=by
  unfold execOp;simp only[ho,Sem.run_bind,he,Result.andThen_ok];exact hr _ _
 rw[e];refine hc.mono ?_;rintro e w' (⟨v,rfl,h⟩ | ⟨ps,rfl,h⟩)
 ·exact hK _ _ h
 ·exact h
end
def pkWr (p:Pk):List UInt8:=if p.k=3 then pkTx p.t++pkIf (decide (0 < p.q)) (pkTwo p.id)else pkBody p
theorem pkWr_body {p:Pk}(h:pkOk p=true):pkBody p=pkWr p++p.b:=by
 unfold pkWr
 by_cases e:p.k=3
 ·rw[if_pos e,pkBody3 e,List.append_assoc]
 ·have h3:=(pkOk_parts h).2.2
  have hb:p.b= []:=by
   rw[←h3];unfold pkAlone
   rcases pk_kinds (pkOk_parts h).1 with e | e | e | e | e | e | e | e
   ·rw[if_pos e];rfl
   ·rw[if_neg (by omega),if_pos e];rfl
   ·omega
   ·rw[if_neg (by omega),if_neg (by omega),if_neg (by omega),if_pos e];rfl
   ·rw[if_neg (by omega),if_neg (by omega),if_neg (by omega),if_neg (by omega),if_pos e];rfl
   ·rw[if_neg (by omega),if_neg (by omega),if_neg (by omega),if_neg (by omega),if_neg (by omega),if_pos e];rfl
   ·rw[if_neg (by omega),if_neg (by omega),if_neg (by omega),if_neg (by omega),if_neg (by omega),if_neg (by omega),if_pos e];rfl
   ·rw[if_neg (by omega),if_neg (by omega),if_neg (by omega),if_neg (by omega),if_neg (by omega),if_neg (by omega),if_neg (by omega)];rfl
  rw[if_neg e,hb,List.append_nil]
abbrev Enters (i:FuncId):Prop:=∀(args:Array Value) (w:World),(callFunc i args).run Tryz.prog w= .ok (.enter i args) w
/-- What is known of a kind's shape. -/
structure PkK (w:World)(k:Int)(i1:FuncId)(c1:Array Value)(i2:FuncId)(c2:Array Value)(fv wv:Value)(i5:FuncId)(c5:Array Value):Prop where
 r1:Enters i1
 r2:Enters i2
 r5:Enters i5
 may:∀(p:Pk) (sw sc sf:Value) (W:World),Keeps w W []→p.k=k→PkSm p→PkL W p sw sc sf→MaxL W→Calls Tryz.prog i1 (#[pkV p sw sc sf]++c1) W (TruePost W (pkMay p))
 has:∀(p:Pk) (sw sc sf:Value) (W:World),Keeps w W []→p.k=k→PkL W p sw sc sf→Calls Tryz.prog i2 (#[pkV p sw sc sf]++c2) W (PkHasPost W p sw sc sf)
 read:∀(W:World) (base r f:Nat) (l:List UInt8),Keeps w W []→Rd W base r l→l.length≤100000→f < 16→Calls Tryz.prog i5 (#[.agg #[.pointer (some ⟨r,0,none⟩)],.int .i64 (f:Nat)]++c5) W (PkRdPost W base r (rdPk k f l))
 fl:(fv= .nilFunc∧∀p:Pk,p.k=k→pkF p=0)∨(∃i c,fv= .func (.func i) #[] c∧Enters i∧∀(p:Pk) (sw sc sf:Value) (W:World),Keeps w W []→p.k=k→(k=3→0≤p.q∧p.q≤3)→Calls Tryz.prog i (#[pkV p sw sc sf]++c) W fun e w' =>e= .returned (.int .i64 (pkF p:Nat))∧Keeps W w' [])
 wr:(wv= .nilFunc∧∀p:Pk,p.k=k→pkWr p= [])∨(∃i c,wv= .func (.func i) #[] c∧Enters i∧∀(p:Pk) (sw sc sf:Value) (w0 W:World) (r:Nat),Keeps w W []→p.k=k→pkOk p=true→PkL w0 p sw sc sf→WrAt w0 W r []→Calls Tryz.prog i (#[.pointer (some ⟨r,0,none⟩),pkV p sw sc sf]++c) W (WrPost w0 W r (pkWr p)))
theorem app10 (x:Value): #[x]++(#[]:Array Value)= #[x]:=by simp
theorem app11 (x y:Value): #[x]++ #[y]= #[x,y]:=by simp
theorem app20 (x y:Value): #[x,y]++(#[]:Array Value)= #[x,y]:=by simp
theorem app21 (x y z:Value): #[x,y]++ #[z]= #[x,y,z]:=by simp
theorem pkK1 (w:World):PkK w 1 125 #[] 128 #[] .nilFunc (pkFn 129) 131 #[] where
 r1 _ _:=by kernel_rfl
 r2 _ _:=by kernel_rfl
 r5 _ _:=by kernel_rfl
 may p sw sc sf W _ hk hs _ _:=by rw[app10];exact pkMay1_any p sw sc sf W hk hs
 has p sw sc sf W _ hk hl:=by rw[app10];exact pkHasP1_any p sw sc sf W hk hl
 read W base r f l _ h _ _:=by rw[app20];exact pkRd1_any W base r f l h
 fl:= .inl ⟨rfl,fun p hk=>by unfold pkF;rw[if_neg (by omega),if_neg (by omega)]⟩
 wr:= .inr ⟨_,_,rfl,fun _ _=>by kernel_rfl,fun p sw sc sf w0 W r _ hk ho _ h=>by
  rw[app20];have:=pkWr1_any p sw sc sf w0 W r [] h hk (pk_fit1 hk (pkOk_parts ho).2.1) (by simp)
  rwa [List.nil_append,show pkBody p=pkWr p by unfold pkWr;rw[if_neg (by omega)]]at this⟩
theorem pkK2 (w:World):PkK w 2 51 #[] 53 #[] .nilFunc (pkFn 54) 57 #[] where
 r1 _ _:=by kernel_rfl
 r2 _ _:=by kernel_rfl
 r5 _ _:=by kernel_rfl
 may p sw sc sf W _ hk _ _ _:=by rw[app10];exact pkMay2_any p sw sc sf W hk
 has p sw sc sf W _ hk hl:=by rw[app10];exact pkHasP2_any p sw sc sf W hk hl
 read W base r f l _ h _ _:=by
  rw[app20];have:=pkRd2_any W base r f l h
  rwa [show rdAck l=rdPk 2 f l from rfl]at this
 fl:= .inl ⟨rfl,fun p hk=>by unfold pkF;rw[if_neg (by omega),if_neg (by omega)]⟩
 wr:= .inr ⟨_,_,rfl,fun _ _=>by kernel_rfl,fun p sw sc sf w0 W r _ hk ho _ h=>by
  rw[app20];have:=pkWr2_any p sw sc sf w0 W r [] h hk (pk_fit2 hk (pkOk_parts ho).2.1) (by simp)
  rwa [List.nil_append,show pkBody p=pkWr p by unfold pkWr;rw[if_neg (by omega)]]at this⟩
theorem pkK3 (w:World):PkK w 3 132 #[] 133 #[] (pkFn 134) (pkFn 136) 137 #[] where
 r1 _ _:=by kernel_rfl
 r2 _ _:=by kernel_rfl
 r5 _ _:=by kernel_rfl
 may p sw sc sf W _ hk hs _ _:=by rw[app10];exact pkMay3_any p sw sc sf W hk hs
 has p sw sc sf W _ hk hl:=by rw[app10];exact pkHasP3_any p sw sc sf W hk hl
 read W base r f l _ h hl hf:=by
  rw[app20];have:=pkRd3_any W base r f l h hl hf
  rwa [show rdPub f l=rdPk 3 f l from rfl]at this
 fl:= .inr ⟨_,_,rfl,fun _ _=>by kernel_rfl,fun p sw sc sf W _ hk hq=>by
  rw[app10,show pkF p=pkPub p by unfold pkF;rw[if_pos hk]];exact pkFlags3_any p sw sc sf W (hq rfl)⟩
 wr:= .inr ⟨_,_,rfl,fun _ _=>by kernel_rfl,fun p sw sc sf w0 W r _ hk ho _ h=>by
  rw[app20];have f3:=pk_fit3 hk (pkOk_parts ho).2.1;have:=pkWr3_any p sw sc sf w0 W r [] h hk ⟨f3.1,f3.2.2.2.1⟩ (by simp)
  rwa [List.nil_append,show pkTx p.t++pkIf (decide (0 < p.q)) (pkTwo p.id)=pkWr p by unfold pkWr;rw[if_pos hk]]at this⟩
theorem pkK12 (w:World){k:Int}(hk0:k=12∨k=13∨k=14):PkK w k 48 #[] 49 #[] .nilFunc .nilFunc 50 #[] where
 r1 _ _:=by kernel_rfl
 r2 _ _:=by kernel_rfl
 r5 _ _:=by kernel_rfl
 may p sw sc sf W _ hk _ _ _:=by
  rw[app10,show pkMay p=true by unfold pkMay;rw[if_neg (by omega),if_neg (by omega),if_neg (by omega),if_neg (by omega),if_neg (by omega),if_neg (by omega),if_pos (by omega)]];exact pkMayNone p sw sc sf W
 has p sw sc sf W _ hk hl:=by rw[app10];exact pkHasP12_any p sw sc sf W (by rw[hk];exact hk0) hl
 read W base r f l _ h _ _:=by rw[app20];exact pkRdNone_any W base r k f l h hk0
 fl:= .inl ⟨rfl,fun p hk=>by unfold pkF;rw[if_neg (by omega),if_neg (by omega)]⟩
 wr:= .inl ⟨rfl,fun p hk=>by unfold pkWr;rw[if_neg (by omega),pkBody12 (by rw[hk];exact hk0)]⟩

theorem pkK8 {w:World}{b1 b2 b3 b4 b5:Nat}(h:(Row w b1 30 #[pkFn 61]∧Row w b2 51 #[pkFn 60]∧Row w b3 3 #[.int .i64 2])∧Row w b4 53 #[pkFn 66]∧Row w b5 110 #[pkFn 68]):
  PkK w 8 109 #[.pointer (some ⟨b1,0,none⟩)] 110 #[.pointer (some ⟨b2,0,none⟩)] (pkCl 111 b3) (pkCl 112 b4) 113 #[.pointer (some ⟨b5,0,none⟩)] where
 r1 _ _:=by kernel_rfl
 r2 _ _:=by kernel_rfl
 r5 _ _:=by kernel_rfl
 may p sw sc sf W hW hk hs hl hm:=by
  rw[app11];exact pkMayList_any p sw sc sf W 61 b1 (by omega) (fun _ _=>by kernel_rfl) (h.1.1.keeps hW) fun W2 hW2=>pkMay8_any p sw sc sf W2 hk hs (hl.keeps hW2) (hm.keeps hW2)
 has p sw sc sf W hW hk hl:=by rw[app11];exact pkHasP8_any p sw sc sf W hk hl b2 (h.1.2.1.keeps hW)
 read W base r f l hW hr hl _:=by
  rw[app21,rdPk_list (by omega)];exact pkRdList_any W base r b5 8 f l 68 hr hl (fun _ _=>by kernel_rfl) (h.2.2.keeps hW) fun W2 g id t hg ht h1 h2=>pkIn8_any W2 base r g id t h1 hg ht h2
 fl:= .inr ⟨_,_,rfl,fun _ _=>by kernel_rfl,fun p sw sc sf W hW hk _=>by
  rw[app11,show((pkF p:Nat):Int)=2 by unfold pkF;rw[if_neg (by omega),if_pos (by omega)];rfl];exact pkFlagsList_any p sw sc sf W 2 b3 (h.1.2.2.keeps hW)⟩
 wr:= .inr ⟨_,_,rfl,fun _ _=>by kernel_rfl,fun p sw sc sf w0 W r hW hk ho hl hwr=>by
  rw[app21];have ff:=pk_fit8 hk (pkOk_parts ho).2.1;have:=pkWrList_any p sw sc sf w0 W r [] (p.wants.flatMap fun w=>pkTx w.1++pkOne w.2.toNat) 66 b4 hwr (by omega) (by omega) (by simp) (fun _ _=>by kernel_rfl) (h.2.1.keeps hW) (fun W2 l' hw2 hl2=>by have hh:=pkWr8_any p sw sc sf w0 W2 r l' hw2 hl hk ⟨ff.2.2.1,ff.2.2.2⟩ hl2;exact hh)
  rwa [List.nil_append,show pkTwo p.id++(p.wants.flatMap fun w=>pkTx w.1++pkOne w.2.toNat)=pkWr p by unfold pkWr;rw[if_neg (by omega),pkBody8 hk]]at this⟩

theorem pkK9 {w:World}{b1 b2 b3 b4 b5:Nat}(h:(Row w b1 30 #[pkFn 73]∧Row w b2 51 #[pkFn 72]∧Row w b3 3 #[.int .i64 0])∧Row w b4 53 #[pkFn 76]∧Row w b5 110 #[pkFn 77]):
  PkK w 9 109 #[.pointer (some ⟨b1,0,none⟩)] 110 #[.pointer (some ⟨b2,0,none⟩)] (pkCl 111 b3) (pkCl 112 b4) 113 #[.pointer (some ⟨b5,0,none⟩)] where
 r1 _ _:=by kernel_rfl
 r2 _ _:=by kernel_rfl
 r5 _ _:=by kernel_rfl
 may p sw sc sf W hW hk hs hl hm:=by
  rw[app11];exact pkMayList_any p sw sc sf W 73 b1 (by omega) (fun _ _=>by kernel_rfl) (h.1.1.keeps hW) fun W2 hW2=>pkMay9_any p sw sc sf W2 hk hs (hl.keeps hW2)
 has p sw sc sf W hW hk hl:=by rw[app11];exact pkHasP9_any p sw sc sf W hk hl b2 (h.1.2.1.keeps hW)
 read W base r f l hW hr hl _:=by
  rw[app21,rdPk_list (by omega)];exact pkRdList_any W base r b5 9 f l 77 hr hl (fun _ _=>by kernel_rfl) (h.2.2.keeps hW) fun W2 g id t hg ht h1 h2=>pkIn9_any W2 base r g id t h1 hg ht h2
 fl:= .inr ⟨_,_,rfl,fun _ _=>by kernel_rfl,fun p sw sc sf W hW hk _=>by
  rw[app11,show((pkF p:Nat):Int)=0 by unfold pkF;rw[if_neg (by omega),if_neg (by omega)];rfl];exact pkFlagsList_any p sw sc sf W 0 b3 (h.1.2.2.keeps hW)⟩
 wr:= .inr ⟨_,_,rfl,fun _ _=>by kernel_rfl,fun p sw sc sf w0 W r hW hk ho hl hwr=>by
  rw[app21];have ff:=pk_fit9 hk (pkOk_parts ho).2.1;have:=pkWrList_any p sw sc sf w0 W r [] (p.codes.flatMap fun c=>pkOne c.toNat) 76 b4 hwr (by omega) (by omega) (by simp) (fun _ _=>by kernel_rfl) (h.2.1.keeps hW) (fun W2 l' hw2 hl2=>pkWr9_any p sw sc sf w0 W2 r l' hw2 hl hk ⟨ff.2.2.1,ff.2.2.2⟩ hl2)
  rwa [List.nil_append,show pkTwo p.id++(p.codes.flatMap fun c=>pkOne c.toNat)=pkWr p by unfold pkWr;rw[if_neg (by omega),pkBody9 hk]]at this⟩

theorem pkK10 {w:World}{b1 b2 b3 b4 b5:Nat}(h:(Row w b1 30 #[pkFn 81]∧Row w b2 51 #[pkFn 80]∧Row w b3 3 #[.int .i64 2])∧Row w b4 53 #[pkFn 83]∧Row w b5 110 #[pkFn 84]):
  PkK w 10 109 #[.pointer (some ⟨b1,0,none⟩)] 110 #[.pointer (some ⟨b2,0,none⟩)] (pkCl 111 b3) (pkCl 112 b4) 113 #[.pointer (some ⟨b5,0,none⟩)] where
 r1 _ _:=by kernel_rfl
 r2 _ _:=by kernel_rfl
 r5 _ _:=by kernel_rfl
 may p sw sc sf W hW hk hs hl hm:=by
  rw[app11];exact pkMayList_any p sw sc sf W 81 b1 (by omega) (fun _ _=>by kernel_rfl) (h.1.1.keeps hW) fun W2 hW2=>pkMay10_any p sw sc sf W2 hk hs (hl.keeps hW2) (hm.keeps hW2)
 has p sw sc sf W hW hk hl:=by rw[app11];exact pkHasP10_any p sw sc sf W hk hl b2 (h.1.2.1.keeps hW)
 read W base r f l hW hr hl _:=by
  rw[app21,rdPk_list (by omega)];exact pkRdList_any W base r b5 10 f l 84 hr hl (fun _ _=>by kernel_rfl) (h.2.2.keeps hW) fun W2 g id t hg ht h1 h2=>pkIn10_any W2 base r g id t h1 hg ht h2
 fl:= .inr ⟨_,_,rfl,fun _ _=>by kernel_rfl,fun p sw sc sf W hW hk _=>by
  rw[app11,show((pkF p:Nat):Int)=2 by unfold pkF;rw[if_neg (by omega),if_pos (by omega)];rfl];exact pkFlagsList_any p sw sc sf W 2 b3 (h.1.2.2.keeps hW)⟩
 wr:= .inr ⟨_,_,rfl,fun _ _=>by kernel_rfl,fun p sw sc sf w0 W r hW hk ho hl hwr=>by
  rw[app21];have ff:=pk_fit10 hk (pkOk_parts ho).2.1;have:=pkWrList_any p sw sc sf w0 W r [] (p.fs.flatMap pkTx) 83 b4 hwr (by omega) (by omega) (by simp) (fun _ _=>by kernel_rfl) (h.2.1.keeps hW) (fun W2 l' hw2 hl2=>pkWr10_any p sw sc sf w0 W2 r l' hw2 hl hk ⟨ff.2.2.1,ff.2.2.2⟩ hl2)
  rwa [List.nil_append,show pkTwo p.id++(p.fs.flatMap pkTx)=pkWr p by unfold pkWr;rw[if_neg (by omega),pkBody10 hk]]at this⟩

theorem pkK4 {w:World}{b1 b2 b3 b4 b5:Nat}{k:Int}(hk0:k=4∨k=5∨k=7∨k=11)(h:(Row w b1 30 #[pkFn 140]∧Row w b2 51 #[pkFn 139]∧Row w b3 3 #[.int .i64 0])∧Row w b4 53 #[pkFn 141]∧Row w b5 110 #[pkFn 142]):
  PkK w k 109 #[.pointer (some ⟨b1,0,none⟩)] 110 #[.pointer (some ⟨b2,0,none⟩)] (pkCl 111 b3) (pkCl 112 b4) 113 #[.pointer (some ⟨b5,0,none⟩)] where
 r1 _ _:=by kernel_rfl
 r2 _ _:=by kernel_rfl
 r5 _ _:=by kernel_rfl
 may p sw sc sf W hW hk hs hl hm:=by
  rw[app11];exact pkMayList_any p sw sc sf W 140 b1 (by omega) (fun _ _=>by kernel_rfl) (h.1.1.keeps hW) fun W2 hW2=>pkMay4_any p sw sc sf W2 (by omega)
 has p sw sc sf W hW hk hl:=by rw[app11];exact pkHasP4_any p sw sc sf W (by omega) hl b2 (h.1.2.1.keeps hW)
 read W base r f l hW hr hl _:=by
  rw[app21,rdPk_list (by omega)];exact pkRdList_any W base r b5 k f l 142 hr hl (fun _ _=>by kernel_rfl) (h.2.2.keeps hW) fun W2 g id t hg ht h1 h2=>pkInAns_any W2 base r g k id t (by omega) h1 h2
 fl:= .inr ⟨_,_,rfl,fun _ _=>by kernel_rfl,fun p sw sc sf W hW hk _=>by
  rw[app11,show((pkF p:Nat):Int)=0 by unfold pkF;rw[if_neg (by omega),if_neg (by omega)];rfl];exact pkFlagsList_any p sw sc sf W 0 b3 (h.1.2.2.keeps hW)⟩
 wr:= .inr ⟨_,_,rfl,fun _ _=>by kernel_rfl,fun p sw sc sf w0 W r hW hk ho hl hwr=>by
  rw[app21];have ff:=pk_fit4 (p:=p) (by omega) (pkOk_parts ho).2.1;have:=pkWrList_any p sw sc sf w0 W r [] [] 141 b4 hwr (by omega) (by omega) (by simp) (fun _ _=>by kernel_rfl) (h.2.1.keeps hW) (fun W2 l' hw2 hl2=>(by rw[List.append_nil];exact pkWrAns_any p sw sc sf w0 W2 r l' hw2))
  rwa [List.nil_append,show pkTwo p.id++ []=pkWr p by unfold pkWr;rw[if_neg (by omega),pkBody4 (by omega),List.append_nil]]at this⟩

theorem pkK6 {w:World}{b1 b2 b3 b4 b5:Nat}{k:Int}(hk0:k=6)(h:(Row w b1 30 #[pkFn 140]∧Row w b2 51 #[pkFn 139]∧Row w b3 3 #[.int .i64 2])∧Row w b4 53 #[pkFn 141]∧Row w b5 110 #[pkFn 142]):
  PkK w k 109 #[.pointer (some ⟨b1,0,none⟩)] 110 #[.pointer (some ⟨b2,0,none⟩)] (pkCl 111 b3) (pkCl 112 b4) 113 #[.pointer (some ⟨b5,0,none⟩)] where
 r1 _ _:=by kernel_rfl
 r2 _ _:=by kernel_rfl
 r5 _ _:=by kernel_rfl
 may p sw sc sf W hW hk hs hl hm:=by
  rw[app11];exact pkMayList_any p sw sc sf W 140 b1 (by omega) (fun _ _=>by kernel_rfl) (h.1.1.keeps hW) fun W2 hW2=>pkMay4_any p sw sc sf W2 (by omega)
 has p sw sc sf W hW hk hl:=by rw[app11];exact pkHasP4_any p sw sc sf W (by omega) hl b2 (h.1.2.1.keeps hW)
 read W base r f l hW hr hl _:=by
  rw[app21,rdPk_list (by omega)];exact pkRdList_any W base r b5 k f l 142 hr hl (fun _ _=>by kernel_rfl) (h.2.2.keeps hW) fun W2 g id t hg ht h1 h2=>pkInAns_any W2 base r g k id t (by omega) h1 h2
 fl:= .inr ⟨_,_,rfl,fun _ _=>by kernel_rfl,fun p sw sc sf W hW hk _=>by
  rw[app11,show((pkF p:Nat):Int)=2 by unfold pkF;rw[if_neg (by omega),if_pos (by omega)];rfl];exact pkFlagsList_any p sw sc sf W 2 b3 (h.1.2.2.keeps hW)⟩
 wr:= .inr ⟨_,_,rfl,fun _ _=>by kernel_rfl,fun p sw sc sf w0 W r hW hk ho hl hwr=>by
  rw[app21];have ff:=pk_fit4 (p:=p) (by omega) (pkOk_parts ho).2.1;have:=pkWrList_any p sw sc sf w0 W r [] [] 141 b4 hwr (by omega) (by omega) (by simp) (fun _ _=>by kernel_rfl) (h.2.1.keeps hW) (fun W2 l' hw2 hl2=>(by rw[List.append_nil];exact pkWrAns_any p sw sc sf w0 W2 r l' hw2))
  rwa [List.nil_append,show pkTwo p.id++ []=pkWr p by unfold pkWr;rw[if_neg (by omega),pkBody4 (by omega),List.append_nil]]at this⟩

/-- Any kind's shape. -/
theorem pkK {w:World}{k:Int}{v:Value}(hk:1≤k∧k≤14)(h:Sh w k.toNat v):∃i1 c1 i2 c2 fv wv i5 c5,v= .agg #[.func (.func i1) #[] c1,.func (.func i2) #[] c2,fv,wv,.func (.func i5) #[] c5]∧PkK w k i1 c1 i2 c2 fv wv i5 c5:=by
 obtain⟨j,rfl⟩:∃j:Nat,k=(j:Int):=⟨k.toNat,by omega⟩;rw[Int.toNat_natCast]at h;unfold Sh at h
 by_cases e:j=1
 ·subst e;subst h;exact⟨_,_,_,_,_,_,_,_,rfl,pkK1 w⟩
 rw[if_neg e]at h
 by_cases e:j=2
 ·subst e;subst h;exact⟨_,_,_,_,_,_,_,_,rfl,pkK2 w⟩
 rw[if_neg e]at h
 by_cases e:j=3
 ·subst e;subst h;exact⟨_,_,_,_,_,_,_,_,rfl,pkK3 w⟩
 rw[if_neg e]at h
 by_cases e:j=8
 ·subst e
  obtain⟨b1,b2,b3,b4,b5,rfl,hh⟩:=h;exact⟨_,_,_,_,_,_,_,_,rfl,pkK8 hh⟩
 rw[if_neg e]at h
 by_cases e:j=9
 ·subst e
  obtain⟨b1,b2,b3,b4,b5,rfl,hh⟩:=h;exact⟨_,_,_,_,_,_,_,_,rfl,pkK9 hh⟩
 rw[if_neg e]at h
 by_cases e:j=10
 ·subst e
  obtain⟨b1,b2,b3,b4,b5,rfl,hh⟩:=h;exact⟨_,_,_,_,_,_,_,_,rfl,pkK10 hh⟩
 rw[if_neg e]at h
 by_cases e:j=12∨j=13∨j=14
 ·rw[if_pos e]at h
  subst h;exact⟨_,_,_,_,_,_,_,_,rfl,pkK12 w (by omega)⟩
 rw[if_neg e]at h
 by_cases e:j=6
 ·rw[if_pos e]at h
  obtain⟨b1,b2,b3,b4,b5,rfl,hh⟩:=h;exact⟨_,_,_,_,_,_,_,_,rfl,pkK6 (by omega) hh⟩
 rw[if_neg e]at h;obtain⟨b1,b2,b3,b4,b5,rfl,hh⟩:=h;exact⟨_,_,_,_,_,_,_,_,rfl,pkK4 (by omega) hh⟩

theorem ShMap.keeps {w w' :World}{b:Nat}{S:List Nat}(h:ShMap w b S)(hk:Keeps w w' []):ShMap w' b S:=(RelS.of (n0:=0) hk).maps b S (Nat.zero_le _) h
def chkV (p:Pk):Int:=if pkOk p=true then 0 else 2
theorem pkHas_small {p:Pk}(h:PkSm p):(pkHas p).wants.length≤1000000∧(pkHas p).codes.length≤1000000∧(pkHas p).fs.length≤1000000:=by
 have h1:=h.wants.1;have h2:=h.codes;have h3:=h.fs.1;unfold pkHas pkAlone
 split
 ·simp[pkZ]
 ·split
  ·simp[pkZ]
  ·split
   ·simp[pkZ]
   ·split
    ·simp[pkZ];omega
    ·split
     ·simp[pkZ];omega
     ·split
      ·simp[pkZ];omega
      ·split <;> simp[pkZ]
theorem chkV_no {p:Pk}(h:pkOk p=false):chkV p=2:=by unfold chkV;rw[h];rfl
theorem chkV_yes {p:Pk}(h:pkOk p=true):chkV p=0:=by unfold chkV;rw[h];rfl
abbrev shZC:Array Value:= #[.nilFunc,.nilFunc,.nilFunc,.nilFunc,.nilFunc]
/-- What no operation of it changes: all but a shape that is still nothing. -/
structure RelC (n0:Nat)(w w' :World):Prop where
 os:w'.os=w.os
 tape:w'.tape=w.tape
 output:w'.output=w.output
 size:w.heap.size≤w'.heap.size
 block:∀k,k < n0→k < w.heap.size→w'.heap[k]? =w.heap[k]?
 rows:∀b t cs,(56≠t∨cs≠shZC)→Row w b t cs→Row w' b t cs
 maps:∀b S,ShMap w b S→ShMap w' b S
theorem ShL.rowsC {w w' :World}{fl:Int}{hs my wr rd:FuncId}{v:Value}(h:ShL w fl hs my wr rd v)(hk:∀b t cs,56≠t→Row w b t cs→Row w' b t cs):ShL w' fl hs my wr rd v:=by
 obtain⟨b1,b2,b3,b4,b5,e,⟨h1,h2,h3⟩,h4,h5⟩:=h;exact⟨b1,b2,b3,b4,b5,e,⟨hk _ _ _ (by decide) h1,hk _ _ _ (by decide) h2,hk _ _ _ (by decide) h3⟩,hk _ _ _ (by decide) h4,hk _ _ _ (by decide) h5⟩
theorem Sh.rowsC {w w' :World}{k:Nat}{v:Value}(h:Sh w k v)(hk:∀b t cs,56≠t→Row w b t cs→Row w' b t cs):Sh w' k v:=by
 unfold Sh at h ⊢
 split
 ·rename_i e;rw[if_pos e]at h;exact h
 rename_i e1;rw[if_neg e1]at h
 split
 ·rename_i e;rw[if_pos e]at h;exact h
 rename_i e2;rw[if_neg e2]at h
 split
 ·rename_i e;rw[if_pos e]at h;exact h
 rename_i e3;rw[if_neg e3]at h
 split
 ·rename_i e;rw[if_pos e]at h;exact ShL.rowsC h hk
 rename_i e4;rw[if_neg e4]at h
 split
 ·rename_i e;rw[if_pos e]at h;exact ShL.rowsC h hk
 rename_i e5;rw[if_neg e5]at h
 split
 ·rename_i e;rw[if_pos e]at h;exact ShL.rowsC h hk
 rename_i e6;rw[if_neg e6]at h
 split
 ·rename_i e;rw[if_pos e]at h;exact h
 rename_i e7;rw[if_neg e7]at h
 split
 ·rename_i e;rw[if_pos e]at h;exact ShL.rowsC h hk
 ·rename_i e;rw[if_neg e]at h;exact ShL.rowsC h hk
theorem RelC.of {n0:Nat}{w w' :World}(h:Keeps w w' []):RelC n0 w w' :=⟨h.os,h.tape,h.output,h.size,fun k _ hk=>h.block k hk (by simp),fun b t cs _ hr=>hr.keeps h,fun b S hm=>hm.keeps h⟩
theorem RelC.trans {n0:Nat}{w w' w'' :World}(h:RelC n0 w w')(k:RelC n0 w' w''):RelC n0 w w'' :=
 ⟨k.os.trans h.os,k.tape.trans h.tape,k.output.trans h.output,Nat.le_trans h.size k.size,fun i h1 h2=>(k.block i h1 (Nat.lt_of_lt_of_le h2 h.size)).trans (h.block i h1 h2),fun b t cs hn hr=>k.rows b t cs hn (h.rows b t cs hn hr),fun b S hm=>k.maps b S (h.maps b S hm)⟩
theorem RelC.keeps {w w' :World}(h:RelC w.heap.size w w'):Keeps w w' []:=⟨h.os,h.tape,h.output,h.size,fun k hk _=>h.block k hk hk⟩
theorem RelC.sh {n0 k:Nat}{w w' :World}{v:Value}(h:RelC n0 w w')(hs:Sh w k v):Sh w' k v:=hs.rowsC fun b t cs ht hr=>h.rows b t cs (.inl ht) hr
def shA:Nat→World→World→Prop:=fun _ w w' =>∀b,Row w b 56 shZC→Row w' b 56 shZC
theorem shLight {Ws:List Wr}{n0:Nat}:LightK Ws (RelC n0) shA:=
 ⟨⟨fun _=> .of (Keeps.refl _ _),fun _ _ _ h k=>h.trans k,fun _ _ _ h=>h,fun _ _ _ _ h k b hr=>k b (h b hr)⟩,fun h=> .of h,fun h _ hr=>hr.keeps h⟩
/-- A shape laid over nothing. -/
theorem RelC.put {n0 B:Nat}{w w' :World}{X:Array Value}(hb:n0≤B)(hr:Row w B 56 shZC)(_:Row w' B 56 X)(hk:Keeps w w' [B]):RelC n0 w w' :=by
 have hrows:∀b t cs,(56≠t∨cs≠shZC)→Row w b t cs→Row w' b t cs:=fun b t cs hn h=>h.keep hk (fun hm=>by
  rw[List.mem_singleton]at hm;subst hm
  rcases hn with hn | hn
  ·exact Row.ne_type hr h hn rfl
  ·unfold Row at h hr
   rw[hr]at h;injection h with h
   injection h with h1 h2
   exact hn h1.symm)
 refine⟨hk.os,hk.tape,hk.output,hk.size,fun k h1 h2=>hk.block k h2 (by rw[List.mem_singleton];omega),hrows,fun b S hm=> ?_⟩;obtain⟨ds,h1,h2,h3⟩:=hm;refine⟨ds,h1.keep hk (fun hm=> ?_),⟨h2.1,fun x hx=> ?_⟩,h3⟩
 ·rw[List.mem_singleton]at hm
  subst hm;obtain⟨es,cl,hh,_⟩:=h1;unfold Row at hr;rw[hh]at hr;injection hr with hr
  cases hr
 ·obtain⟨k,g1,g2,v,g3,g4⟩:=h2.2 x hx
  exact⟨k,g1,g2,v,g3,g4.rowsC fun b t cs ht hrr=>hrows b t cs (.inl ht) hrr⟩
/-- The store, at an operation. -/
theorem opOk_shStore {ops:Array Oper}{a:Act}{o:Oper}{x y:Operand}{n0 B:Nat}{X:Array Value}{W:World}{φ' :Value→World→Prop}{R:World→World→Prop}(hw:Region.wanted o (yielded ops a.tmps)=true)(ho:o.op= .store 56 x y)(hx:a.eval x= .pointer (some ⟨B,0,none⟩))(hy:a.eval y= .agg X)(hX:X.size=5)(h1:X.all (·.oneCell')=true)(hb:n0≤B)(hr:Row W B 56 shZC)
  (hR:∀w',RelC n0 W w' →R W w') (h:∀w',RelC n0 W w' →Row w' B 56 X→φ' undef w'):opOk Tryz.prog R ops a o φ' W:=by
 refine⟨?_⟩;rw[if_pos hw];have hi:(Tryz.prog.info? 56).map (·.size)=some X.size:=by rw[hX];kernel_rfl
 have hrun:=run_storeAt_mid (P:=Tryz.prog) W B 0 56 X (hr.there (by rw[hX];decide)) hi h1;have h2:=hr.setCells X.toList 0;rw[setFrom_all (by rw[hX];rfl)]at h2;unfold execOp;simp only[ho,hx,hy,Sem.run_bind,hrun,Result.andThen_ok,Sem.run_pure];exact⟨hR _ (RelC.put hb hr h2 (Keeps.setCells _ _ _)),h _ (RelC.put hb hr h2 (Keeps.setCells _ _ _)) h2⟩
set_option maxRecDepth 100000 in
set_option maxHeartbeats 4000000 in
theorem pkCheck_any (p:Pk)(sw sc sf:Value)(w:World)(hl:PkL w p sw sc sf)(hs:PkSm p)(hm:MaxL w)(hk1: -9223372036854775808≤p.k)(hk2:p.k≤9223372036854775807):
  Calls Tryz.prog 13 #[pkV p sw sc sf] w fun e w' =>e= .returned (.int .i64 (chkV p))∧Keeps w w' []:=by
 have HPP:=zh (show p=p from rfl);clear HPP;obtain⟨C,hC⟩:∃C,chkV p=C:=⟨_,rfl⟩;have HC:=zh hC;rw[hC];clear hC;have HL:=zh (And.intro hl (And.intro hs hm));have HKR:=zh (fun(W:World) (b:Nat) (h:ShAll W b)=>h.look p.k hk1 hk2 true);clear hk1 hk2
 by_cases hin:1≤p.k∧p.k≤14
 case neg=>
  have HCN:=zh (show C=2 by
   rw[←HC.out];exact chkV_no (by
    unfold pkOk;have:pkIn p.k 1 14=false:=by
     cases h:pkIn p.k 1 14 with
     | false=>rfl
     | true=>exact absurd (pkIn_iff.1 h) hin
    rw[this];rfl))
  have HLK:=zh (fun(W:World) (b:Nat) (h:ShAll W b)=>(HKR.out W b h).resolve_left (fun hx=>hin ⟨hx.1,hx.2.1⟩));clear hl hs hm hin HKR HC HL;obtain⟨k,dup,ret,q,t,b,id,c,cl,keep,hw,wt,wb,wq,wr,hu,hp,u,pw,pr,code,wants,codes,fs⟩:=p;obtain⟨W0,hW0⟩:∃W,(w).alloc (.cells (zP k dup ret q t b id c cl keep hw wt wb wq wr hu hp u pw pr code sw sc sf) 29)=W:=⟨_,rfl⟩;have k0:Keeps (w) W0 []:=by rw[←hW0];exact Keeps.alloc _ _
  have r0:Row W0 (w).heap.size 29 (zP k dup ret q t b id c cl keep hw wt wb wq wr hu hp u pw pr code sw sc sf):=by rw[←hW0];exact Row.new _ _ _
  have HP:=zh r0;have HK:=zh k0;clear k0 r0
  go_enter Tryz.func13,Tryz.ntmps13
  go_upto_region 1 with fail
  clear hW0;have LH:LightK [⟨8, [], []⟩] (RelC W0.heap.size) shA:=shLight;refine wp_region_writersL [⟨8, [], []⟩] (RelC W0.heap.size) (shA) _ 9 LH (by kernel_rfl) rfl (by kernel_rfl) ?_;simp only[zts,ztz,zds,zdz];refine loosek_has 0 (fun v W' =>∃b,v= .map (some b)∧ShAll W' b) rfl (fun W vals hW hkn φ' hφ=> ?_) ?_
  ·have hC:=hW.c
   simp only[knowsK]at hkn
   try simp only[and_true]at hkn
   clear hkn;refine⟨?_⟩;simp only[fill];go_simp;exact loosek_calls_has LH hφ ((pkShapes_any W).mono (by rintro e w2 ⟨b,rfl,hb,hk⟩;exact⟨_,rfl,hk,b,rfl,hb⟩))
  simp only[addEnt];apply loosek_is 1 _ rfl
  ·intro W vals hW hkn
   clear hkn;have hC:=hW.c;refine⟨?_⟩;simp only[fill];go_simp
   first | exact⟨LH.stp (Keeps.refl _ _),rfl⟩ | exact⟨LH.stp (Keeps.alloc _ _),rfl⟩
  simp only[addEnt];apply loosek_is 2 _ rfl
  ·intro W vals hW hkn
   have hC:=hW.c;simp only[knowsK]at hkn
   try simp only[and_true]at hkn
   clear hkn;have m0:=(hC.rows _ _ _ (.inl (by decide)) HP.out).cell 0;simp only[zga,zgz]at m0;refine⟨?_⟩;simp only[fill];go_simp
   first | exact⟨LH.stp (Keeps.refl _ _),rfl⟩ | exact⟨LH.stp (Keeps.alloc _ _),rfl⟩
  simp only[addEnt];apply loosek_is 3 _ rfl
  ·intro W vals hW hkn
   have hC:=hW.c;simp only[knowsK]at hkn
   try simp only[and_true]at hkn
   obtain⟨W1,q0,q1,bb,hv,hb⟩:=hkn (by decide);have hlk:=(HLK.out W bb (q1.c.maps _ _ hb)).2;rw[if_pos rfl]at hlk;unfold shZero at hlk;clear hb q0 q1;refine⟨?_⟩;simp only[fill];go_simp
   first | exact⟨LH.stp (Keeps.refl _ _),rfl⟩ | exact⟨LH.stp (Keeps.alloc _ _),rfl⟩
  simp only[addEnt];apply loosek_is 4 _ rfl
  ·intro W vals hW hkn
   clear hkn;have hC:=hW.c;refine⟨?_⟩;simp only[fill];go_simp
   first | exact⟨LH.stp (Keeps.refl _ _),rfl⟩ | exact⟨LH.stp (Keeps.alloc _ _),rfl⟩
  simp only[addEnt];apply loosek_is 5 _ rfl
  ·intro W vals hW hkn
   clear hkn;have hC:=hW.c;refine⟨?_⟩;simp only[fill];go_simp
   first | exact⟨LH.stp (Keeps.refl _ _),rfl⟩ | exact⟨LH.stp (Keeps.alloc _ _),rfl⟩
  simp only[addEnt];apply loosek_is 6 _ rfl
  ·intro W vals hW hkn
   clear hkn;have hC:=hW.c;refine⟨?_⟩;simp only[fill];go_simp
   first | exact⟨LH.stp (Keeps.refl _ _),rfl⟩ | exact⟨LH.stp (Keeps.alloc _ _),rfl⟩
  simp only[addEnt];refine loosek_has 7 (fun v W' =>∃b,v= .pointer (some ⟨b,0,none⟩)∧W0.heap.size≤b∧Row W' b 56 shZC) rfl (fun W vals hW hkn φ' hφ=> ?_) ?_
  ·have hC:=hW.c
   simp only[knowsK]at hkn
   try simp only[and_true]at hkn
   clear hkn;refine⟨?_⟩;simp only[fill];go_simp;exact⟨LH.stp (Keeps.alloc _ _),hφ.out _ _ ⟨_,rfl,hC.size,Row.new _ _ _⟩⟩
  simp only[addEnt];refine loosek_has 8 (fun _ _=>True) rfl (fun W vals hW hkn φ' hφ=> ?_) ?_
  ·simp only[knowsK]at hkn
   try simp only[and_true]at hkn
   obtain⟨W1,q0,q1,B,hv,hB,hrow⟩:=hkn.1 (by decide);exact opOk_shStore (x:= .tmp 3) (y:= .tmp 11) (B:=B) (X:=shZC) (by kernel_rfl) rfl ((show _=vals 3 by kernel_rfl).trans hv) (by kernel_rfl) rfl (by simp[Value.oneCell']) hB (q1.a ⟨8, [], []⟩ (by simp) (.inr (.inr (.inl rfl))) _ hrow) (fun w' h=>⟨h,fun x hx hne=>by simp at hx;subst hx;exact absurd rfl hne⟩) (fun w' _ _=>hφ.out _ _ trivial)
  simp only[addEnt];refine loosek_nil (fun W9 vals hW hkn=> ?_);simp only[knowsAllK]at hkn
  try simp only[and_true]at hkn
  simp only[fill,Act.put,zsa,zsc,zsz];have HKW:=zh (HK.out.then_ (RelC.keeps hW));clear hkn hW LH
  go_wp2_with fail
  go_ret;exact⟨by rw[HCN.out];rfl,HKW.out⟩
 case pos=>
  have HLK:=zh (fun(W:World) (b:Nat) (h:ShAll W b)=>(show∃v,Sh W p.k.toNat v∧(Instr.lookup 57 (.map (some b)) (.int .i64 p.k) true).run Tryz.prog W= .ok (.tuple #[v,.bool true]) W from by
   rcases HKR.out W b h with⟨_,_,v,h1,h2⟩ | ⟨h1,_⟩
   ·exact⟨v,h1,h2⟩
   ·exact absurd hin h1))
  have HIN:=zh hin;obtain⟨m,hm0⟩:∃m,pkMay p=m:=⟨_,rfl⟩;obtain⟨z,hz0⟩:∃z,decide (pkAlone p=p)=z:=⟨_,rfl⟩;have HCC:=zh (show C=if(m && z)=true then 0 else 2 by
   rw[←HC.out,←hm0,←hz0];unfold chkV pkOk;rw[pkIn_iff.2 hin,Bool.true_and])
  have HMAY:=zh (show∀w9 i1 c1 i2 c2 fv wv i5 c5,PkK w9 p.k i1 c1 i2 c2 fv wv i5 c5→∀W,Keeps w9 W []→Keeps w W []→Calls Tryz.prog i1 (#[pkV p sw sc sf]++c1) W (TruePost W m)from by
   intro w9 i1 c1 i2 c2 fv wv i5 c5 K W hW hW0;rw[←hm0];exact K.may p sw sc sf W hW rfl hs (hl.keeps hW0) (hm.keeps hW0))
  have HHAS:=zh (show∀w9 i1 c1 i2 c2 fv wv i5 c5,PkK w9 p.k i1 c1 i2 c2 fv wv i5 c5→∀W,Keeps w9 W []→Keeps w W []→Calls Tryz.prog i2 (#[pkV p sw sc sf]++c2) W (PkHasPost W p sw sc sf)from by
   intro w9 i1 c1 i2 c2 fv wv i5 c5 K W hW hW0;exact K.has p sw sc sf W hW rfl (hl.keeps hW0))
  have HSAME:=zh (show∀W sw' sc' sf',Keeps w W []→PkL W (pkHas p) sw' sc' sf' →Calls Tryz.prog 17 #[pkV {pkHas p with k:=p.k} sw' sc' sf',pkV p sw sc sf] W (TruePost W z)from fun W sw' sc' sf' hW hl' =>by
   rw[←hz0,pkHas_back];refine pkSame_any (pkAlone p) p sw' sc' sf' sw sc sf W ?_ (hl.keeps hW) ?_
   ·rw[←pkHas_back]
    exact⟨hl'.lw,hl'.lc,hl'.lf⟩
   ·rw[←pkHas_back]
    exact pkHas_small hs)
  have HTN:=zh (show∀w9 v,Sh w9 p.k.toNat v→∃i1 c1 i2 c2 fv wv i5 c5,v= .agg #[.func (.func i1) #[] c1,.func (.func i2) #[] c2,fv,wv,.func (.func i5) #[] c5]∧PkK w9 p.k i1 c1 i2 c2 fv wv i5 c5 from fun _ _ h=>pkK hin h);have HKK:=zh (show({pkHas p with k:=p.k}:Pk)= {pkHas p with k:=p.k}from rfl);have HLA:=zh hl;clear HKK hl hs hm hin HKR HC HL hm0 hz0
  generalize p.k.toNat=kn at HLK HTN
  obtain⟨o,ho⟩:∃o,pkHas p=o:=⟨_,rfl⟩;have HPost:=zh (show∀W e w',PkHasPost W p sw sc sf e w' →∃A1 d1 A2 d2 A3 d3,e= .returned (.agg (zP 0 o.dup o.ret o.q o.t o.b o.id o.c o.cl o.keep o.hw o.wt o.wb o.wq o.wr o.hu o.hp o.u o.pw o.pr o.code (.slice A1 o.wants.length d1) (.slice A2 o.codes.length d2) (.slice A3 o.fs.length d3)))∧(∀W9,Keeps w W9 []→PkL W9 o (.slice A1 o.wants.length d1) (.slice A2 o.codes.length d2) (.slice A3 o.fs.length d3))∧Keeps W w' []from by
   rintro W e w' ⟨sw',sc',sf',h1,h2,h3⟩;rw[ho]at h1 h2;obtain⟨A1,d1,A2,d2,A3,d3,rfl,rfl,rfl⟩:=(h2 w HLA.out).slices;have hk0:o.k=0:=by rw[←ho];rfl
   refine⟨A1,d1,A2,d2,A3,d3, ?_,fun W9 hk9=>h2 W9 (HLA.out.keeps hk9),h3⟩;rw[h1,←hk0])
  rw[ho]at HSAME;clear ho HLA;obtain⟨k,dup,ret,q,t,b,id,c,cl,keep,hw,wt,wb,wq,wr,hu,hp,u,pw,pr,code,wants,codes,fs⟩:=p;simp only at HLK HMAY HHAS HSAME HTN HIN;obtain⟨W0,hW0⟩:∃W,(w).alloc (.cells (zP k dup ret q t b id c cl keep hw wt wb wq wr hu hp u pw pr code sw sc sf) 29)=W:=⟨_,rfl⟩;have k0:Keeps (w) W0 []:=by rw[←hW0];exact Keeps.alloc _ _
  have r0:Row W0 (w).heap.size 29 (zP k dup ret q t b id c cl keep hw wt wb wq wr hu hp u pw pr code sw sc sf):=by rw[←hW0];exact Row.new _ _ _
  have HP:=zh r0;have HK:=zh k0;clear k0 r0
  go_enter Tryz.func13,Tryz.ntmps13
  go_upto_region 1 with fail
  clear hW0;have LH:LightK [⟨8, [], []⟩] (RelC W0.heap.size) shA:=shLight;refine wp_region_writersL [⟨8, [], []⟩] (RelC W0.heap.size) (shA) _ 9 LH (by kernel_rfl) rfl (by kernel_rfl) ?_;simp only[zts,ztz,zds,zdz];refine loosek_has 0 (fun v W' =>∃b,v= .map (some b)∧ShAll W' b) rfl (fun W vals hW hkn φ' hφ=> ?_) ?_
  ·have hC:=hW.c
   simp only[knowsK]at hkn
   try simp only[and_true]at hkn
   clear hkn;refine⟨?_⟩;simp only[fill];go_simp;exact loosek_calls_has LH hφ ((pkShapes_any W).mono (by rintro e w2 ⟨b,rfl,hb,hk⟩;exact⟨_,rfl,hk,b,rfl,hb⟩))
  simp only[addEnt];apply loosek_is 1 _ rfl
  ·intro W vals hW hkn
   clear hkn;have hC:=hW.c;refine⟨?_⟩;simp only[fill];go_simp
   first | exact⟨LH.stp (Keeps.refl _ _),rfl⟩ | exact⟨LH.stp (Keeps.alloc _ _),rfl⟩
  simp only[addEnt];apply loosek_is 2 _ rfl
  ·intro W vals hW hkn
   have hC:=hW.c;simp only[knowsK]at hkn
   try simp only[and_true]at hkn
   clear hkn;have m0:=(hC.rows _ _ _ (.inl (by decide)) HP.out).cell 0;simp only[zga,zgz]at m0;refine⟨?_⟩;simp only[fill];go_simp
   first | exact⟨LH.stp (Keeps.refl _ _),rfl⟩ | exact⟨LH.stp (Keeps.alloc _ _),rfl⟩
  simp only[addEnt];refine loosek_has 3 (fun u W' =>∃v,u= .tuple #[v,.bool true]∧Sh W' kn v) rfl (fun W vals hW hkn φ' hφ=> ?_) ?_
  ·have hC:=hW.c
   simp only[knowsK]at hkn
   try simp only[and_true]at hkn
   (obtain⟨W1,q0,q1,bb,hv,hb⟩:=hkn (by decide);obtain⟨v,hsv,hlk⟩:=HLK.out W bb (q1.c.maps _ _ hb);clear hb q0 q1)
   refine⟨?_⟩;simp only[fill];go_simp;exact⟨LH.stp (Keeps.refl _ _),hφ.out _ _ ⟨v,rfl,hsv⟩⟩
  simp only[addEnt];refine loosek_has 4 (fun u W' =>∃v,u= .tuple #[v,.bool true]∧Sh W' kn v) rfl (fun W vals hW hkn φ' hφ=> ?_) ?_
  ·have hC:=hW.c
   simp only[knowsK]at hkn
   try simp only[and_true]at hkn
   (obtain⟨W1,q0,q1,v,hv,hsv⟩:=hkn.1 (by decide);have hsv:=q1.c.sh hsv;clear q0 q1)
   refine⟨?_⟩;simp only[fill];go_simp;exact⟨LH.stp (Keeps.refl _ _),hφ.out _ _ ⟨v,rfl,hsv⟩⟩
  simp only[addEnt];refine loosek_has 5 (fun u W' =>Sh W' kn u) rfl (fun W vals hW hkn φ' hφ=> ?_) ?_
  ·have hC:=hW.c
   simp only[knowsK]at hkn
   try simp only[and_true]at hkn
   (obtain⟨W1,q0,q1,v,hv,hsv⟩:=hkn.1 (by decide);have hsv:=q1.c.sh hsv;clear q0 q1)
   refine⟨?_⟩;simp only[fill];go_simp;exact⟨LH.stp (Keeps.refl _ _),hφ.out _ _ hsv⟩
  simp only[addEnt];apply loosek_is 6 _ rfl
  ·intro W vals hW hkn
   have hC:=hW.c;simp only[knowsK]at hkn
   try simp only[and_true]at hkn
   obtain⟨W1,q0,q1,v,hv,hsv⟩:=hkn.2.1 (by decide);clear q0 q1 hsv;refine⟨?_⟩;simp only[fill];go_simp
   first | exact⟨LH.stp (Keeps.refl _ _),rfl⟩ | exact⟨LH.stp (Keeps.alloc _ _),rfl⟩
  simp only[addEnt];refine loosek_has 7 (fun v W' =>∃b,v= .pointer (some ⟨b,0,none⟩)∧W0.heap.size≤b∧Row W' b 56 shZC) rfl (fun W vals hW hkn φ' hφ=> ?_) ?_
  ·have hC:=hW.c
   simp only[knowsK]at hkn
   try simp only[and_true]at hkn
   clear hkn;refine⟨?_⟩;simp only[fill];go_simp;exact⟨LH.stp (Keeps.alloc _ _),hφ.out _ _ ⟨_,rfl,hC.size,Row.new _ _ _⟩⟩
  simp only[addEnt];refine loosek_had 8 [3,11] (fun rd _ W' =>∃B X,rd= [.pointer (some ⟨B,0,none⟩),.agg X]∧W0.heap.size≤B∧Row W' B 56 X∧Sh W' kn (.agg X)) rfl (by kernel_rfl) (fun W vals hW hkn φ' hφ=> ?_) ?_
  ·simp only[knowsK]at hkn
   try simp only[and_true]at hkn
   obtain⟨W1,q0,q1,B,hv,hB,hrow⟩:=hkn.1 (by decide);obtain⟨W2,p0,p1,hsv⟩:=hkn.2.1 (by decide);have hsv:=p1.c.sh hsv;obtain⟨i1,c1,i2,c2,fv,wv,i5,c5,hv11,K⟩:=HTN.out _ _ hsv;have hone:(#[.func (.func i1) #[] c1,.func (.func i2) #[] c2,fv,wv,.func (.func i5) #[] c5]:Array Value).all (·.oneCell')=true:=by
    rcases K.fl with⟨e,_⟩ | ⟨_,_,e,_⟩ <;> rcases K.wr with⟨e',_⟩ | ⟨_,_,e',_⟩ <;> (subst e e';simp[Value.oneCell'])
   refine opOk_shStore (x:= .tmp 3) (y:= .tmp 11) (B:=B) (X:= #[.func (.func i1) #[] c1,.func (.func i2) #[] c2,fv,wv,.func (.func i5) #[] c5]) (by kernel_rfl) rfl ((show _=vals 3 by kernel_rfl).trans hv) ((show _=vals 11 by kernel_rfl).trans hv11) rfl hone hB (q1.a ⟨8, [], []⟩ (by simp) (.inr (.inr (.inl rfl))) _ hrow) (fun w' h=>⟨h,fun x hx hne=>by simp at hx;subst hx;exact absurd rfl hne⟩) (fun w' hrel hrw=>hφ.out _ _ ⟨B,_,by rw[List.map_cons,List.map_cons,List.map_nil,hv,hv11],hB,hrw, ?_⟩);rw[←hv11];exact hrel.sh hsv
  simp only[addEnt];refine loosek_nil (fun W9 vals hW hkn=> ?_);simp only[knowsAllK]at hkn
  try simp only[and_true]at hkn
  simp only[fill,Act.put,zsa,zsc,zsz];obtain⟨⟨_,W1,hc0,p1,B3,X,hrd,hB3,hrow,hsv0⟩,hrest⟩:=hkn;clear hrest hc0;have hsv:=p1.c.sh hsv0;clear hsv0;obtain⟨i1,c1,i2,c2,fv,wv,i5,c5,hX,K⟩:=HTN.out _ _ hsv;injection hX with hX
  subst hX;have HR3:=zh (p1.c.rows _ _ _ (.inr (by intro e;cases e)) hrow);have HKN:=zh K;have HKW:=zh (HK.out.then_ (RelC.keeps hW));have HPW:=zh (HP.out.keeps (RelC.keeps hW));injection hrd with e1 e2
  injection e2 with e2 e3
  rw[e1,e2];clear p1 hrow hsv hW LH e1 e2 e3 hB3 K
  go_upto_region 2 with fail
  have hr:=HKN.out.r1
  cases m with
  | false=>
   have HCM:=zh (show C=2 from HCC.out.trans (by simp));refine wp_region_line KeepsAll _ 8 rfl (by kernel_rfl) (by kernel_rfl) (fun _=>Keeps.refl _ _) (fun _ _ _ h k=>h.trans k (by simp)) ?_;simp only[zts,ztz,zds,zdz];refine lq (.bool true) ?_
   iterate 2
    refine lq (.bool false) ?_
   refine lq (.pointer (some ⟨B3,0,none⟩)) ?_;refine ll 30 (.tmp 16) (⟨B3,0,none⟩) (.func (.func i1) #[] c1) (fun W hW=>((HR3.out.keeps hW).cell 0).trans (by kernel_rfl)) ?_;refine lw 29 (.tmp 1) (w.heap.size) ((zL k dup ret q t b id c cl keep hw wt wb wq wr hu hp u pw pr code sw sc sf)) Tryz.underlying29 (fun W hW=>range_row (HPW.out.keeps hW)) ?_;refine loose_qv i1 (c1) (#[.agg (zP k dup ret q t b id c cl keep hw wt wb wq wr hu hp u pw pr code sw sc sf)]) (#[.agg (zP k dup ret q t b id c cl keep hw wt wb wq wr hu hp u pw pr code sw sc sf)]++c1) (.bool false) (by first | rfl | simp) rfl hr (fun _=>by kernel_rfl) (fun _ _=>by kernel_rfl) (fun W hW=>by have hh:=HMAY.out _ _ _ _ _ _ _ _ _ HKN.out W hW (HKW.out.then_ hW);exact hh) ?_;refine lq (.bool true) ?_;refine loose_nil (fun W vals hW hkn=> ?_);simp only[addEnt,knowsAll]at hkn
   try simp only[and_true]at hkn
   simp only[addEnt,fill,Act.put,zsa,zsc,zsz];clear hkn
   go_wp2_with fail
   go_ret;exact⟨by rw[HCM.out];rfl,HKW.out.then_ hW⟩
  | true=>
   refine wp_region_line KeepsAll _ 8 rfl (by kernel_rfl) (by kernel_rfl) (fun _=>Keeps.refl _ _) (fun _ _ _ h k=>h.trans k (by simp)) ?_;simp only[zts,ztz,zds,zdz];refine lq (.bool true) ?_
   iterate 2
    refine lq (.bool false) ?_
   refine lq (.pointer (some ⟨B3,0,none⟩)) ?_;refine ll 30 (.tmp 16) (⟨B3,0,none⟩) (.func (.func i1) #[] c1) (fun W hW=>((HR3.out.keeps hW).cell 0).trans (by kernel_rfl)) ?_;refine lw 29 (.tmp 1) (w.heap.size) ((zL k dup ret q t b id c cl keep hw wt wb wq wr hu hp u pw pr code sw sc sf)) Tryz.underlying29 (fun W hW=>range_row (HPW.out.keeps hW)) ?_;refine loose_qv i1 (c1) (#[.agg (zP k dup ret q t b id c cl keep hw wt wb wq wr hu hp u pw pr code sw sc sf)]) (#[.agg (zP k dup ret q t b id c cl keep hw wt wb wq wr hu hp u pw pr code sw sc sf)]++c1) (.bool true) (by first | rfl | simp) rfl hr (fun _=>by kernel_rfl) (fun _ _=>by kernel_rfl) (fun W hW=>by have hh:=HMAY.out _ _ _ _ _ _ _ _ _ HKN.out W hW (HKW.out.then_ hW);exact hh) ?_;refine lq (.bool false) ?_;refine loose_nil (fun W vals hW hkn=> ?_);simp only[addEnt,knowsAll]at hkn
   try simp only[and_true]at hkn
   simp only[addEnt,fill,Act.put,zsa,zsc,zsz];clear hkn;have HKV:=zh (HKW.out.then_ hW);have HR4:=zh (HR3.out.keeps hW);have HP4:=zh (HPW.out.keeps hW);have HK4:=zh hW;clear hW;clear hr
   go_upto_region 4 with fail
   have hr:=HKN.out.r2;refine wp_region_line KeepsAll _ 5 rfl (by kernel_rfl) (by kernel_rfl) (fun _=>Keeps.refl _ _) (fun _ _ _ h k=>h.trans k (by simp)) ?_;simp only[zts,ztz,zds,zdz];refine lq (.pointer (some ⟨B3,1,none⟩)) ?_;refine ll 51 (.tmp 22) (⟨B3,1,none⟩) (.func (.func i2) #[] c2) (fun W hW=>((HR4.out.keeps hW).cell 1).trans (by kernel_rfl)) ?_;refine lw 29 (.tmp 1) (w.heap.size) ((zL k dup ret q t b id c cl keep hw wt wb wq wr hu hp u pw pr code sw sc sf)) Tryz.underlying29 (fun W hW=>range_row (HP4.out.keeps hW)) ?_;refine loose_qvh i2 c2 #[.agg (zP k dup ret q t b id c cl keep hw wt wb wq wr hu hp u pw pr code sw sc sf)] (fun v W' =>∃A1 d1 A2 d2 A3 d3,v= .agg (zP 0 o.dup o.ret o.q o.t o.b o.id o.c o.cl o.keep o.hw o.wt o.wb o.wq o.wr o.hu o.hp o.u o.pw o.pr o.code (.slice A1 o.wants.length d1) (.slice A2 o.codes.length d2) (.slice A3 o.fs.length d3))∧(∀W9,Keeps w W9 []→PkL W9 o (.slice A1 o.wants.length d1) (.slice A2 o.codes.length d2) (.slice A3 o.fs.length d3))) rfl hr (fun _=>by kernel_rfl) (fun _ _=>by kernel_rfl) (fun W hW=>by
    have hh:=(HHAS.out _ _ _ _ _ _ _ _ _ HKN.out W (HK4.out.then_ hW) (HKV.out.then_ hW)).mono (fun e w' hpost=>HPost.out _ _ _ hpost);refine hh.mono ?_;intro e w' hq;obtain⟨A1,d1,A2,d2,A3,d3,h1,h2,h3⟩:=hq;exact⟨_,h1,h3,A1,d1,A2,d2,A3,d3,rfl,h2⟩) ?_
   refine loose_has (fun v W' =>∃b,v= .pointer (some ⟨b,0,none⟩)∧w.heap.size < b∧Row W' b 29 zP0) (fun W vals hW hkn φ' hφ=> ?_) ?_
   ·simp only[addEnt,knows]at hkn
    try simp only[and_true]at hkn
    clear hkn;refine⟨?_⟩;simp only[addEnt,fill];go_simp;exact looseUpon_value hφ (Keeps.alloc _ _) ⟨_,rfl,by have:=hW.size;have:=HP4.out.lt;omega,Row.new _ _ _⟩
   refine loose_nil (fun W vals hW hkn=> ?_);simp only[addEnt,knowsAll]at hkn
   try simp only[and_true]at hkn
   simp only[addEnt,fill,Act.put,zsa,zsc,zsz];obtain⟨⟨_,_,q1,B5,hv5,hB5,hrow5⟩,⟨_,_,q2,A1,d1,A2,d2,A3,d3,hv25,hpl⟩⟩:=hkn;rw[hv5,hv25];have HR5:=zh (hrow5.keeps q1);have HLO:=zh hpl;have HK5:=zh (HKV.out.then_ hW);have HP5:=zh (HP4.out.keeps hW);have HB5:=zh hB5;clear q1 q2 hv5 hv25 hrow5 hpl hW hB5;refine wpList_store_row rfl (.tmp 5) (.tmp 25) 29 rfl B5 (zP 0 o.dup o.ret o.q o.t o.b o.id o.c o.cl o.keep o.hw o.wt o.wb o.wq o.wr o.hu o.hp o.u o.pw o.pr o.code (.slice A1 o.wants.length d1) (.slice A2 o.codes.length d2) (.slice A3 o.fs.length d3)) zP0 HR5.out (by kernel_rfl) rfl (by simp[Value.oneCell']) rfl rfl ?_;intro w7 r7 k7;have HR7:=zh r7;have HP7:=zh (HP5.out.keep k7 (by have:=HB5.out;simp;omega));have HK7:=zh (HK5.out.trans k7 (fun x hx hlt=>by have:=HB5.out;simp at hx;omega));clear r7 k7;have x0:=HP7.out.cell 0;have y0:=HR7.out.cell 0;have f0:=HR7.out.frozen 0;simp only[zga,zgz]at x0 y0
   go_upto_region 6 with fail
   obtain⟨W8,hW8⟩:∃W8,w7.setCell ⟨B5,0,none⟩ (.int .i64 k)=W8:=⟨_,rfl⟩;have k8:Keeps w7 W8 [B5]:=by rw[←hW8];exact Keeps.setCell _ _ _
   have HR8:=zh (show Row W8 B5 29 (zP k o.dup o.ret o.q o.t o.b o.id o.c o.cl o.keep o.hw o.wt o.wb o.wq o.wr o.hu o.hp o.u o.pw o.pr o.code (.slice A1 o.wants.length d1) (.slice A2 o.codes.length d2) (.slice A3 o.fs.length d3))by rw[←hW8];exact HR7.out.store 0 _);have HP8:=zh (HP7.out.keep k8 (by have:=HB5.out;simp;omega));have HK8:=zh (HK7.out.trans k8 (fun x hx hlt=>by have:=HB5.out;simp at hx;omega));rw[hW8];clear hW8 k8 x0 y0 f0 hr
   cases z with
   | false=>
    have HCM:=zh (show C=2 from HCC.out.trans (by simp));refine wp_region_line KeepsAll _ 3 rfl (by kernel_rfl) (by kernel_rfl) (fun _=>Keeps.refl _ _) (fun _ _ _ h k=>h.trans k (by simp)) ?_;simp only[zts,ztz,zds,zdz];refine lw 29 (.tmp 5) (B5) ((zL k o.dup o.ret o.q o.t o.b o.id o.c o.cl o.keep o.hw o.wt o.wb o.wq o.wr o.hu o.hp o.u o.pw o.pr o.code (.slice A1 o.wants.length d1) (.slice A2 o.codes.length d2) (.slice A3 o.fs.length d3))) Tryz.underlying29 (fun W hW=>range_row (HR8.out.keeps hW)) ?_;refine lw 29 (.tmp 1) (w.heap.size) ((zL k dup ret q t b id c cl keep hw wt wb wq wr hu hp u pw pr code sw sc sf)) Tryz.underlying29 (fun W hW=>range_row (HP8.out.keeps hW)) ?_;refine loose_qc 17 (#[.agg (zP k o.dup o.ret o.q o.t o.b o.id o.c o.cl o.keep o.hw o.wt o.wb o.wq o.wr o.hu o.hp o.u o.pw o.pr o.code (.slice A1 o.wants.length d1) (.slice A2 o.codes.length d2) (.slice A3 o.fs.length d3)),.agg (zP k dup ret q t b id c cl keep hw wt wb wq wr hu hp u pw pr code sw sc sf)]) (.bool false) (fun _=>by kernel_rfl) (fun _ _=>by kernel_rfl) (fun W hW=>by have hh:=HSAME.out W _ _ _ (HK8.out.then_ hW) (HLO.out _ (HK8.out.then_ hW));exact hh) ?_;refine loose_nil (fun W vals hW hkn=> ?_);simp only[addEnt,knowsAll]at hkn
    try simp only[and_true]at hkn
    simp only[addEnt,fill,Act.put,zsa,zsc,zsz];clear hkn
    go_wp2_with fail
    go_ret;exact⟨by rw[HCM.out];rfl,HK8.out.then_ hW⟩
   | true=>
    have HCM:=zh (show C=0 from HCC.out.trans (by simp));refine wp_region_line KeepsAll _ 3 rfl (by kernel_rfl) (by kernel_rfl) (fun _=>Keeps.refl _ _) (fun _ _ _ h k=>h.trans k (by simp)) ?_;simp only[zts,ztz,zds,zdz];refine lw 29 (.tmp 5) (B5) ((zL k o.dup o.ret o.q o.t o.b o.id o.c o.cl o.keep o.hw o.wt o.wb o.wq o.wr o.hu o.hp o.u o.pw o.pr o.code (.slice A1 o.wants.length d1) (.slice A2 o.codes.length d2) (.slice A3 o.fs.length d3))) Tryz.underlying29 (fun W hW=>range_row (HR8.out.keeps hW)) ?_;refine lw 29 (.tmp 1) (w.heap.size) ((zL k dup ret q t b id c cl keep hw wt wb wq wr hu hp u pw pr code sw sc sf)) Tryz.underlying29 (fun W hW=>range_row (HP8.out.keeps hW)) ?_;refine loose_qc 17 (#[.agg (zP k o.dup o.ret o.q o.t o.b o.id o.c o.cl o.keep o.hw o.wt o.wb o.wq o.wr o.hu o.hp o.u o.pw o.pr o.code (.slice A1 o.wants.length d1) (.slice A2 o.codes.length d2) (.slice A3 o.fs.length d3)),.agg (zP k dup ret q t b id c cl keep hw wt wb wq wr hu hp u pw pr code sw sc sf)]) (.bool true) (fun _=>by kernel_rfl) (fun _ _=>by kernel_rfl) (fun W hW=>by have hh:=HSAME.out W _ _ _ (HK8.out.then_ hW) (HLO.out _ (HK8.out.then_ hW));exact hh) ?_;refine loose_nil (fun W vals hW hkn=> ?_);simp only[addEnt,knowsAll]at hkn
    try simp only[and_true]at hkn
    simp only[addEnt,fill,Act.put,zsa,zsc,zsz];clear hkn
    go_wp2_with fail
    go_ret;exact⟨by rw[HCM.out];rfl,HK8.out.then_ hW⟩
end Go.Proofs.YtahbikfbjenfpaaGreatDoor
