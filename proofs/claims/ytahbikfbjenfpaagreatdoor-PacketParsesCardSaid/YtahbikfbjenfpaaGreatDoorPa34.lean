/- Package packet: what is known of a kind's shape. Package packet: what is known of the shapes that have an ID; of any shape. Package packet: Check. -/
import Derived.Test.YtahbikfbjenfpaaGreatDoorPa33
set_option maxHeartbeats 4000000
set_option maxRecDepth 100000
namespace Go.Proofs.YtahbikfbjenfpaaGreatDoor
open Tryz Go.RowKit Go.Maps

section
variable {P:Program} {w0:au} {ops:Array Oper} {a0:Act} {Q:List fQ->Prop} {o:Oper} {rest:List Oper} {env:List fQ}
/-- A call of a function that is no constant, of whose answer something is known. -/
theorem Fq (i:FuncId)(cap args:Array Value)(φ:Value->au->Prop){c:Call}(ho:o.op= .call c)(hr:∀(args:Array Value) (w:au),(callFunc i args).run P w= .ok (.enter i args) w)(hw:∀vals:Tmp->Value,Region.wanted o (yielded ops (fill vals env a0).tmps)=true)
  (he:∀(W:au) (vals:Tmp->Value),(resolve (fill vals env a0).eval c o.type).run P W= .ok {target:= .fn (.func i) cap,args:=args} W)
  (hc:∀W,ax w0 W->Calls P i (args++cap) W λe w' =>∃v,e= .returned v/\ae W w' []/\φ v w')
  (hk:ba P ax w0 ops a0 Q rest (af o.dst none [] (λ_=>φ) env)):ba P ax w0 ops a0 Q (o::rest) env:=
 bH φ (λW vals hW _ φ' hφ=>⟨by
  rw[aE (hw vals)];have e:(execOp (fill vals env a0).eval o).run P W= .ok (.enter i (args++cap)) W:=by
   unfold execOp;simp only[ho,fo,he,fk];exact hr _ _
  rw[e];exact aC ((hc W hW).mono λe w' ⟨v,h1,h2,h3⟩=>⟨v,h1,h2,hφ.o _ _ h3⟩)⟩) hk
/-- The same, at an operation that is walked. -/
theorem kG {Q:Exit->Act->au->Prop}{a:Act}{w:au}(i:FuncId)(cap args:Array Value){c:Call}(hg:o.guard=none)(ho:o.op= .call c)(hr:∀(args:Array Value) (w:au),(callFunc i args).run P w= .ok (.enter i args) w)
  (he:(resolve a.eval c o.type).run P w= .ok {target:= .fn (.func i) cap,args:=args} w)
  (hc:Calls P i (args++cap) w λe w' =>(∃v,e= .returned v/\wpList P ops Q rest (a.put o.dst v) w')\/(∃ps,e= .panicked ps/\Q (.panic ps) a w')):wpList P ops Q (o::rest) a w:=by
 refine tV hg λK hK=> ?_
 unfold Oper.wp;have e:(execOp a.eval o).run P w= .ok (.enter i (args++cap)) w:=by
  unfold execOp;simp only[ho,fo,he,fk];exact hr _ _
 rw[e];refine hc.mono ?_;rintro e w' (⟨v,rfl,h⟩ | ⟨ps,rfl,h⟩)
 ·exact hK _ _ h
 ·exact h
end
def lK (p:Pk):aG:=if p.k=3 then aO p.t++dB (decide (0 < p.q)) (bA p.id)else bg p
theorem xT {p:Pk}(h:fD p=true):bg p=lK p++p.b:=by
 unfold lK
 by_cases e:p.k=3
 ·rw[aE e,yX e,eK]
 ·have h3:=(bF h).2.2
  have hb:p.b= []:=by
   rw[<-h3];unfold aL
   rcases jl (bF h).1 with e | e | e | e | e | e | e | e
   ·rw[aE e];rfl
   ·rw[aj (by omega),aE e];rfl
   ·omega
   ·rw[aj (by omega),aj (by omega),aj (by omega),aE e];rfl
   ·rw[aj (by omega),aj (by omega),aj (by omega),aj (by omega),aE e];rfl
   ·rw[aj (by omega),aj (by omega),aj (by omega),aj (by omega),aj (by omega),aE e];rfl
   ·rw[aj (by omega),aj (by omega),aj (by omega),aj (by omega),aj (by omega),aj (by omega),aE e];rfl
   ·rw[aj (by omega),aj (by omega),aj (by omega),aj (by omega),aj (by omega),aj (by omega),aj (by omega)];rfl
  rw[aj e,hb,dJ]
abbrev Enters (i:FuncId):Prop:=∀(args:Array Value) (w:au),(callFunc i args).run prog w= .ok (.enter i args) w
/-- What is known of a kind's shape. -/
structure Cd (w:au)(k:Int)(i1:FuncId)(c1:Array Value)(i2:FuncId)(c2:Array Value)(fv wv:Value)(i5:FuncId)(c5:Array Value):Prop where
 r1:Enters i1
 r2:Enters i2
 r5:Enters i5
 may:∀(p:Pk) (sw sc sf:Value) (W:au),ae w W []->p.k=k->rl p->fR W p sw sc sf->lG W->Calls prog i1 (#[eO p sw sc sf]++c1) W (aJ W (cK p))
 has:∀(p:Pk) (sw sc sf:Value) (W:au),ae w W []->p.k=k->fR W p sw sc sf->Calls prog i2 (#[eO p sw sc sf]++c2) W (gj W p sw sc sf)
 read:∀(W:au) (base r f:Nat) (l:aG),ae w W []->Rd W base r l->l.length<=100000->f < 16->Calls prog i5 (#[.agg #[.pointer (some ⟨r,0,none⟩)],.int .i64 (f:Nat)]++c5) W (ni W base r (kg k f l))
 fl:(fv= .nilFunc/\∀p:Pk,p.k=k->kM p=0)\/(∃i c,fv= .func (.func i) #[] c/\Enters i/\∀(p:Pk) (sw sc sf:Value) (W:au),ae w W []->p.k=k->(k=3->0<=p.q/\p.q<=3)->Calls prog i (#[eO p sw sc sf]++c) W λe w' =>e= .returned (.int .i64 (kM p:Nat))/\ae W w' [])
 wr:(wv= .nilFunc/\∀p:Pk,p.k=k->lK p= [])\/(∃i c,wv= .func (.func i) #[] c/\Enters i/\∀(p:Pk) (sw sc sf:Value) (w0 W:au) (r:Nat),ae w W []->p.k=k->fD p=true->fR w0 p sw sc sf->iM w0 W r []->Calls prog i (#[.pointer (some ⟨r,0,none⟩),eO p sw sc sf]++c) W (lE w0 W r (lK p)))
theorem sN (x:Value): #[x]++(#[]:Array Value)= #[x]:=by simp
theorem lD (x y:Value): #[x]++ #[y]= #[x,y]:=by simp
theorem wu (x y:Value): #[x,y]++(#[]:Array Value)= #[x,y]:=by simp
theorem qK (x y z:Value): #[x,y]++ #[z]= #[x,y,z]:=by simp
theorem QG (w:au):Cd w 1 125 #[] 128 #[] .nilFunc (bG 129) 131 #[] where
 r1 _ _:=by kernel_rfl
 r2 _ _:=by kernel_rfl
 r5 _ _:=by kernel_rfl
 may p sw sc sf W _ hk hs _ _:=by rw[sN];exact CY p sw sc sf W hk hs
 has p sw sc sf W _ hk hl:=by rw[sN];exact A8 p sw sc sf W hk hl
 read W base r f l _ h _ _:=by rw[wu];exact E9 W base r f l h
 fl:= .inl ⟨rfl,λp hk=>by unfold kM;rw[aj (by omega),aj (by omega)]⟩
 wr:= .inr ⟨_,_,rfl,λ_ _=>by kernel_rfl,λp sw sc sf w0 W r _ hk ho _ h=>by
  rw[wu];have:=EX p sw sc sf w0 W r [] h hk (nR hk (bF ho).2.1) (by simp)
  rwa [jD,show bg p=lK p by unfold lK;rw[aj (by omega)]]at this⟩
theorem QF (w:au):Cd w 2 51 #[] 53 #[] .nilFunc (bG 54) 57 #[] where
 r1 _ _:=by kernel_rfl
 r2 _ _:=by kernel_rfl
 r5 _ _:=by kernel_rfl
 may p sw sc sf W _ hk _ _ _:=by rw[sN];exact CX p sw sc sf W hk
 has p sw sc sf W _ hk hl:=by rw[sN];exact AZ p sw sc sf W hk hl
 read W base r f l _ h _ _:=by
  rw[wu];have:=E8 W base r f l h
  rwa [show lj l=kg 2 f l from rfl]at this
 fl:= .inl ⟨rfl,λp hk=>by unfold kM;rw[aj (by omega),aj (by omega)]⟩
 wr:= .inr ⟨_,_,rfl,λ_ _=>by kernel_rfl,λp sw sc sf w0 W r _ hk ho _ h=>by
  rw[wu];have:=EW p sw sc sf w0 W r [] h hk (pX hk (bF ho).2.1) (by simp)
  rwa [jD,show bg p=lK p by unfold lK;rw[aj (by omega)]]at this⟩
theorem QE (w:au):Cd w 3 132 #[] 133 #[] (bG 134) (bG 136) 137 #[] where
 r1 _ _:=by kernel_rfl
 r2 _ _:=by kernel_rfl
 r5 _ _:=by kernel_rfl
 may p sw sc sf W _ hk hs _ _:=by rw[sN];exact CW p sw sc sf W hk hs
 has p sw sc sf W _ hk hl:=by rw[sN];exact AY p sw sc sf W hk hl
 read W base r f l _ h hl hf:=by
  rw[wu];have:=E0 W base r f l h hl hf
  rwa [show mh f l=kg 3 f l from rfl]at this
 fl:= .inr ⟨_,_,rfl,λ_ _=>by kernel_rfl,λp sw sc sf W _ hk hq=>by
  rw[sN,show kM p=jq p by unfold kM;rw[aE hk]];exact yT p sw sc sf W (hq rfl)⟩
 wr:= .inr ⟨_,_,rfl,λ_ _=>by kernel_rfl,λp sw sc sf w0 W r _ hk ho _ h=>by
  rw[wu];have f3:=jN hk (bF ho).2.1;have:=EV p sw sc sf w0 W r [] h hk ⟨f3.1,f3.2.2.2.1⟩ (by simp)
  rwa [jD,show aO p.t++dB (decide (0 < p.q)) (bA p.id)=lK p by unfold lK;rw[aE hk]]at this⟩
theorem NI (w:au){k:Int}(wZ:k=12\/k=13\/k=14):Cd w k 48 #[] 49 #[] .nilFunc .nilFunc 50 #[] where
 r1 _ _:=by kernel_rfl
 r2 _ _:=by kernel_rfl
 r5 _ _:=by kernel_rfl
 may p sw sc sf W _ hk _ _ _:=by
  rw[sN,show cK p=true by unfold cK;rw[aj (by omega),aj (by omega),aj (by omega),aj (by omega),aj (by omega),aj (by omega),aE (by omega)]];exact Ff p sw sc sf W
 has p sw sc sf W _ hk hl:=by rw[sN];exact yQ p sw sc sf W (by rw[hk];exact wZ) hl
 read W base r f l _ h _ _:=by rw[wu];exact yP W base r k f l h wZ
 fl:= .inl ⟨rfl,λp hk=>by unfold kM;rw[aj (by omega),aj (by omega)]⟩
 wr:= .inl ⟨rfl,λp hk=>by unfold lK;rw[aj (by omega),Ba (by rw[hk];exact wZ)]⟩

theorem QB {w:au}{b1 b2 b3 b4 b5:Nat}(h:(Row w b1 30 #[bG 61]/\Row w b2 51 #[bG 60]/\Row w b3 3 #[.int .i64 2])/\Row w b4 53 #[bG 66]/\Row w b5 110 #[bG 68]):
  Cd w 8 109 #[.pointer (some ⟨b1,0,none⟩)] 110 #[.pointer (some ⟨b2,0,none⟩)] (a_ 111 b3) (a_ 112 b4) 113 #[.pointer (some ⟨b5,0,none⟩)] where
 r1 _ _:=by kernel_rfl
 r2 _ _:=by kernel_rfl
 r5 _ _:=by kernel_rfl
 may p sw sc sf W hW hk hs hl hm:=by
  rw[lD];exact iR p sw sc sf W 61 b1 (by omega) (λ_ _=>by kernel_rfl) (h.1.1.keeps hW) λW2 kq=>CT p sw sc sf W2 hk hs (hl.keeps kq) (hm.keeps kq)
 has p sw sc sf W hW hk hl:=by rw[lD];exact AX p sw sc sf W hk hl b2 (h.1.2.1.keeps hW)
 read W base r f l hW hr hl _:=by
  rw[qK,eV (by omega)];exact jo W base r b5 8 f l 68 hr hl (λ_ _=>by kernel_rfl) (h.2.2.keeps hW) λW2 g id t hg ht h1 h2=>Fl W2 base r g id t h1 hg ht h2
 fl:= .inr ⟨_,_,rfl,λ_ _=>by kernel_rfl,λp sw sc sf W hW hk _=>by
  rw[lD,show((kM p:Nat):Int)=2 by unfold kM;rw[aj (by omega),aE (by omega)];rfl];exact gN p sw sc sf W 2 b3 (h.1.2.2.keeps hW)⟩
 wr:= .inr ⟨_,_,rfl,λ_ _=>by kernel_rfl,λp sw sc sf w0 W r hW hk ho hl rA=>by
  rw[qK];have ff:=nP hk (bF ho).2.1;have:=jm p sw sc sf w0 W r [] (p.wants.flatMap λw=>aO w.1++aX w.2.toNat) 66 b4 rA (by omega) (by omega) (by simp) (λ_ _=>by kernel_rfl) (h.2.1.keeps hW) (λW2 l' hw2 hl2=>by have hh:=ET p sw sc sf w0 W2 r l' hw2 hl hk ⟨ff.2.2.1,ff.2.2.2⟩ hl2;exact hh)
  rwa [jD,show bA p.id++(p.wants.flatMap λw=>aO w.1++aX w.2.toNat)=lK p by unfold lK;rw[aj (by omega),uL hk]]at this⟩

theorem QA {w:au}{b1 b2 b3 b4 b5:Nat}(h:(Row w b1 30 #[bG 73]/\Row w b2 51 #[bG 72]/\Row w b3 3 #[.int .i64 0])/\Row w b4 53 #[bG 76]/\Row w b5 110 #[bG 77]):
  Cd w 9 109 #[.pointer (some ⟨b1,0,none⟩)] 110 #[.pointer (some ⟨b2,0,none⟩)] (a_ 111 b3) (a_ 112 b4) 113 #[.pointer (some ⟨b5,0,none⟩)] where
 r1 _ _:=by kernel_rfl
 r2 _ _:=by kernel_rfl
 r5 _ _:=by kernel_rfl
 may p sw sc sf W hW hk hs hl hm:=by
  rw[lD];exact iR p sw sc sf W 73 b1 (by omega) (λ_ _=>by kernel_rfl) (h.1.1.keeps hW) λW2 kq=>CP p sw sc sf W2 hk hs (hl.keeps kq)
 has p sw sc sf W hW hk hl:=by rw[lD];exact AW p sw sc sf W hk hl b2 (h.1.2.1.keeps hW)
 read W base r f l hW hr hl _:=by
  rw[qK,eV (by omega)];exact jo W base r b5 9 f l 77 hr hl (λ_ _=>by kernel_rfl) (h.2.2.keeps hW) λW2 g id t hg ht h1 h2=>Fk W2 base r g id t h1 hg ht h2
 fl:= .inr ⟨_,_,rfl,λ_ _=>by kernel_rfl,λp sw sc sf W hW hk _=>by
  rw[lD,show((kM p:Nat):Int)=0 by unfold kM;rw[aj (by omega),aj (by omega)];rfl];exact gN p sw sc sf W 0 b3 (h.1.2.2.keeps hW)⟩
 wr:= .inr ⟨_,_,rfl,λ_ _=>by kernel_rfl,λp sw sc sf w0 W r hW hk ho hl rA=>by
  rw[qK];have ff:=nO hk (bF ho).2.1;have:=jm p sw sc sf w0 W r [] (p.aF.flatMap λc=>aX c.toNat) 76 b4 rA (by omega) (by omega) (by simp) (λ_ _=>by kernel_rfl) (h.2.1.keeps hW) (λW2 l' hw2 hl2=>ES p sw sc sf w0 W2 r l' hw2 hl hk ⟨ff.2.2.1,ff.2.2.2⟩ hl2)
  rwa [jD,show bA p.id++(p.aF.flatMap λc=>aX c.toNat)=lK p by unfold lK;rw[aj (by omega),uK hk]]at this⟩

theorem NJ {w:au}{b1 b2 b3 b4 b5:Nat}(h:(Row w b1 30 #[bG 81]/\Row w b2 51 #[bG 80]/\Row w b3 3 #[.int .i64 2])/\Row w b4 53 #[bG 83]/\Row w b5 110 #[bG 84]):
  Cd w 10 109 #[.pointer (some ⟨b1,0,none⟩)] 110 #[.pointer (some ⟨b2,0,none⟩)] (a_ 111 b3) (a_ 112 b4) 113 #[.pointer (some ⟨b5,0,none⟩)] where
 r1 _ _:=by kernel_rfl
 r2 _ _:=by kernel_rfl
 r5 _ _:=by kernel_rfl
 may p sw sc sf W hW hk hs hl hm:=by
  rw[lD];exact iR p sw sc sf W 81 b1 (by omega) (λ_ _=>by kernel_rfl) (h.1.1.keeps hW) λW2 kq=>AU p sw sc sf W2 hk hs (hl.keeps kq) (hm.keeps kq)
 has p sw sc sf W hW hk hl:=by rw[lD];exact yR p sw sc sf W hk hl b2 (h.1.2.1.keeps hW)
 read W base r f l hW hr hl _:=by
  rw[qK,eV (by omega)];exact jo W base r b5 10 f l 84 hr hl (λ_ _=>by kernel_rfl) (h.2.2.keeps hW) λW2 g id t hg ht h1 h2=>CZ W2 base r g id t h1 hg ht h2
 fl:= .inr ⟨_,_,rfl,λ_ _=>by kernel_rfl,λp sw sc sf W hW hk _=>by
  rw[lD,show((kM p:Nat):Int)=2 by unfold kM;rw[aj (by omega),aE (by omega)];rfl];exact gN p sw sc sf W 2 b3 (h.1.2.2.keeps hW)⟩
 wr:= .inr ⟨_,_,rfl,λ_ _=>by kernel_rfl,λp sw sc sf w0 W r hW hk ho hl rA=>by
  rw[qK];have ff:=lp hk (bF ho).2.1;have:=jm p sw sc sf w0 W r [] (p.fs.flatMap aO) 83 b4 rA (by omega) (by omega) (by simp) (λ_ _=>by kernel_rfl) (h.2.1.keeps hW) (λW2 l' hw2 hl2=>Cw p sw sc sf w0 W2 r l' hw2 hl hk ⟨ff.2.2.1,ff.2.2.2⟩ hl2)
  rwa [jD,show bA p.id++(p.fs.flatMap aO)=lK p by unfold lK;rw[aj (by omega),sm hk]]at this⟩

theorem QD {w:au}{b1 b2 b3 b4 b5:Nat}{k:Int}(wZ:k=4\/k=5\/k=7\/k=11)(h:(Row w b1 30 #[bG 140]/\Row w b2 51 #[bG 139]/\Row w b3 3 #[.int .i64 0])/\Row w b4 53 #[bG 141]/\Row w b5 110 #[bG 142]):
  Cd w k 109 #[.pointer (some ⟨b1,0,none⟩)] 110 #[.pointer (some ⟨b2,0,none⟩)] (a_ 111 b3) (a_ 112 b4) 113 #[.pointer (some ⟨b5,0,none⟩)] where
 r1 _ _:=by kernel_rfl
 r2 _ _:=by kernel_rfl
 r5 _ _:=by kernel_rfl
 may p sw sc sf W hW hk hs hl hm:=by
  rw[lD];exact iR p sw sc sf W 140 b1 (by omega) (λ_ _=>by kernel_rfl) (h.1.1.keeps hW) λW2 kq=>vM p sw sc sf W2 (by omega)
 has p sw sc sf W hW hk hl:=by rw[lD];exact ui p sw sc sf W (by omega) hl b2 (h.1.2.1.keeps hW)
 read W base r f l hW hr hl _:=by
  rw[qK,eV (by omega)];exact jo W base r b5 k f l 142 hr hl (λ_ _=>by kernel_rfl) (h.2.2.keeps hW) λW2 g id t hg ht h1 h2=>uh W2 base r g k id t (by omega) h1 h2
 fl:= .inr ⟨_,_,rfl,λ_ _=>by kernel_rfl,λp sw sc sf W hW hk _=>by
  rw[lD,show((kM p:Nat):Int)=0 by unfold kM;rw[aj (by omega),aj (by omega)];rfl];exact gN p sw sc sf W 0 b3 (h.1.2.2.keeps hW)⟩
 wr:= .inr ⟨_,_,rfl,λ_ _=>by kernel_rfl,λp sw sc sf w0 W r hW hk ho hl rA=>by
  rw[qK];have ff:=nQ (p:=p) (by omega) (bF ho).2.1;have:=jm p sw sc sf w0 W r [] [] 141 b4 rA (by omega) (by omega) (by simp) (λ_ _=>by kernel_rfl) (h.2.1.keeps hW) (λW2 l' hw2 hl2=>(by rw[dJ];exact uf p sw sc sf w0 W2 r l' hw2))
  rwa [jD,show bA p.id++ []=lK p by unfold lK;rw[aj (by omega),sj (by omega),dJ]]at this⟩

theorem QC {w:au}{b1 b2 b3 b4 b5:Nat}{k:Int}(wZ:k=6)(h:(Row w b1 30 #[bG 140]/\Row w b2 51 #[bG 139]/\Row w b3 3 #[.int .i64 2])/\Row w b4 53 #[bG 141]/\Row w b5 110 #[bG 142]):
  Cd w k 109 #[.pointer (some ⟨b1,0,none⟩)] 110 #[.pointer (some ⟨b2,0,none⟩)] (a_ 111 b3) (a_ 112 b4) 113 #[.pointer (some ⟨b5,0,none⟩)] where
 r1 _ _:=by kernel_rfl
 r2 _ _:=by kernel_rfl
 r5 _ _:=by kernel_rfl
 may p sw sc sf W hW hk hs hl hm:=by
  rw[lD];exact iR p sw sc sf W 140 b1 (by omega) (λ_ _=>by kernel_rfl) (h.1.1.keeps hW) λW2 kq=>vM p sw sc sf W2 (by omega)
 has p sw sc sf W hW hk hl:=by rw[lD];exact ui p sw sc sf W (by omega) hl b2 (h.1.2.1.keeps hW)
 read W base r f l hW hr hl _:=by
  rw[qK,eV (by omega)];exact jo W base r b5 k f l 142 hr hl (λ_ _=>by kernel_rfl) (h.2.2.keeps hW) λW2 g id t hg ht h1 h2=>uh W2 base r g k id t (by omega) h1 h2
 fl:= .inr ⟨_,_,rfl,λ_ _=>by kernel_rfl,λp sw sc sf W hW hk _=>by
  rw[lD,show((kM p:Nat):Int)=2 by unfold kM;rw[aj (by omega),aE (by omega)];rfl];exact gN p sw sc sf W 2 b3 (h.1.2.2.keeps hW)⟩
 wr:= .inr ⟨_,_,rfl,λ_ _=>by kernel_rfl,λp sw sc sf w0 W r hW hk ho hl rA=>by
  rw[qK];have ff:=nQ (p:=p) (by omega) (bF ho).2.1;have:=jm p sw sc sf w0 W r [] [] 141 b4 rA (by omega) (by omega) (by simp) (λ_ _=>by kernel_rfl) (h.2.1.keeps hW) (λW2 l' hw2 hl2=>(by rw[dJ];exact uf p sw sc sf w0 W2 r l' hw2))
  rwa [jD,show bA p.id++ []=lK p by unfold lK;rw[aj (by omega),sj (by omega),dJ]]at this⟩

/-- Any kind's shape. -/
theorem NK {w:au}{k:Int}{v:Value}(hk:1<=k/\k<=14)(h:Sh w k.toNat v):∃i1 c1 i2 c2 fv wv i5 c5,v= .agg #[.func (.func i1) #[] c1,.func (.func i2) #[] c2,fv,wv,.func (.func i5) #[] c5]/\Cd w k i1 c1 i2 c2 fv wv i5 c5:=by
 obtain⟨j,rfl⟩:∃j:Nat,k=(j:Int):=⟨k.toNat,by omega⟩;rw[fT]at h;unfold Sh at h
 by_cases e:j=1
 ·subst e;subst h;exact⟨_,_,_,_,_,_,_,_,rfl,QG w⟩
 rw[aj e]at h
 by_cases e:j=2
 ·subst e;subst h;exact⟨_,_,_,_,_,_,_,_,rfl,QF w⟩
 rw[aj e]at h
 by_cases e:j=3
 ·subst e;subst h;exact⟨_,_,_,_,_,_,_,_,rfl,QE w⟩
 rw[aj e]at h
 by_cases e:j=8
 ·subst e
  obtain⟨b1,b2,b3,b4,b5,rfl,hh⟩:=h;exact⟨_,_,_,_,_,_,_,_,rfl,QB hh⟩
 rw[aj e]at h
 by_cases e:j=9
 ·subst e
  obtain⟨b1,b2,b3,b4,b5,rfl,hh⟩:=h;exact⟨_,_,_,_,_,_,_,_,rfl,QA hh⟩
 rw[aj e]at h
 by_cases e:j=10
 ·subst e
  obtain⟨b1,b2,b3,b4,b5,rfl,hh⟩:=h;exact⟨_,_,_,_,_,_,_,_,rfl,NJ hh⟩
 rw[aj e]at h
 by_cases e:j=12\/j=13\/j=14
 ·rw[aE e]at h
  subst h;exact⟨_,_,_,_,_,_,_,_,rfl,NI w (by omega)⟩
 rw[aj e]at h
 by_cases e:j=6
 ·rw[aE e]at h
  obtain⟨b1,b2,b3,b4,b5,rfl,hh⟩:=h;exact⟨_,_,_,_,_,_,_,_,rfl,QC (by omega) hh⟩
 rw[aj e]at h;obtain⟨b1,b2,b3,b4,b5,rfl,hh⟩:=h;exact⟨_,_,_,_,_,_,_,_,rfl,QD (by omega) hh⟩

theorem cW.keeps {w w' :au}{b:Nat}{S:List Nat}(h:cW w b S)(hk:ae w w' []):cW w' b S:=(mF.of (n0:=0) hk).maps b S (Nat.zero_le _) h
def xe (p:Pk):Int:=if fD p=true then 0 else 2
theorem AV {p:Pk}(h:rl p):(fG p).wants.length<=1000000/\(fG p).aF.length<=1000000/\(fG p).fs.length<=1000000:=by
 have h1:=h.wants.1;have h2:=h.aF;have h3:=h.fs.1;unfold fG aL
 split
 ·simp[bN]
 ·split
  ·simp[bN]
  ·split
   ·simp[bN]
   ·split
    ·simp[bN];omega
    ·split
     ·simp[bN];omega
     ·split
      ·simp[bN];omega
      ·split <;> simp[bN]
theorem qc {p:Pk}(h:fD p=false):xe p=2:=by unfold xe;rw[h];rfl
theorem pM {p:Pk}(h:fD p=true):xe p=0:=by unfold xe;rw[h];rfl
abbrev tu:Array Value:= #[.nilFunc,.nilFunc,.nilFunc,.nilFunc,.nilFunc]
/-- What no operation of it changes: all but a shape that is still nothing. -/
structure jy (n0:Nat)(w w' :au):Prop where
 os:w'.os=w.os
 tape:w'.tape=w.tape
 output:w'.output=w.output
 size:w.heap.size<=w'.heap.size
 block:∀k,k < n0->k < w.heap.size->w'.heap[k]? =w.heap[k]?
 rows:∀b t cs,(56≠t\/cs≠tu)->Row w b t cs->Row w' b t cs
 maps:∀b S,cW w b S->cW w' b S
theorem oD.tZ {w w' :au}{fl:Int}{hs my wr rd:FuncId}{v:Value}(h:oD w fl hs my wr rd v)(hk:∀b t cs,56≠t->Row w b t cs->Row w' b t cs):oD w' fl hs my wr rd v:=by
 obtain⟨b1,b2,b3,b4,b5,e,⟨h1,h2,h3⟩,h4,h5⟩:=h;exact⟨b1,b2,b3,b4,b5,e,⟨hk _ _ _ (by decide) h1,hk _ _ _ (by decide) h2,hk _ _ _ (by decide) h3⟩,hk _ _ _ (by decide) h4,hk _ _ _ (by decide) h5⟩
theorem Sh.tZ {w w' :au}{k:Nat}{v:Value}(h:Sh w k v)(hk:∀b t cs,56≠t->Row w b t cs->Row w' b t cs):Sh w' k v:=by
 unfold Sh at h ⊢
 split
 ·rename_i e;rw[aE e]at h;exact h
 rename_i e1;rw[aj e1]at h
 split
 ·rename_i e;rw[aE e]at h;exact h
 rename_i e2;rw[aj e2]at h
 split
 ·rename_i e;rw[aE e]at h;exact h
 rename_i e3;rw[aj e3]at h
 split
 ·rename_i e;rw[aE e]at h;exact oD.tZ h hk
 rename_i e4;rw[aj e4]at h
 split
 ·rename_i e;rw[aE e]at h;exact oD.tZ h hk
 rename_i e5;rw[aj e5]at h
 split
 ·rename_i e;rw[aE e]at h;exact oD.tZ h hk
 rename_i e6;rw[aj e6]at h
 split
 ·rename_i e;rw[aE e]at h;exact h
 rename_i e7;rw[aj e7]at h
 split
 ·rename_i e;rw[aE e]at h;exact oD.tZ h hk
 ·rename_i e;rw[aj e]at h;exact oD.tZ h hk
theorem jy.of {n0:Nat}{w w' :au}(h:ae w w' []):jy n0 w w' :=⟨h.os,h.tape,h.output,h.size,λk _ hk=>h.block k hk (by simp),λb t cs _ hr=>hr.keeps h,λb S hm=>hm.keeps h⟩
theorem jy.trans {n0:Nat}{w w' w'' :au}(h:jy n0 w w')(k:jy n0 w' w''):jy n0 w w'' :=
 ⟨k.os.trans h.os,k.tape.trans h.tape,k.output.trans h.output,cH h.size k.size,λi h1 h2=>(k.block i h1 (kB h2 h.size)).trans (h.block i h1 h2),λb t cs hn hr=>k.rows b t cs hn (h.rows b t cs hn hr),λb S hm=>k.maps b S (h.maps b S hm)⟩
theorem jy.keeps {w w' :au}(h:jy w.heap.size w w'):ae w w' []:=⟨h.os,h.tape,h.output,h.size,λk hk _=>h.block k hk hk⟩
theorem jy.sh {n0 k:Nat}{w w' :au}{v:Value}(h:jy n0 w w')(hs:Sh w k v):Sh w' k v:=hs.tZ λb t cs ht hr=>h.rows b t cs (.inl ht) hr
def Lb:Nat->au->au->Prop:=λ_ w w' =>∀b,Row w b 56 tu->Row w' b 56 tu
theorem yC {Ws:List Wr}{n0:Nat}:dI Ws (jy n0) Lb:=
 ⟨⟨λ_=> .of (ae.refl _ _),λ_ _ _ h k=>h.trans k,λ_ _ _ h=>h,λ_ _ _ _ h k b hr=>k b (h b hr)⟩,λh=> .of h,λh _ hr=>hr.keeps h⟩
/-- A shape laid over nothing. -/
theorem jy.put {n0 B:Nat}{w w' :au}{X:Array Value}(hb:n0<=B)(hr:Row w B 56 tu)(_:Row w' B 56 X)(hk:ae w w' [B]):jy n0 w w' :=by
 have hrows:∀b t cs,(56≠t\/cs≠tu)->Row w b t cs->Row w' b t cs:=λb t cs hn h=>h.keep hk (λhm=>by
  rw[rD]at hm;subst hm
  rcases hn with hn | hn
  ·exact Row.fI hr h hn rfl
  ·unfold Row at h hr
   rw[hr]at h;injection h with h
   injection h with h1 h2
   exact hn h1.symm)
 refine⟨hk.os,hk.tape,hk.output,hk.size,λk h1 h2=>hk.block k h2 (by rw[rD];omega),hrows,λb S hm=> ?_⟩;obtain⟨ds,h1,h2,h3⟩:=hm;refine⟨ds,h1.keep hk (λhm=> ?_),⟨h2.1,λx hx=> ?_⟩,h3⟩
 ·rw[rD]at hm
  subst hm;obtain⟨es,cl,hh,_⟩:=h1;unfold Row at hr;rw[hh]at hr;injection hr with hr
  cases hr
 ·obtain⟨k,g1,g2,v,g3,g4⟩:=h2.2 x hx
  exact⟨k,g1,g2,v,g3,g4.tZ λb t cs ht Us=>hrows b t cs (.inl ht) Us⟩
/-- The store, at an operation. -/
theorem nV {ops:Array Oper}{a:Act}{o:Oper}{x y:Operand}{n0 B:Nat}{X:Array Value}{W:au}{φ' :Value->au->Prop}{R:au->au->Prop}(hw:Region.wanted o (yielded ops a.tmps)=true)(ho:o.op= .store 56 x y)(hx:a.eval x= .pointer (some ⟨B,0,none⟩))(hy:a.eval y= .agg X)(hX:X.size=5)(h1:X.all (·.oneCell')=true)(hb:n0<=B)(hr:Row W B 56 tu)
  (hR:∀w',jy n0 W w' ->R W w') (h:∀w',jy n0 W w' ->Row w' B 56 X->φ' undef w'):fH prog R ops a o φ' W:=by
 refine⟨?_⟩;rw[aE hw];have hi:(Tryz.prog.info? 56).map (·.size)=some X.size:=by rw[hX];kernel_rfl
 have hrun:=run_storeAt_mid (P:=prog) W B 0 56 X (hr.there (by rw[hX];decide)) hi h1;have h2:=hr.setCells X.toList 0;rw[tX (by rw[hX];rfl)]at h2;unfold execOp;simp only[ho,hx,hy,fo,hrun,fk,gq];exact⟨hR _ (jy.put hb hr h2 (ae.setCells _ _ _)),h _ (jy.put hb hr h2 (ae.setCells _ _ _)) h2⟩
theorem jW (p:Pk)(sw sc sf:Value)(w:au)(hl:fR w p sw sc sf)(hs:rl p)(hm:lG w)(hk1: -9223372036854775808<=p.k)(hk2:p.k<=9223372036854775807):
  Calls prog 13 #[eO p sw sc sf] w λe w' =>e= .returned (.int .i64 (xe p))/\ae w w' []:=by
 have VF:=zh (show p=p from rfl);clear VF;obtain⟨C,hC⟩:∃C,xe p=C:=⟨_,rfl⟩;have HC:=zh hC;rw[hC];clear hC;have HL:=zh (And.intro hl (And.intro hs hm));have mI:=zh (λ(W:au) (b:Nat) (h:sP W b)=>h.look p.k hk1 hk2 true);clear hk1 hk2
 by_cases hin:1<=p.k/\p.k<=14
 case neg=>
  have VX:=zh (show C=2 by
   rw[<-HC.o];exact qc (by
    unfold fD;have:dz p.k 1 14=false:=by
     cases h:dz p.k 1 14 with
     | false=>rfl
     | true=>exact absurd (bW.1 h) hin
    rw[this];rfl))
  have Km:=zh (λ(W:au) (b:Nat) (h:sP W b)=>(mI.o W b h).resolve_left (λhx=>hin ⟨hx.1,hx.2.1⟩));clear hl hs hm hin mI HC HL;obtain⟨k,dup,ret,q,t,b,id,c,cl,keep,hw,wt,wb,wq,wr,hu,hp,u,pw,pr,code,wants,aF,fs⟩:=p;obtain⟨W0,aV⟩:∃W,(w).alloc (.cells (zP k dup ret q t b id c cl keep hw wt wb wq wr hu hp u pw pr code sw sc sf) 29)=W:=⟨_,rfl⟩;have k0:ae (w) W0 []:=by rw[<-aV];exact ae.alloc _ _
  have r0:Row W0 (w).heap.size 29 (zP k dup ret q t b id c cl keep hw wt wb wq wr hu hp u pw pr code sw sc sf):=by rw[<-aV];exact Row.new _ _ _
  have HP:=zh r0;have HK:=zh k0;clear k0 r0
  go_enter func13,ntmps13
  go_upto_region 1 with fail
  clear aV;have LH:dI [⟨8, [], []⟩] (jy W0.heap.size) Lb:=yC;refine bS [⟨8, [], []⟩] (jy W0.heap.size) (Lb) _ 9 LH (by kernel_rfl) rfl (by kernel_rfl) ?_;simp only[dc,dg,dF,dK];refine bZ 0 (λv W' =>∃b,v= .map (some b)/\sP W' b) rfl (λW vals hW ag φ' hφ=> ?_) ?_
  ·have hC:=hW.c
   simp only[aR]at ag
   try simp only[ai]at ag
   clear ag;refine⟨?_⟩;simp only[fill];go_simp;exact dX LH hφ ((kK W).mono (by rintro e w2 ⟨b,rfl,hb,hk⟩;exact⟨_,rfl,hk,b,rfl,hb⟩))
  simp only[af];apply aU 1 _ rfl
  ·intro W vals hW ag
   clear ag;have hC:=hW.c;refine⟨?_⟩;simp only[fill];go_simp
   first | exact⟨LH.bp (ae.refl _ _),rfl⟩ | exact⟨LH.bp (ae.alloc _ _),rfl⟩
  simp only[af];apply aU 2 _ rfl
  ·intro W vals hW ag
   have hC:=hW.c;simp only[aR]at ag
   try simp only[ai]at ag
   clear ag;have m0:=(hC.rows _ _ _ (.inl (by decide)) HP.o).cell 0;simp only[cg,bU]at m0;refine⟨?_⟩;simp only[fill];go_simp
   first | exact⟨LH.bp (ae.refl _ _),rfl⟩ | exact⟨LH.bp (ae.alloc _ _),rfl⟩
  simp only[af];apply aU 3 _ rfl
  ·intro W vals hW ag
   have hC:=hW.c;simp only[aR]at ag
   try simp only[ai]at ag
   obtain⟨W1,q0,q1,bb,hv,hb⟩:=ag (by decide);have hlk:=(Km.o W bb (q1.c.maps _ _ hb)).2;rw[aE rfl]at hlk;unfold vu at hlk;clear hb q0 q1;refine⟨?_⟩;simp only[fill];go_simp
   first | exact⟨LH.bp (ae.refl _ _),rfl⟩ | exact⟨LH.bp (ae.alloc _ _),rfl⟩
  simp only[af];apply aU 4 _ rfl
  ·intro W vals hW ag
   clear ag;have hC:=hW.c;refine⟨?_⟩;simp only[fill];go_simp
   first | exact⟨LH.bp (ae.refl _ _),rfl⟩ | exact⟨LH.bp (ae.alloc _ _),rfl⟩
  simp only[af];apply aU 5 _ rfl
  ·intro W vals hW ag
   clear ag;have hC:=hW.c;refine⟨?_⟩;simp only[fill];go_simp
   first | exact⟨LH.bp (ae.refl _ _),rfl⟩ | exact⟨LH.bp (ae.alloc _ _),rfl⟩
  simp only[af];apply aU 6 _ rfl
  ·intro W vals hW ag
   clear ag;have hC:=hW.c;refine⟨?_⟩;simp only[fill];go_simp
   first | exact⟨LH.bp (ae.refl _ _),rfl⟩ | exact⟨LH.bp (ae.alloc _ _),rfl⟩
  simp only[af];refine bZ 7 (λv W' =>∃b,v= .pointer (some ⟨b,0,none⟩)/\W0.heap.size<=b/\Row W' b 56 tu) rfl (λW vals hW ag φ' hφ=> ?_) ?_
  ·have hC:=hW.c
   simp only[aR]at ag
   try simp only[ai]at ag
   clear ag;refine⟨?_⟩;simp only[fill];go_simp;exact⟨LH.bp (ae.alloc _ _),hφ.o _ _ ⟨_,rfl,hC.size,Row.new _ _ _⟩⟩
  simp only[af];refine bZ 8 (λ_ _=>True) rfl (λW vals hW ag φ' hφ=> ?_) ?_
  ·simp only[aR]at ag
   try simp only[ai]at ag
   obtain⟨W1,q0,q1,B,hv,hB,hrow⟩:=ag.1 (by decide);exact nV (x:= .tmp 3) (y:= .tmp 11) (B:=B) (X:=tu) (by kernel_rfl) rfl ((show _=vals 3 by kernel_rfl).trans hv) (by kernel_rfl) rfl (by simp[Value.oneCell']) hB (q1.a ⟨8, [], []⟩ (by simp) (.inr (.inr (.inl rfl))) _ hrow) (λw' h=>⟨h,λx hx hne=>by simp at hx;subst hx;exact absurd rfl hne⟩) (λw' _ _=>hφ.o _ _ trivial)
  simp only[af];refine eJ (λW9 vals hW ag=> ?_);simp only[df]at ag
  try simp only[ai]at ag
  simp only[fill,Act.put,bo,bn,bh];have IK:=zh (HK.o.ah (jy.keeps hW));clear ag hW LH
  go_wp2_with fail
  go_ret;exact⟨by rw[VX.o];rfl,IK.o⟩
 case pos=>
  have Km:=zh (λ(W:au) (b:Nat) (h:sP W b)=>(show∃v,Sh W p.k.toNat v/\(Instr.lookup 57 (.map (some b)) (.int .i64 p.k) true).run prog W= .ok (.tuple #[v,.bool true]) W from by
   rcases mI.o W b h with⟨_,_,v,h1,h2⟩ | ⟨h1,_⟩
   ·exact⟨v,h1,h2⟩
   ·exact absurd hin h1))
  have Et:=zh hin;obtain⟨m,hm0⟩:∃m,cK p=m:=⟨_,rfl⟩;obtain⟨z,hz0⟩:∃z,decide (aL p=p)=z:=⟨_,rfl⟩;have K6:=zh (show C=if(m && z)=true then 0 else 2 by
   rw[<-HC.o,<-hm0,<-hz0];unfold xe fD;rw[bW.2 hin,Bool.true_and])
  have MJ:=zh (show∀w9 i1 c1 i2 c2 fv wv i5 c5,Cd w9 p.k i1 c1 i2 c2 fv wv i5 c5->∀W,ae w9 W []->ae w W []->Calls prog i1 (#[eO p sw sc sf]++c1) W (aJ W m)from by
   intro w9 i1 c1 i2 c2 fv wv i5 c5 K W hW aV;rw[<-hm0];exact K.may p sw sc sf W hW rfl hs (hl.keeps aV) (hm.keeps aV))
  have Pr:=zh (show∀w9 i1 c1 i2 c2 fv wv i5 c5,Cd w9 p.k i1 c1 i2 c2 fv wv i5 c5->∀W,ae w9 W []->ae w W []->Calls prog i2 (#[eO p sw sc sf]++c2) W (gj W p sw sc sf)from by
   intro w9 i1 c1 i2 c2 fv wv i5 c5 K W hW aV;exact K.has p sw sc sf W hW rfl (hl.keeps aV))
  have Ep:=zh (show∀W rK rO rN,ae w W []->fR W (fG p) rK rO rN ->Calls prog 17 #[eO {fG p with k:=p.k} rK rO rN,eO p sw sc sf] W (aJ W z)from λW rK rO rN hW hl' =>by
   rw[<-hz0,qT];refine Cz (aL p) p rK rO rN sw sc sf W ?_ (hl.keeps hW) ?_
   ·rw[<-qT]
    exact⟨hl'.lw,hl'.lc,hl'.lf⟩
   ·rw[<-qT]
    exact AV hs)
  have I4:=zh (show∀w9 v,Sh w9 p.k.toNat v->∃i1 c1 i2 c2 fv wv i5 c5,v= .agg #[.func (.func i1) #[] c1,.func (.func i2) #[] c2,fv,wv,.func (.func i5) #[] c5]/\Cd w9 p.k i1 c1 i2 c2 fv wv i5 c5 from λ_ _ h=>NK hin h);have jB:=zh (show({fG p with k:=p.k}:Pk)= {fG p with k:=p.k}from rfl);have Pj:=zh hl;clear jB hl hs hm hin mI HC HL hm0 hz0
  generalize p.k.toNat=kn at Km I4
  obtain⟨o,ho⟩:∃o,fG p=o:=⟨_,rfl⟩;have Pa:=zh (show∀W e w',gj W p sw sc sf e w' ->∃A1 d1 A2 d2 A3 d3,e= .returned (.agg (uF 0 o A1 d1 A2 d2 A3 d3))/\(∀W9,ae w W9 []->fR W9 o (.slice A1 o.wants.length d1) (.slice A2 o.aF.length d2) (.slice A3 o.fs.length d3))/\ae W w' []from by
   rintro W e w' ⟨rK,rO,rN,h1,h2,h3⟩;rw[ho]at h1 h2;obtain⟨A1,d1,A2,d2,A3,d3,rfl,rfl,rfl⟩:=(h2 w Pj.o).slices;have wZ:o.k=0:=by rw[<-ho];rfl
   refine⟨A1,d1,A2,d2,A3,d3, ?_,λW9 kD=>h2 W9 (Pj.o.keeps kD),h3⟩;rw[h1,<-wZ])
  rw[ho]at Ep;clear ho Pj;obtain⟨k,dup,ret,q,t,b,id,c,cl,keep,hw,wt,wb,wq,wr,hu,hp,u,pw,pr,code,wants,aF,fs⟩:=p;simp only at Km MJ Pr Ep I4 Et;obtain⟨W0,aV⟩:∃W,(w).alloc (.cells (zP k dup ret q t b id c cl keep hw wt wb wq wr hu hp u pw pr code sw sc sf) 29)=W:=⟨_,rfl⟩;have k0:ae (w) W0 []:=by rw[<-aV];exact ae.alloc _ _
  have r0:Row W0 (w).heap.size 29 (zP k dup ret q t b id c cl keep hw wt wb wq wr hu hp u pw pr code sw sc sf):=by rw[<-aV];exact Row.new _ _ _
  have HP:=zh r0;have HK:=zh k0;clear k0 r0
  go_enter func13,ntmps13
  go_upto_region 1 with fail
  clear aV;have LH:dI [⟨8, [], []⟩] (jy W0.heap.size) Lb:=yC;refine bS [⟨8, [], []⟩] (jy W0.heap.size) (Lb) _ 9 LH (by kernel_rfl) rfl (by kernel_rfl) ?_;simp only[dc,dg,dF,dK];refine bZ 0 (λv W' =>∃b,v= .map (some b)/\sP W' b) rfl (λW vals hW ag φ' hφ=> ?_) ?_
  ·have hC:=hW.c
   simp only[aR]at ag
   try simp only[ai]at ag
   clear ag;refine⟨?_⟩;simp only[fill];go_simp;exact dX LH hφ ((kK W).mono (by rintro e w2 ⟨b,rfl,hb,hk⟩;exact⟨_,rfl,hk,b,rfl,hb⟩))
  simp only[af];apply aU 1 _ rfl
  ·intro W vals hW ag
   clear ag;have hC:=hW.c;refine⟨?_⟩;simp only[fill];go_simp
   first | exact⟨LH.bp (ae.refl _ _),rfl⟩ | exact⟨LH.bp (ae.alloc _ _),rfl⟩
  simp only[af];apply aU 2 _ rfl
  ·intro W vals hW ag
   have hC:=hW.c;simp only[aR]at ag
   try simp only[ai]at ag
   clear ag;have m0:=(hC.rows _ _ _ (.inl (by decide)) HP.o).cell 0;simp only[cg,bU]at m0;refine⟨?_⟩;simp only[fill];go_simp
   first | exact⟨LH.bp (ae.refl _ _),rfl⟩ | exact⟨LH.bp (ae.alloc _ _),rfl⟩
  simp only[af];refine bZ 3 (λu W' =>∃v,u= .tuple #[v,.bool true]/\Sh W' kn v) rfl (λW vals hW ag φ' hφ=> ?_) ?_
  ·have hC:=hW.c
   simp only[aR]at ag
   try simp only[ai]at ag
   (obtain⟨W1,q0,q1,bb,hv,hb⟩:=ag (by decide);obtain⟨v,hsv,hlk⟩:=Km.o W bb (q1.c.maps _ _ hb);clear hb q0 q1)
   refine⟨?_⟩;simp only[fill];go_simp;exact⟨LH.bp (ae.refl _ _),hφ.o _ _ ⟨v,rfl,hsv⟩⟩
  simp only[af];refine bZ 4 (λu W' =>∃v,u= .tuple #[v,.bool true]/\Sh W' kn v) rfl (λW vals hW ag φ' hφ=> ?_) ?_
  ·have hC:=hW.c
   simp only[aR]at ag
   try simp only[ai]at ag
   (obtain⟨W1,q0,q1,v,hv,hsv⟩:=ag.1 (by decide);have hsv:=q1.c.sh hsv;clear q0 q1)
   refine⟨?_⟩;simp only[fill];go_simp;exact⟨LH.bp (ae.refl _ _),hφ.o _ _ ⟨v,rfl,hsv⟩⟩
  simp only[af];refine bZ 5 (λu W' =>Sh W' kn u) rfl (λW vals hW ag φ' hφ=> ?_) ?_
  ·have hC:=hW.c
   simp only[aR]at ag
   try simp only[ai]at ag
   (obtain⟨W1,q0,q1,v,hv,hsv⟩:=ag.1 (by decide);have hsv:=q1.c.sh hsv;clear q0 q1)
   refine⟨?_⟩;simp only[fill];go_simp;exact⟨LH.bp (ae.refl _ _),hφ.o _ _ hsv⟩
  simp only[af];apply aU 6 _ rfl
  ·intro W vals hW ag
   have hC:=hW.c;simp only[aR]at ag
   try simp only[ai]at ag
   obtain⟨W1,q0,q1,v,hv,hsv⟩:=ag.2.1 (by decide);clear q0 q1 hsv;refine⟨?_⟩;simp only[fill];go_simp
   first | exact⟨LH.bp (ae.refl _ _),rfl⟩ | exact⟨LH.bp (ae.alloc _ _),rfl⟩
  simp only[af];refine bZ 7 (λv W' =>∃b,v= .pointer (some ⟨b,0,none⟩)/\W0.heap.size<=b/\Row W' b 56 tu) rfl (λW vals hW ag φ' hφ=> ?_) ?_
  ·have hC:=hW.c
   simp only[aR]at ag
   try simp only[ai]at ag
   clear ag;refine⟨?_⟩;simp only[fill];go_simp;exact⟨LH.bp (ae.alloc _ _),hφ.o _ _ ⟨_,rfl,hC.size,Row.new _ _ _⟩⟩
  simp only[af];refine il 8 [3,11] (λrd _ W' =>∃B X,rd= [.pointer (some ⟨B,0,none⟩),.agg X]/\W0.heap.size<=B/\Row W' B 56 X/\Sh W' kn (.agg X)) rfl (by kernel_rfl) (λW vals hW ag φ' hφ=> ?_) ?_
  ·simp only[aR]at ag
   try simp only[ai]at ag
   obtain⟨W1,q0,q1,B,hv,hB,hrow⟩:=ag.1 (by decide);obtain⟨W2,p0,p1,hsv⟩:=ag.2.1 (by decide);have hsv:=p1.c.sh hsv;obtain⟨i1,c1,i2,c2,fv,wv,i5,c5,Dn,K⟩:=I4.o _ _ hsv;have hone:(#[.func (.func i1) #[] c1,.func (.func i2) #[] c2,fv,wv,.func (.func i5) #[] c5]:Array Value).all (·.oneCell')=true:=by
    rcases K.fl with⟨e,_⟩ | ⟨_,_,e,_⟩ <;> rcases K.wr with⟨e',_⟩ | ⟨_,_,e',_⟩ <;> (subst e e';simp[Value.oneCell'])
   refine nV (x:= .tmp 3) (y:= .tmp 11) (B:=B) (X:= #[.func (.func i1) #[] c1,.func (.func i2) #[] c2,fv,wv,.func (.func i5) #[] c5]) (by kernel_rfl) rfl ((show _=vals 3 by kernel_rfl).trans hv) ((show _=vals 11 by kernel_rfl).trans Dn) rfl hone hB (q1.a ⟨8, [], []⟩ (by simp) (.inr (.inr (.inl rfl))) _ hrow) (λw' h=>⟨h,λx hx hne=>by simp at hx;subst hx;exact absurd rfl hne⟩) (λw' hrel G4=>hφ.o _ _ ⟨B,_,by rw[eu,eu,fU,hv,Dn],hB,G4, ?_⟩);rw[<-Dn];exact hrel.sh hsv
  simp only[af];refine eJ (λW9 vals hW ag=> ?_);simp only[df]at ag
  try simp only[ai]at ag
  simp only[fill,Act.put,bo,bn,bh];obtain⟨⟨_,W1,hc0,p1,B3,X,cS,Ru,hrow,G2⟩,hrest⟩:=ag;clear hrest hc0;have hsv:=p1.c.sh G2;clear G2;obtain⟨i1,c1,i2,c2,fv,wv,i5,c5,hX,K⟩:=I4.o _ _ hsv;injection hX with hX
  subst hX;have Ns:=zh (p1.c.rows _ _ _ (.inr (by intro e;cases e)) hrow);have wM:=zh K;have IK:=zh (HK.o.ah (jy.keeps hW));have MD:=zh (HP.o.keeps (jy.keeps hW));injection cS with e1 e2
  injection e2 with e2 e3
  rw[e1,e2];clear p1 hrow hsv hW LH e1 e2 e3 Ru K
  go_upto_region 2 with fail
  have hr:=wM.o.r1
  cases m with
  | false=>
   have I7:=zh (show C=2 from K6.o.trans (by simp));refine av ax _ 8 rfl (by kernel_rfl) (by kernel_rfl) (λ_=>ae.refl _ _) (λ_ _ _ h k=>h.trans k (by simp)) ?_;simp only[dc,dg,dF,dK];refine lq (.bool true) ?_
   iterate 2
    refine lq (.bool false) ?_
   refine lq (.pointer (some ⟨B3,0,none⟩)) ?_;refine ll 30 (.tmp 16) (⟨B3,0,none⟩) (.func (.func i1) #[] c1) (λW hW=>((Ns.o.keeps hW).cell 0).trans (by kernel_rfl)) ?_;refine lw 29 (.tmp 1) (w.heap.size) ((zL k dup ret q t b id c cl keep hw wt wb wq wr hu hp u pw pr code sw sc sf)) underlying29 (λW hW=>aD (MD.o.keeps hW)) ?_;refine pg i1 (c1) (#[.agg (zP k dup ret q t b id c cl keep hw wt wb wq wr hu hp u pw pr code sw sc sf)]) (#[.agg (zP k dup ret q t b id c cl keep hw wt wb wq wr hu hp u pw pr code sw sc sf)]++c1) (.bool false) (by first | rfl | simp) rfl hr (λ_=>by kernel_rfl) (λ_ _=>by kernel_rfl) (λW hW=>by have hh:=MJ.o _ _ _ _ _ _ _ _ _ wM.o W hW (IK.o.ah hW);exact hh) ?_;refine lq (.bool true) ?_;refine aq (λW vals hW ag=> ?_);simp only[af,aw]at ag
   try simp only[ai]at ag
   simp only[af,fill,Act.put,bo,bn,bh];clear ag
   go_wp2_with fail
   go_ret;exact⟨by rw[I7.o];rfl,IK.o.ah hW⟩
  | true=>
   refine av ax _ 8 rfl (by kernel_rfl) (by kernel_rfl) (λ_=>ae.refl _ _) (λ_ _ _ h k=>h.trans k (by simp)) ?_;simp only[dc,dg,dF,dK];refine lq (.bool true) ?_
   iterate 2
    refine lq (.bool false) ?_
   refine lq (.pointer (some ⟨B3,0,none⟩)) ?_;refine ll 30 (.tmp 16) (⟨B3,0,none⟩) (.func (.func i1) #[] c1) (λW hW=>((Ns.o.keeps hW).cell 0).trans (by kernel_rfl)) ?_;refine lw 29 (.tmp 1) (w.heap.size) ((zL k dup ret q t b id c cl keep hw wt wb wq wr hu hp u pw pr code sw sc sf)) underlying29 (λW hW=>aD (MD.o.keeps hW)) ?_;refine pg i1 (c1) (#[.agg (zP k dup ret q t b id c cl keep hw wt wb wq wr hu hp u pw pr code sw sc sf)]) (#[.agg (zP k dup ret q t b id c cl keep hw wt wb wq wr hu hp u pw pr code sw sc sf)]++c1) (.bool true) (by first | rfl | simp) rfl hr (λ_=>by kernel_rfl) (λ_ _=>by kernel_rfl) (λW hW=>by have hh:=MJ.o _ _ _ _ _ _ _ _ _ wM.o W hW (IK.o.ah hW);exact hh) ?_;refine lq (.bool false) ?_;refine aq (λW vals hW ag=> ?_);simp only[af,aw]at ag
   try simp only[ai]at ag
   simp only[af,fill,Act.put,bo,bn,bh];clear ag;have T3:=zh (IK.o.ah hW);have RY:=zh (Ns.o.keeps hW);have R4:=zh (MD.o.keeps hW);have Qh:=zh hW;clear hW;clear hr
   go_upto_region 4 with fail
   have hr:=wM.o.r2;refine av ax _ 5 rfl (by kernel_rfl) (by kernel_rfl) (λ_=>ae.refl _ _) (λ_ _ _ h k=>h.trans k (by simp)) ?_;simp only[dc,dg,dF,dK];refine lq (.pointer (some ⟨B3,1,none⟩)) ?_;refine ll 51 (.tmp 22) (⟨B3,1,none⟩) (.func (.func i2) #[] c2) (λW hW=>((RY.o.keeps hW).cell 1).trans (by kernel_rfl)) ?_;refine lw 29 (.tmp 1) (w.heap.size) ((zL k dup ret q t b id c cl keep hw wt wb wq wr hu hp u pw pr code sw sc sf)) underlying29 (λW hW=>aD (R4.o.keeps hW)) ?_;refine Fq i2 c2 #[.agg (zP k dup ret q t b id c cl keep hw wt wb wq wr hu hp u pw pr code sw sc sf)] (λv W' =>∃A1 d1 A2 d2 A3 d3,v= .agg (uF 0 o A1 d1 A2 d2 A3 d3)/\(∀W9,ae w W9 []->fR W9 o (.slice A1 o.wants.length d1) (.slice A2 o.aF.length d2) (.slice A3 o.fs.length d3))) rfl hr (λ_=>by kernel_rfl) (λ_ _=>by kernel_rfl) (λW hW=>by
    have hh:=(Pr.o _ _ _ _ _ _ _ _ _ wM.o W (Qh.o.ah hW) (T3.o.ah hW)).mono (λe w' hpost=>Pa.o _ _ _ hpost);refine hh.mono ?_;intro e w' hq;obtain⟨A1,d1,A2,d2,A3,d3,h1,h2,h3⟩:=hq;exact⟨_,h1,h3,A1,d1,A2,d2,A3,d3,rfl,h2⟩) ?_
   refine bH (λv W' =>∃b,v= .pointer (some ⟨b,0,none⟩)/\w.heap.size < b/\Row W' b 29 eM) (λW vals hW ag φ' hφ=> ?_) ?_
   ·simp only[af,knows]at ag
    try simp only[ai]at ag
    clear ag;refine⟨?_⟩;simp only[af,fill];go_simp;exact oy hφ (ae.alloc _ _) ⟨_,rfl,by have:=hW.size;have:=R4.o.lt;omega,Row.new _ _ _⟩
   refine aq (λW vals hW ag=> ?_);simp only[af,aw]at ag
   try simp only[ai]at ag
   simp only[af,fill,Act.put,bo,bn,bh];obtain⟨⟨_,_,q1,B5,SU,Ti,KG⟩,⟨_,_,q2,A1,d1,A2,d2,A3,d3,NY,hpl⟩⟩:=ag;rw[SU,NY];have Nr:=zh (KG.keeps q1);have TW:=zh hpl;have tR:=zh (T3.o.ah hW);have R3:=zh (R4.o.keeps hW);have D1:=zh Ti;clear q1 q2 SU NY KG hpl hW Ti;refine wpList_store_row rfl (.tmp 5) (.tmp 25) 29 rfl B5 (uF 0 o A1 d1 A2 d2 A3 d3) eM Nr.o (by kernel_rfl) rfl (by simp[Value.oneCell']) rfl rfl ?_;intro w7 r7 k7;have ku:=zh r7;have TS:=zh (R3.o.keep k7 (by have:=D1.o;simp;omega));have iN:=zh (tR.o.trans k7 (λx hx hlt=>by have:=D1.o;simp at hx;omega));clear r7 k7;have x0:=TS.o.cell 0;have y0:=ku.o.cell 0;have f0:=ku.o.frozen 0;simp only[cg,bU]at x0 y0
   go_upto_region 6 with fail
   obtain⟨W8,KJ⟩:∃W8,w7.setCell ⟨B5,0,none⟩ (.int .i64 k)=W8:=⟨_,rfl⟩;have k8:ae w7 W8 [B5]:=by rw[<-KJ];exact ae.setCell _ _ _
   have Nq:=zh (show Row W8 B5 29 (uF k o A1 d1 A2 d2 A3 d3)by rw[<-KJ];exact ku.o.store 0 _);have TR:=zh (TS.o.keep k8 (by have:=D1.o;simp;omega));have Nw:=zh (iN.o.trans k8 (λx hx hlt=>by have:=D1.o;simp at hx;omega));rw[KJ];clear KJ k8 x0 y0 f0 hr
   cases z with
   | false=>
    have I7:=zh (show C=2 from K6.o.trans (by simp));refine av ax _ 3 rfl (by kernel_rfl) (by kernel_rfl) (λ_=>ae.refl _ _) (λ_ _ _ h k=>h.trans k (by simp)) ?_;simp only[dc,dg,dF,dK];refine lw 29 (.tmp 5) (B5) ((FT k o A1 d1 A2 d2 A3 d3)) underlying29 (λW hW=>aD (Nq.o.keeps hW)) ?_;refine lw 29 (.tmp 1) (w.heap.size) ((zL k dup ret q t b id c cl keep hw wt wb wq wr hu hp u pw pr code sw sc sf)) underlying29 (λW hW=>aD (TR.o.keeps hW)) ?_;refine aT 17 (#[.agg (uF k o A1 d1 A2 d2 A3 d3),.agg (zP k dup ret q t b id c cl keep hw wt wb wq wr hu hp u pw pr code sw sc sf)]) (.bool false) (λ_=>by kernel_rfl) (λ_ _=>by kernel_rfl) (λW hW=>by have hh:=Ep.o W _ _ _ (Nw.o.ah hW) (TW.o _ (Nw.o.ah hW));exact hh) ?_;refine aq (λW vals hW ag=> ?_);simp only[af,aw]at ag
    try simp only[ai]at ag
    simp only[af,fill,Act.put,bo,bn,bh];clear ag
    go_wp2_with fail
    go_ret;exact⟨by rw[I7.o];rfl,Nw.o.ah hW⟩
   | true=>
    have I7:=zh (show C=0 from K6.o.trans (by simp));refine av ax _ 3 rfl (by kernel_rfl) (by kernel_rfl) (λ_=>ae.refl _ _) (λ_ _ _ h k=>h.trans k (by simp)) ?_;simp only[dc,dg,dF,dK];refine lw 29 (.tmp 5) (B5) ((FT k o A1 d1 A2 d2 A3 d3)) underlying29 (λW hW=>aD (Nq.o.keeps hW)) ?_;refine lw 29 (.tmp 1) (w.heap.size) ((zL k dup ret q t b id c cl keep hw wt wb wq wr hu hp u pw pr code sw sc sf)) underlying29 (λW hW=>aD (TR.o.keeps hW)) ?_;refine aT 17 (#[.agg (uF k o A1 d1 A2 d2 A3 d3),.agg (zP k dup ret q t b id c cl keep hw wt wb wq wr hu hp u pw pr code sw sc sf)]) (.bool true) (λ_=>by kernel_rfl) (λ_ _=>by kernel_rfl) (λW hW=>by have hh:=Ep.o W _ _ _ (Nw.o.ah hW) (TW.o _ (Nw.o.ah hW));exact hh) ?_;refine aq (λW vals hW ag=> ?_);simp only[af,aw]at ag
    try simp only[ai]at ag
    simp only[af,fill,Act.put,bo,bn,bh];clear ag
    go_wp2_with fail
    go_ret;exact⟨by rw[I7.o];rfl,Nw.o.ah hW⟩
end Go.Proofs.YtahbikfbjenfpaaGreatDoor
