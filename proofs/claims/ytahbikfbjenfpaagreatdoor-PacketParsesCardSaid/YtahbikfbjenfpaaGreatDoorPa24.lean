/- Package wire: what a reader answers to any bytes: numbers, texts, truths. A region that draws its order, of which one operation may write what lay: each operation met once; the last ones may stand in a row. A region of which one operation writes block K, the last ones in a row: in words for the walk. A region that draws its order and in which one call gives up: each operation met once. A region that draws its order, of which some operations write, and in which one call gives up: each operation that may come ahead of it met once. Package wire: a reader that is read from inside a region that draws its order: what none but one operation changes. Package packet: must, a reader's number and text, which give up where there is none. -/
import Derived.Test.YtahbikfbjenfpaaGreatDoorPa21
import Derived.Test.YtahbikfbjenfpaaGreatDoorPa1
import Derived.Test.YtahbikfbjenfpaaGreatDoorPa3
import Derived.Test.YtahbikfbjenfpaaGreatDoorPa2
set_option maxHeartbeats 2000000
set_option maxRecDepth 100000
namespace Go.Proofs.YtahbikfbjenfpaaGreatDoor
open Tryz Go.RowKit

theorem vC (w:au)(r bx n len c:Nat)(A:Option Addr)(h:Row w r 130 #[.slice A len c,.bool true])(hb:w.cell? ⟨bx,0,none⟩=some (.pointer (some ⟨r,0,none⟩)))(hn:len < n):
  Calls prog 163 #[.int .i64 n,.pointer (some ⟨bx,0,none⟩)] w λe w' =>e= .returned (.tuple #[.slice none 0 0,.bool false])/\w' =w:=by
 have h0:=h.cell 0;have H:=zh h;clear h;have hlt:decide ((len:Int) < (n:Int))=true:=by simp;omega
 go_enter func163,ntmps163
 go_wp2
 go_ret2
 exact⟨rfl,rfl⟩
theorem AF (w:au)(base r k:Nat)(l:aG)(h:Rd w base r l)(hk1:1<=k)(pG:k<=8)(hkl:l.length < k):
  Calls prog 108 #[.pointer (some ⟨r,0,none⟩),.int .i64 k] w λe w' =>e= .returned (.tuple #[.int .u64 0,.int .i64 130])/\ae w w' []:=by
 obtain⟨A,c,hr,hbr,hc,hnil,hcm,hL,had⟩:=h;have HR:=zh hr;clear hr hL hnil had;have hw:lY (k:Int) 1 8=true:=by simp[lY];omega
 go_enter func108,ntmps108
 go_wp2_with fail
 refine(jG _ _ _ HR.o).mono ?_;rintro e w1 ⟨rfl,rfl⟩
 go_wp2_with fail
 refine(uV _ _).mono ?_;rintro e w1 ⟨rfl,rfl⟩;rw[hw];clear hw
 go_wp2_with fail
 refine(ld _ _).mono ?_;rintro e w1 ⟨rfl,rfl⟩
 go_wp2_with fail
 refine(vC _ r w.heap.size k l.length c A (HR.o.alloc _) (by simp[World.cell?_alloc_new]) hkl).mono ?_;rintro e w2 ⟨rfl,rfl⟩
 go_wp2_with fail
 go_ret2
 exact⟨rfl,ae.alloc _ _⟩
/-- What a reader does: it answers, and these bytes are left; or it refuses. -/
def Il (w:au)(base r:Nat)(l:aG)(o:Option (Value×aG))(no:Value)(e:Ending)(w' :au):Prop:=ae w w' [r]/\match o with
 | some (v,t)=>e= .returned (.tuple #[v,.int .i64 0])/\Rd w' base r t
 | none=>e= .returned (.tuple #[no,.int .i64 130])/\Rd w' base r l
theorem ub (w:au)(base r k:Nat)(l:aG)(h:Rd w base r l)(hk1:1<=k)(pG:k<=8):
  Calls prog 108 #[.pointer (some ⟨r,0,none⟩),.int .i64 k] w (Il w base r l ((jv k l).map λ(n,t)=>(.int .u64 (n:Nat),t)) (.int .u64 0)):=by
 unfold jv
 by_cases hkl:k<=l.length
 ·rw[aE hkl]
  exact(yM w base r k l h hk1 pG hkl).mono λe w' ⟨h1,h2,h3⟩=>⟨h3,h1,h2⟩
 ·rw[aj hkl]
  exact(AF w base r k l h hk1 pG (by omega)).mono λe w' ⟨h1,h2⟩=>⟨h2.weaken (by simp),h1,h.keep h2 (by simp)⟩
theorem dm (w:au)(base r:Nat)(l:aG)(h:Rd w base r l):
  Calls prog 33 #[.pointer (some ⟨r,0,none⟩)] w λe w' =>e= .returned (.int .i64 l.length)/\w=w' :=by
 obtain⟨A,c,hr,hbr,hc,hnil,hcm,hL,had⟩:=h;have h0:=hr.cell 0;simp only[cg,bU]at h0;have HR:=zh hr;clear hr hL hnil had
 go_enter func33,ntmps33
 go_wp2_with fail
 refine(jG _ _ _ HR.o).mono ?_;rintro e w1 ⟨rfl,rfl⟩
 go_wp2_with fail
 go_ret;exact⟨rfl,rfl⟩
/-- The reader's own row, put back. -/
theorem Rd.back {w w' :au}{base r:Nat}{l:aG}{A:Option Addr}{c:Nat}{x:Value}(hr:Row w' r 130 #[x,.bool true])(hb:base<=r)(hc:l.length<=c)(hnil:A=none->c=0)(hcm:c<=maxLen)(hL:cG w w.heap.size A (l.map bq))(had:∀ad,A=some ad->base<=ad.block/\ad.block < r)(hk:ae w w' [r]):
  Rd (w'.setCell ⟨r,0,none⟩ (.slice A l.length c)) base r l:=by
 have h1:=hr.store 0 (.slice A l.length c);refine⟨A,c,by simpa using h1,hb,hc,hnil,hcm, ?_,had⟩;have hk2:=hk.trans (ae.setCell w' ⟨r,0,none⟩ (.slice A l.length c)) (by simp);exact(hL.yc hk2 (bE _) (λb o e hm=>by simp at hm;exact absurd hm (Nat.ne_of_lt (had _ e).2))).mono hk2.size
theorem EN (w:au)(base r:Nat)(l:aG)(h:Rd w base r l):
  Calls prog 120 #[.pointer (some ⟨r,0,none⟩)] w (Il w base r l ((cQ l).map λ(s,t)=>(lI s,t)) (.string ⟨#[]⟩)):=by
 have VD:=zh h;obtain⟨A,c,hr,hbr,hc,hnil,hcm,hL,had⟩:=h;have h0:=hr.cell 0;simp only[cg,bU]at h0;have HR:=zh hr;have HL:=zh (And.intro hL (And.intro hnil had));clear hr hnil had hL;have HN:=zh (ub w base r 2 l VD.o (by omega) (by omega))
 cases hn:jv 2 l with
 | none=>
  rw[hn]at HN;have HT:=zh (show cQ l=none by unfold cQ;rw[hn]);clear hn
  go_enter func120,ntmps120
  go_wp2_with fail
  refine(jG _ _ _ HR.o).mono ?_;rintro e w1 ⟨rfl,rfl⟩
  go_wp2_with fail
  refine HN.o.mono ?_;rintro e w2 ⟨hk2,rfl,qY⟩;obtain⟨A2,c2,hr2,Oz,gO,qJ,hcm2,wH,Dw⟩:=qY;have H2:=zh (And.intro hk2 (And.intro hr2 (And.intro wH (And.intro qJ Dw))));clear hk2 hr2 wH qJ Dw h0
  go_wp2_with fail
  refine(ld _ _).mono ?_;rintro e w3 ⟨rfl,rfl⟩
  go_wp2_with fail
  have HX:=zh (oY (w2.alloc (.cells #[.pointer (some ⟨r,0,none⟩)] 71)) r w2.heap.size 0 l.length c2 A2 (H2.o.2.1.alloc _) (by simp[World.cell?_alloc_new]) (Nat.zero_le _) gO hcm2);refine HX.o.mono ?_;rintro e w4 ⟨rfl,yd⟩;have sY:Row w4 r 130 #[.slice (if c2=0 then A2 else A2.map (·.add (0:Nat))) (l.length - 0) (c2 - 0),.bool true]:=by
   subst yd;exact((H2.o.2.1.alloc _).store 0 _)
  have hk4:ae w2 w4 [r]:=by
   subst yd;exact(((ae.alloc w2 _).weaken (T:= [r]) (by simp)).trans (ae.setCell _ ⟨r,0,none⟩ _) (by simp)).trans (ae.drew _) (by simp)
  have h4:=sY.cell 0;have f4:=sY.frozen 0;simp only[cg,bU]at h4;have H4:=zh (And.intro sY (H2.o.1.trans hk4 (by simp)));clear sY hk4 yd HX
  go_wp2_with fail
  go_ret2
  rw[HT.o];exact⟨H4.o.2.trans (ae.setCell _ _ _) (by simp),rfl,Rd.back H4.o.1 hbr hc HL.o.2.1 hcm HL.o.1 HL.o.2.2 H4.o.2⟩
 | some p=>
  obtain⟨n,t⟩:=p;obtain⟨s1,s2,s3⟩:=bJ hn;have Uu:n < 65536:=by simpa using s2
  rw[hn]at HN
  by_cases hle:n<=t.length
  ·have HT:=zh (show cQ l=some (t.take n,t.drop n)by unfold cQ;rw[hn];simp only;rw[aE hle])
   clear hn s1 s2 s3;have QR:IntKind.i64.wrap (n:Int)=(n:Int):=IntWalk.i64_in _ ⟨by omega,by omega⟩
   go_enter func120,ntmps120
   go_wp2_with fail
   refine(jG _ _ _ HR.o).mono ?_;rintro e w1 ⟨rfl,rfl⟩
   go_wp2_with fail
   refine HN.o.mono ?_;rintro e w2 ⟨hk2,rfl,qY⟩;obtain⟨A2,c2,hr2,Oz,gO,qJ,hcm2,wH,Dw⟩:=qY;have H2:=zh (And.intro hk2 (And.intro hr2 (And.intro wH (And.intro qJ Dw))));clear hk2 hr2 wH qJ Dw h0
   go_wp2_with fail
   refine(ld _ _).mono ?_;rintro e w3 ⟨rfl,rfl⟩
   go_wp2_with fail
   have HX:=zh (oY (w2.alloc (.cells #[.pointer (some ⟨r,0,none⟩)] 71)) r w2.heap.size n t.length c2 A2 (H2.o.2.1.alloc _) (by simp[World.cell?_alloc_new]) hle gO hcm2);refine HX.o.mono ?_;rintro e w4 ⟨rfl,yd⟩;have sY:Row w4 r 130 #[.slice (if c2=n then A2 else A2.map (·.add n)) (t.length - n) (c2 - n),.bool true]:=by
    subst yd;exact((H2.o.2.1.alloc _).store 0 _)
   have hk4:ae w2 w4 [r]:=by
    subst yd;exact(((ae.alloc w2 _).weaken (T:= [r]) (by simp)).trans (ae.setCell _ ⟨r,0,none⟩ _) (by simp)).trans (ae.drew _) (by simp)
   have FW:cG w4 w2.heap.size A2 (t.map bq):=H2.o.2.2.1.yc hk4 (bE _) (λb o e hm=>by simp at hm;exact absurd hm (Nat.ne_of_lt (H2.o.2.2.2.2 _ e).2));have hlt:(t.take n).length=n:=by rw[dq];omega
   have iA:=dO w4 w2.heap.size A2 n (t.take n) (by rw[List.map_take];exact FW.take n);rw[hlt]at iA;have H4:=zh (And.intro sY (And.intro hk4 FW));clear sY hk4 yd HX FW
   go_wp2_with fail
   go_ret2
   rw[HT.o];refine⟨H2.o.1.trans H4.o.2.1 (by simp),rfl, ?_⟩;have hal:(if c2=n then A2 else A2.map (·.add n))=none->c2 - n=0:=by
    intro hn
    split at hn
    ·omega
    ·have:A2=none:=by simpa using hn
     have:=H2.o.2.2.2.1 this;omega
   have wY:(t.drop n).length=t.length - n:=by simp
   refine⟨_,c2 - n,by rw[wY];exact H4.o.1,hbr,by rw[wY];omega,hal,by omega, ?_, ?_⟩
   ·have:=H4.o.2.2.cut (k:=n) (cap:=c2) (by simpa using gO)
    rw[List.map_drop];exact this.mono H4.o.2.1.size
   ·intro ad had
    split at had
    ·exact H2.o.2.2.2.2 ad had
    ·cases A2 with
     | none=>cases had
     | some a0=>
      simp only[tg,kY]at had;subst had;have:=H2.o.2.2.2.2 a0 rfl;have LU:(a0.add n).block=a0.block:=by unfold Addr.add;split <;> rfl
      rw[LU];exact this
  ·have HT:=zh (show cQ l=none by unfold cQ;rw[hn];simp only;rw[aj hle])
   clear hn s1 s2 s3;have QR:IntKind.i64.wrap (n:Int)=(n:Int):=IntWalk.i64_in _ ⟨by omega,by omega⟩
   go_enter func120,ntmps120
   go_wp2_with fail
   refine(jG _ _ _ HR.o).mono ?_;rintro e w1 ⟨rfl,rfl⟩
   go_wp2_with fail
   refine HN.o.mono ?_;rintro e w2 ⟨hk2,rfl,qY⟩;obtain⟨A2,c2,hr2,Oz,gO,qJ,hcm2,wH,Dw⟩:=qY;have H2:=zh (And.intro hk2 hr2);clear hk2 hr2 wH qJ Dw h0
   go_wp2_with fail
   refine(ld _ _).mono ?_;rintro e w3 ⟨rfl,rfl⟩
   go_wp2_with fail
   refine(vC (w2.alloc (.cells #[.pointer (some ⟨r,0,none⟩)] 71)) r w2.heap.size n t.length c2 A2 (H2.o.2.alloc _) (by simp[World.cell?_alloc_new]) (by omega)).mono ?_;rintro e w4 ⟨rfl,yd⟩;have sY:Row w4 r 130 #[.slice A2 t.length c2,.bool true]:=by
    subst yd;exact H2.o.2.alloc _
   have hk4:ae w2 w4 []:=by
    subst yd;exact ae.alloc w2 _
   have f4:=sY.frozen 0;have h4:=sY.cell 0;simp only[cg,bU]at h4;have H4:=zh (And.intro sY (H2.o.1.trans (hk4.weaken (T:= [r]) (by simp)) (by simp)));clear sY hk4 yd
   go_wp2_with fail
   go_ret2
   rw[HT.o];exact⟨H4.o.2.trans (ae.setCell _ _ _) (by simp),rfl,Rd.back H4.o.1 hbr hc HL.o.2.1 hcm HL.o.1 HL.o.2.2 H4.o.2⟩

section
variable (P:Program) (R R1:au->au->Prop) (d:Tmp) (w0:au) (ops:Array Oper) (vals:Tmp->Value)
def Ld (t:Option Tmp):au->au->Prop:=if t=some d then R1 else R
def ze (rs:List Tmp)(W:au):List fQ->Prop
 | []=>True
 | ⟨_,some _,_,_⟩::l=>ze rs W l
 | ⟨none,none,_,_⟩::l=>ze rs W l
 | ⟨some t,none,rd,φ⟩::l=>(t∈rs->∃W0,R w0 W0/\Ld R R1 d (some t) W0 W/\φ (rd.map vals) (vals t) W0)/\ze rs W l

def tI (W:au):List fQ->Prop
 | []=>True
 | ⟨_,some _,_,_⟩::l=>tI W l
 | ⟨none,none,rd,φ⟩::l=>(∃u W0,R w0 W0/\R W0 W/\φ (rd.map vals) u W0)/\tI W l
 | ⟨some t,none,rd,φ⟩::l=>(∃W0,R w0 W0/\Ld R R1 d (some t) W0 W/\φ (rd.map vals) (vals t) W0)/\tI W l

def F7 (a0:Act)(Q:List fQ->Prop):List Oper->List fQ->Prop
 | [],env=>Q env
 | o::rest,env=>∃c rd φ,(∀t∈rd,dG ops o t=true)/\(∀W vals,R w0 W->(o.dst=some d->R1 w0 W)->ze R R1 d w0 vals (o.looksAt ops) W env->fH P (if o.dst=some d then R else R1) ops (fill vals env a0) o (cB c (φ (rd.map vals))) W)/\F7 a0 Q rest (af o.dst c rd φ env)
end

section
variable {P:Program} {R R1:au->au->Prop} {d:Tmp} {w0:au} {ops:Array Oper} {vals:Tmp->Value}
/-- What stands while the region runs. -/
structure Nn (R R1:au->au->Prop)(ds:Tmp)(w0:au)(ops:Array Oper)(a0:Act)(c:Nat->Option Value)(rd:Nat->List Tmp)(φ:Nat->List Value->Value->au->Prop)(listed:Array Bool)(a:Act)(W:au):Prop where
 world:R w0 W
 Qp:(∀k o,ops[k]? =some o->o.dst=some ds->listed.getD k false=false)->R1 w0 W
 defers:a.defers=a0.defers
 size:a.tmps.size=a0.tmps.size
 gy:listed.size=ops.size
 off:∀t,(∀k o,ops[k]? =some o->o.dst=some t->listed.getD k false=false)->a.tmps[t]? =a0.tmps[t]?
 on:∀k o d,ops[k]? =some o->o.dst=some d->listed.getD k false=true->∃v,a.tmps[d]? =some v/\∃W0,R w0 W0/\Ld R R1 ds (some d) W0 W/\cB (c k) (φ k ((rd k).map λt=>a.tmps.getD t undef)) v W0
 IX:∀k o,ops[k]? =some o->o.dst=none->listed.getD k false=true->∃u W0,R w0 W0/\R W0 W/\cB (c k) (φ k ((rd k).map λt=>a.tmps.getD t undef)) u W0
 dep:∀k o,ops[k]? =some o->listed.getD k false=true->∀e∈o.after,Region.binds .any e=true->listed.getD e.on false=true

end

section
variable {P:Program} {R R1:au->au->Prop} {d:Tmp} {w0:au} {ops:Array Oper} {a0:Act} {Q:List fQ->Prop} {o:Oper} {rest:List Oper} {env:List fQ}
/-- All that was there stays, but for block K. -/
abbrev OW (K:Nat)(w w' :au):Prop:=ae w w' [K]
end

section
variable (P:Program) (ops:Array Oper) (a0:Act) (Q:Exit->Act->au->Prop)
/-- The call gives up, and what is asked then stands whatever the region has brought up. -/
structure y8 (a:Act)(o:Oper)(W:au):Prop where
 out:Region.wanted o (yielded ops a.tmps)=true/\∃f args W',(execOp a.eval o).run P W= .ok (.enter f args) W' /\
  Calls P f args W' (λe w'' =>∃ch,e= .panicked ch/\∀a' :Act,a'.defers=a0.defers->(∀t,(∀(k:Nat) (o:Oper),ops[k]? =some o->o.dst≠some t)->a'.tmps[t]? =a0.tmps[t]?)->Q (.panic ch) a' w'')
end
theorem uN {ops:Array Oper}{t:Tmp}(h:(ops.all λo=>o.dst !=some t)=true):∀(k:Nat) (o:Oper),ops[k]? =some o->o.dst≠some t:=λk o ho=>by
 have:=Array.all_eq_true_iff_forall_mem.1 h o (Array.mem_of_getElem? ho)
 simpa using this
section
variable {P:Program} {R:au->au->Prop} {w0:au} {ops:Array Oper} {vals:Tmp->Value}
theorem y7 {a0 a a' :Act}{o:Oper}{Q:Exit->Act->au->Prop}{W:au}(hsel:∀cs b,o.op≠ .select cs b)(h:∀t∈o.looksAt ops,a.tmps[t]? =a'.tmps[t]?)(hh:y8 P ops a0 Q a o W):y8 P ops a0 Q a' o W:=by
 have he:execOp a.eval o=execOp a'.eval o:=execOp_congr o hsel λx hx=>by
  cases x with
  | tmp t=>
   have:=h t (F6 _ (List.mem_filterMap.2 ⟨.tmp t,by simpa using hx,rfl⟩));simp[Act.eval,this]
  | _=>rfl
 have hy:Region.wanted o (yielded ops a.tmps)=Region.wanted o (yielded ops a'.tmps):=by
  unfold Region.wanted
  cases hg:o.guard with
  | none=>rfl
  | some gw=>
   obtain⟨g,want⟩:=gw;have:yielded ops a.tmps g=yielded ops a'.tmps g:=by
    unfold yielded
    cases ht:(ops[g]?).bind (·.dst)with
    | none=>rfl
    | some t=>
     have:=h t (Ez _ (by simp[hg,ht]));simp[this]
   simp only[this]
 obtain⟨hh⟩:=hh;rw[he,hy]at hh;exact⟨hh⟩

end

section
variable (P:Program) (Ws:List Wr) (C:au->au->Prop) (A:Nat->au->au->Prop) (w0:au) (ops:Array Oper) (n0:Nat)
def fp (a0:Act)(Q:List fQ->Prop):List Oper->List fQ->Prop
 | [],_=>True
 | o::rest,env=>(env.length=n0/\Q env/\fp a0 Q rest (af o.dst none [] (λ_ _ _=>True) env))\/
   ((env.length≠n0/\(js ops n0).contains env.length=true)/\fp a0 Q rest (af o.dst none [] (λ_ _ _=>True) env))\/
   (env.length≠n0/\∃c rd φ,(∀t∈rd,dG ops o t=true)/\(∀W vals,j0 Ws C A env.length w0 W->aR Ws C A w0 vals env.length (o.looksAt ops++rd) W env->fH P (jd Ws C A env.length) ops (fill vals env a0) o (cB c (φ (rd.map vals))) W)/\fp a0 Q rest (af o.dst c rd φ env))
end
section
variable {P:Program} {Ws:List Wr} {C:au->au->Prop} {A:Nat->au->au->Prop} {w0:au} {ops:Array Oper} {n0:Nat}
theorem oN {a0:Act}{Q:List fQ->Prop}:∀(l:List Oper) (env:List fQ),fp P Ws C A w0 ops n0 a0 Q l env->
  ∃(E:Nat->List fQ) (c:Nat->Option Value) (rd:Nat->List Tmp) (φ:Nat->List Value->Value->au->Prop),E 0=env/\(∀k,k<=l.length->(E k).length=env.length+k)/\
   (∀k o,l[k]? =some o->E (k+1)=af o.dst (c k) (rd k) (φ k) (E k)/\(∀t∈rd k,dG ops o t=true)/\(env.length+k=n0->Q (E k)/\rd k= [])/\(env.length+k≠n0->(js ops n0).contains (env.length+k)=false->∀W vals,j0 Ws C A (env.length+k) w0 W->aR Ws C A w0 vals (env.length+k) (o.looksAt ops++rd k) W (E k)->fH P (jd Ws C A (env.length+k)) ops (fill vals (E k) a0) o (cB (c k) (φ k ((rd k).map vals))) W))
 | [],env,_=>⟨λ_=>env,λ_=>none,λ_=> [],λ_ _ _ _=>True,rfl,λk hk=>by simp at hk;simp[hk],λk o ho=>by simp at ho⟩
 | o::rest,env,h=>by
  have main:∀(c0:Option Value) (KA:List Tmp) (φ0:List Value->Value->au->Prop),(∀t∈KA,dG ops o t=true)->(env.length=n0->Q env/\KA= [])->(env.length≠n0->(js ops n0).contains env.length=false->∀W vals,j0 Ws C A env.length w0 W->aR Ws C A w0 vals env.length (o.looksAt ops++KA) W env->fH P (jd Ws C A env.length) ops (fill vals env a0) o (cB c0 (φ0 (KA.map vals))) W)->fp P Ws C A w0 ops n0 a0 Q rest (af o.dst c0 KA φ0 env)->
   ∃(E:Nat->List fQ) (c:Nat->Option Value) (rd:Nat->List Tmp) (φ:Nat->List Value->Value->au->Prop),E 0=env/\(∀k,k<=(o::rest).length->(E k).length=env.length+k)/\
   (∀k o',(o::rest)[k]? =some o' ->E (k+1)=af o'.dst (c k) (rd k) (φ k) (E k)/\(∀t∈rd k,dG ops o' t=true)/\(env.length+k=n0->Q (E k)/\rd k= [])/\(env.length+k≠n0->(js ops n0).contains (env.length+k)=false->∀W vals,j0 Ws C A (env.length+k) w0 W->aR Ws C A w0 vals (env.length+k) (o'.looksAt ops++rd k) W (E k)->fH P (jd Ws C A (env.length+k)) ops (fill vals (E k) a0) o' (cB (c k) (φ k ((rd k).map vals))) W)):=by
   intro c0 KA φ0 h0 h1 h2 h3;obtain⟨E,c',Lf,φ',e0,hl,hs⟩:=oN rest _ h3;have hadd:(af o.dst c0 KA φ0 env).length=env.length+1:=by simp[af]
   rw[hadd]at hl hs;refine⟨λ| 0=>env | k+1=>E k,λ| 0=>c0 | k+1=>c' k,λ| 0=>KA | k+1=>Lf k,λ| 0=>φ0 | k+1=>φ' k,rfl, ?_, ?_⟩
   ·intro k hk
    cases k with
    | zero=>rfl
    | succ k=>
     have:=hl k (by simpa using hk);show(E k).length=_;omega
   ·intro k o' ho'
    cases k with
    | zero=>
     simp only[bU,kY]at ho';subst ho';exact⟨e0,h0,h1,h2⟩
    | succ k=>
     have h4:=hs k o' (by simpa using ho');rw[show env.length+1+k=env.length+(k+1)by omega]at h4;exact h4
  rcases h with⟨h1,h2,h3⟩ | ⟨⟨h1,h2⟩,h3⟩ | ⟨h1,c,rd,φ,h2,h4,h3⟩
  ·exact main none [] _ (λ_ h=>nomatch h) (λ_=>⟨h2,rfl⟩) (λh=>absurd h1 h) h3
  ·exact main none [] _ (λ_ h=>nomatch h) (λh=>absurd h h1) (λ_ h=>by rw[h2]at h;cases h) h3
  ·exact main c rd φ h2 (λh=>absurd h h1) (λ_ _=>h4) h3
theorem sC {n:Nat}{osp:Oper}{NG:List Tmp}{a0:Act}{c:Nat->Option Value}{rd:Nat->List Tmp}{φ:Nat->List Value->Value->au->Prop}{E:Nat->List fQ}{Q:Exit->Act->au->Prop}(hF:zI C A)(rA:Kw ops Ws=true)
  (hB:f_ n ops=true) (Fy:ops[n0]? =some osp) (hn:a0.tmps.size=n) (e0:E 0= [])
  (hlen:∀k,k<=ops.size->(E k).length=k)
  (hs:∀k o,ops[k]? =some o->E (k+1)=af o.dst (c k) (rd k) (φ k) (E k)/\(∀t∈rd k,dG ops o t=true)/\(k≠n0->(js ops n0).contains k=false->∀W vals,j0 Ws C A k w0 W->aR Ws C A w0 vals k (o.looksAt ops++rd k) W (E k)->fH P (jd Ws C A k) ops (fill vals (E k) a0) o (cB (c k) (φ k ((rd k).map vals))) W))
  (QU:NG.all (dG ops osp)=true)
  (hq:∀W vals,j0 Ws C A n0 w0 W->aR Ws C A w0 vals n0 (osp.looksAt ops++NG) W (E n0)->y8 P ops a0 Q (fill vals (E n0) a0) osp W):
  ∀(fuel:Nat) (listed:Array Bool) (a:Act) (W:au),cN listed<=fuel->listed.getD n0 true=false->nj Ws C A w0 ops a0 c rd φ listed a W->wpAny P .any ops Q fuel listed a W:=by
 obtain⟨b0,b1,b2,b3,b4⟩:=gB hB;have hs1:=λk o ho=>(hs k o ho).1
 have cS:=λk o ho=>(hs k o ho).2.1
 have hn0:n0 < ops.size:=(Array.getElem?_eq_some_iff.1 Fy).1;intro fuel
 induction fuel with
 | zero=>
  intro listed a W hu htl hI;have:=(bu htl).1;omega
 | succ fuel ih=>
  intro listed a W hu htl hI;refine⟨λhr=> ?_,λi hi=> ?_⟩
  ·exfalso
   have hall:∀m k,k < m->k < ops.size->listed.getD k false=true:=by
    intro m
    induction m with
    | zero=>intro k h;omega
    | succ m ih=>
     intro k hk hks
     cases hl:listed.getD k false with
     | true=>rfl
     | false=>
      exfalso
      have ho:ops[k]? =some (ops[k]'(by omega)):=lS (by omega);have hl' :listed.getD k true=false:=by
       have:k < listed.size:=by rw[hI.gy];omega
       simpa [this]using hl
      have:k∈Region.ready .any ops listed:=mem_ready.2 ⟨hl',_,ho,λe he hb=>by
       have hlt:=b3 k _ ho e he hb;exact ih e.on (by omega) (by omega)⟩
      rw[hr]at this
      cases this
   have h1:=hall (n0+1) n0 (by omega) hn0;have h2:=getD_both htl;rw[h1]at h2
   cases h2
  obtain⟨hl,o,ho,hall⟩:=mem_ready.1 hi;have hil:listed.getD i false=false:=getD_both hl;have Q5:listed.getD n0 false=false:=getD_both htl;have M_:∀x∈Ws,x.k=i\/i∈x.pre->listed.getD x.k false=false:=by
   rintro x hx (hc | hc)
   ·rw[hc];exact hil
   ·cases Ok:listed.getD x.k false with
    | false=>rfl
    | true=>
     have:=iX hI.dep i x.k (yu rA hx hc).1 Ok;rw[hil]at this
     cases this
  have ag:∀rs:List Tmp,(∀j o' t,j < i->ops[j]? =some o' ->o'.dst=some t->t∈rs->∃e∈o.after,Region.binds .any e=true/\e.on=j)->aR Ws C A w0 (λt=>a.tmps.getD t undef) i rs W (E i):=λrs hrs=>
   nX e0 hlen hs1 rs i (kV (Array.getElem?_eq_some_iff.1 ho).1) (λj o' t hj ho' hd ht hc=>by
    obtain⟨e,he,hb,hon⟩:=hrs j o' t hj ho' hd ht;obtain⟨v,hv,W0,h1,h2,h4,h3⟩:=hI.on j o' t ho' hd (hon▸hall e he hb);refine⟨W0,h1,⟨h2,λx hx hc=>h4 x hx (by
     rcases hc with hc | hc | hc
     ·exact .inl hc
     ·exact .inr (.inl hc)
     ·exact .inr (.inr (M_ x hx hc)))⟩, ?_⟩
    have:a.tmps.getD t undef=v:=by simp[hv]
    show φ j _ (a.tmps.getD t undef) W0;rw[this]
    simpa [cB,hc]using h3)
  have KH:∀j o' t,j < i->ops[j]? =some o' ->o'.dst=some t->t∈o.looksAt ops->∃e∈o.after,Region.binds .any e=true/\e.on=j:=λj o' t hj ho' hd ht=>by
   obtain⟨_,e,he,hb,hon⟩:=(b4 i o t j o' ho ht ho' hd).resolve_right (λh=>absurd h.1 (by omega));exact⟨e,he,hb,hon⟩
  have Ov:∀t∈o.looksAt ops,(fill (λt=>a.tmps.getD t undef) (E i) a0).tmps[t]? =a.tmps[t]? :=λt ht=>by
   by_cases hd:∃(k:Nat) (o' :Oper),ops[k]? =some o' /\o'.dst=some t
   ·obtain⟨k,o',ho',hd⟩:=hd
    rcases b4 i o t k o' ho ht ho' hd with⟨hk,e,he,hb,hon⟩ | ⟨hk,e,he,hb,hon⟩
    case inr=>
     rw[fu a0 e0 hs1 t i (kV (Array.getElem?_eq_some_iff.1 ho).1) (λj o2 hj p6 jw=>by have:=b2 j k o2 o' t p6 ho' jw hd;omega)];refine(hI.off t (λk2 o2 p6 jw=> ?_)).symm;obtain rfl:=b2 k2 k o2 o' t p6 ho' jw hd
     cases hlk:listed.getD k2 false with
     | false=>rfl
     | true=>
      have:=hI.dep k2 o' ho' hlk e he hb;rw[hon]at this;rw[hil]at this
      cases this
    rw[gQ a0 hs1 b2 t (by rw[hn];exact b1 k o' t ho' hd) k o' ho' hd i (kV (Array.getElem?_eq_some_iff.1 ho).1) hk];obtain⟨v,hv,W0,_,_,_,h3⟩:=hI.on k o' t ho' hd (hon▸hall e he hb);rw[hv]
    cases hc:c k with
    | none=>simp[hv]
    | some u=>simp[cB,hc]at h3;simp[h3]
   ·rw[fu a0 e0 hs1 t i (kV (Array.getElem?_eq_some_iff.1 ho).1) (λj o' _ ho' jw=>hd ⟨j,o',ho',jw⟩)]
    exact(hI.off t (λk o' ho' jw=>absurd ⟨k,o',ho',jw⟩ hd)).symm
  by_cases JT:i=n0
  ·subst JT
   obtain rfl:osp=o:=Option.some.inj (Fy.symm.trans ho);have hd:=y7 (a' :=a) (Region.noSelect_spec b0 i osp · · ho) Ov (hq W (λt=>a.tmps.getD t undef) ⟨hI.world,λx hx hc=>hI.nD x hx (M_ x hx hc)⟩ (ag _ (λj o' t hj ho' hd ht=>by
   rcases List.mem_append.1 ht with ht | ht
   ·exact KH j o' t hj ho' hd ht
   ·exact h_ (List.all_eq_true.1 QU t ht) ho' hd)))
   obtain⟨FU,f,args,W',hrun,LQ⟩:=hd.out;unfold wpOp;simp only[ho,FU,jF]
   left
   unfold Oper.wp;rw[hrun];exact LQ.mono λe w'' ⟨ch,he,hQ⟩=>by
    subst he;refine hQ a hI.defers λt hnt=>hI.off t λk o ho jw=>absurd jw (hnt k o ho)
  have Hb:i < listed.size:=(bu hl).2;have hset:(listed.setIfInBounds i true).getD i false=true:=by simp[Hb]
  have hnd:(js ops n0).contains i=false:=by
   cases hcc:(js ops n0).contains i with
   | false=>rfl
   | true=>
    exfalso
    have hm:i∈js ops n0:=List.contains_iff_mem.1 hcc;have hmono:∀m,listed.getD m false=true->(listed.setIfInBounds i true).getD m false=true:=by
     intro m hm
     by_cases zk:i=m
     ·subst zk
      rw[hil]at hm
      cases hm
     ·rw[getD_set_ne _ zk];exact hm
    have:=iX (listed:=listed.setIfInBounds i true) (λk o' ho' hk e he hb=>by
     by_cases hki:i=k
     ·subst hki
      rw[ho]at ho';injection ho' with ho'
      subst ho';exact hmono _ (hall e he hb)
     ·rw[getD_set_ne _ hki]at hk
      exact hmono _ (hI.dep k o' ho' hk e he hb)) n0 i hm hset
    rw[getD_set_ne _ JT,Q5]at this
    cases this
  have PN:=(bu hl).1;have hop:=(hs i o ho).2.2 JT hnd W (λt=>a.tmps.getD t undef) ⟨hI.world,λx hx hc=>hI.nD x hx (M_ x hx hc)⟩ (ag _ (λj o' t hj ho' hd ht=>by
   rcases List.mem_append.1 ht with ht | ht
   ·exact KH j o' t hj ho' hd ht
   ·exact h_ (cS i o ho t ht) ho' hd))
  have hop:=lu (a' :=a) (Region.noSelect_spec b0 i o · · ho) Ov hop;have next:∀v W',jd Ws C A i W W' ->cB (c i) (φ i ((rd i).map λt=>a.tmps.getD t undef)) v W' ->wpAny P .any ops Q fuel (listed.setIfInBounds i true) (a.put o.dst v) W' :=λv W' hR hv=>
   ih _ _ _ (by omega) (by rw[getD_set_ne true JT];exact htl) (pj hF rA hB cS hn hI ho hl hall v hR hv)
  have tr:∀x y z,jd Ws C A i x y->jd Ws C A i y z->jd Ws C A i x z:=λx y z h k=>⟨hF.ct _ _ _ h.c k.c,λu hu hne=>hF.at_ _ _ _ _ (h.a u hu hne) (k.a u hu hne)⟩
  unfold wpOp;simp only[ho];replace hop:=hop.out
  split
  ·rename_i hw
   simp only[hw,jF]at hop
   left
   unfold Oper.wp
   generalize (execOp a.eval o).run P W=r at*
   cases r with
   | ok x w' =>
    cases x <;> simp only[dE]at hop <;> simp only[Oper.upon]
    ·exact next _ _ hop.1 hop.2
    ·exact next _ _ hop.1 hop.2
    ·exact hop.2.mono λe w'' ⟨v,he,hR,hv⟩=>by subst he;exact next _ _ (tr _ _ _ hop.1 hR) hv
    ·exact hop.2.mono λv w'' ⟨hR,hv⟩=>next _ _ (tr _ _ _ hop.1 hR) hv
   | halt x w' =>simp only[dE]at hop
  ·rename_i hw
   simp only[hw]at hop;exact next _ _ ⟨hF.cr _,λ_ _ _=>hF.ar _ _⟩ hop

theorem cZ {id:Nat}{Q:Exit->Act->au->Prop}{a:Act}{w:au}{l:List Oper}(Ws:List Wr)(C:au->au->Prop)(A:Nat->au->au->Prop)(n n0:Nat)(NG:List Tmp)(osp:Oper)(Fy:l[n0]? =some osp)(hF:dI Ws C A)(hm:P.follows .mixedOrders=true)(hn:a.tmps.size=n)
  (hB:(f_ n l.toArray && Kw l.toArray Ws && NG.all (dG l.toArray osp))=true)
  (h:fp P Ws C A w l.toArray n0 a (λenv=>∀W vals,j0 Ws C A n0 w W->aR Ws C A w vals n0 (osp.looksAt l.toArray++NG) W env->y8 P l.toArray a Q (fill vals env a) osp W) l []):(Code.region id l.toArray true).wp P Q a w:=by
 simp only[cR]at hB;have hlt:n0 < l.length:=(List.getElem?_eq_some_iff.1 Fy).1;obtain⟨E,c,rd,φ,e0,hlen,hs⟩:=oN l [] h;simp only[dR,iP]at hlen hs;have hq:=(hs n0 osp Fy).2.2.1 rfl;refine wp_region_any hm (sC (w0:=w) (n0:=n0) (osp:=osp) hF.fit hB.1.2 hB.1.1 (by simpa using Fy) hn e0 (λk hk=>hlen k (by simpa using hk)) (λk o ho=>⟨(hs k o (by simpa using ho)).1,(hs k o (by simpa using ho)).2.1,(hs k o (by simpa using ho)).2.2.2⟩) hB.2 hq.1 _ _ _ _ ?_ ?_ ⟨hF.c (ae.drew _),λx _ _=>hF.a (ae.drew _),rfl,rfl,by simp,λ_ _=>rfl,λk o d ho _ hk=> ?_,λk o ho _ hk=> ?_,λk o ho hk=> ?_⟩)
 ·unfold cN
  simp
 ·simp[hlt]
 all_goals
  exfalso
  by_cases h' :k < l.length <;> simp[h']at hk
end
section
variable {P:Program} {Ws:List Wr} {C:au->au->Prop} {A:Nat->au->au->Prop} {w0:au} {ops:Array Oper} {n0:Nat} {a0:Act} {Q:List fQ->Prop} {o:Oper} {rest:List Oper} {env:List fQ}
theorem iq:fp P Ws C A w0 ops n0 a0 Q [] env:=trivial
theorem gA (he:env.length=n0)(h:Q env)(hk:fp P Ws C A w0 ops n0 a0 Q rest (af o.dst none [] (λ_ _ _=>True) env)):fp P Ws C A w0 ops n0 a0 Q (o::rest) env:= .inl ⟨he,h,hk⟩
theorem bC (k:Nat)(he:env.length=k)(hne:k≠n0)(hd:(js ops n0).contains k=true)(hk:fp P Ws C A w0 ops n0 a0 Q rest (af o.dst none [] (λ_ _ _=>True) env)):fp P Ws C A w0 ops n0 a0 Q (o::rest) env:=by
 subst he;exact .inr (.inl ⟨⟨hne,hd⟩,hk⟩)
theorem bL (k:Nat)(v:Value)(he:env.length=k)(hne:k≠n0)(h:∀W vals,j0 Ws C A k w0 W->aR Ws C A w0 vals k (o.looksAt ops) W env->fH P (jd Ws C A k) ops (fill vals env a0) o (λu _=>u=v) W)
  (hk:fp P Ws C A w0 ops n0 a0 Q rest (af o.dst (some v) [] (λ_ _ _=>True) env)):fp P Ws C A w0 ops n0 a0 Q (o::rest) env:=by
 subst he;exact .inr (.inr ⟨hne,some v, [],_,(λ_ h=>nomatch h),λW vals hW ag=>h W vals hW (by rwa [dJ]at ag),hk⟩)
theorem qW (k:Nat)(rd:List Tmp)(φ:List Value->Value->au->Prop)(he:env.length=k)(hne:k≠n0)(cS:rd.all (dG ops o)=true)(h:∀W vals,j0 Ws C A k w0 W->aR Ws C A w0 vals k (o.looksAt ops++rd) W env->∀φ' :Value->au->Prop,Hid (∀u w,φ (rd.map vals) u w->φ' u w)->fH P (jd Ws C A k) ops (fill vals env a0) o φ' W)
  (hk:fp P Ws C A w0 ops n0 a0 Q rest (af o.dst none rd φ env)):fp P Ws C A w0 ops n0 a0 Q (o::rest) env:=by
 subst he;exact .inr (.inr ⟨hne,none,rd,φ,λt ht=>List.all_eq_true.1 cS t ht,λW vals hW ag=>h W vals hW ag _ (zh λ_ _ h=>h),hk⟩)
end

section
variable {w w' :au} {base r:Nat} {l:aG}
theorem Rd.len {base' :Nat}{l' :aG}(h:Rd w base r l)(h' :Rd w base' r l'):l.length=l'.length:=by
 obtain⟨A,c,h1,_⟩:=h;obtain⟨A',c',h2,_⟩:=h';have e1:=h1.cell 0;have e2:=h2.cell 0;simp only[cg,bU]at e1 e2;rw[e1]at e2;injection e2 with e2
 injection e2
end
/-- What none but one operation changes: what the reader has left when that one is met. -/
def sW (base r:Nat)(Le:aG)(Ls:Nat->aG):Nat->au->au->Prop:=λk w w' =>(Rd w base r (Ls k)->Rd w' base r (Ls k))/\(Rd w base r Le->Rd w' base r Le)
def qQ (r:Nat):au->au->Prop:=λw w' =>ae w w' [r]
def Uh (V V1 V2 V3 V4:aG)(k:Nat):aG:=if k=2 then V else if k=4 then V1 else if k=6 then V2 else if k=8 then V3 else V4
section
variable {Ws:List Wr} {base r:Nat} {Le:aG} {Ls:Nat->aG}
theorem iD:dI Ws (qQ r) (sW base r Le Ls):=by
 refine⟨⟨λx=>ae.refl _ _,λx y z h k=>ae.trans (T:= [r]) h k (λ_ hx _=>hx),λi x=>⟨id,id⟩,λi x y z h k=>⟨λq=>k.1 (h.1 q),λq=>k.2 (h.2 q)⟩⟩,λh=>ae.weaken h (by simp),λh=>⟨λq=>q.keep h (by simp),λq=>q.keep h (by simp)⟩⟩
theorem rU {k:Nat}{W W' :au}(h:Rd W base r (Ls k))(hk:ae W W' [r])(hl:∀x∈Ws,x.k≠k->(Ls x.k).length≠(Ls k).length)(he:Le.length≠(Ls k).length):jd Ws (qQ r) (sW base r Le Ls) k W W' :=
 ⟨hk,λx hx hne=>⟨λq=>absurd (q.len h) (hl x hx hne),λq=>absurd (q.len h) he⟩⟩
end
theorem Rd.row {w:au}{base r:Nat}{l:aG}(h:Rd w base r l):∃x,Row w r 130 #[x,.bool true]:=by
 obtain⟨A',c',q1,_⟩:=h;exact⟨_,q1⟩

theorem cz (w:au):
  Calls prog 30 #[.bool true] w λe w' =>e= .returned (.tuple #[])/\w=w' :=by
 go_enter func30,ntmps30
 go_wp2
 exact⟨rfl,Value.tuple #[],by kernel_rfl,rfl,rfl⟩
theorem bK (w:au):
  Calls prog 30 #[.bool false] w λe w' =>e= .panicked [{v:= .iface 67 (.agg #[]),recovered:=false}]/\w=w' :=by
 go_enter func30,ntmps30
 go_wp2
 exact⟨rfl,rfl,rfl⟩
/-- What reading does. -/
def DL (w:au)(base r:Nat)(o:Option (Value×aG))(e:Ending)(w' :au):Prop:=ae w w' [r]/\match o with
 | some (v,t)=>e= .returned v/\Rd w' base r t
 | none=>e= .panicked [{v:= .iface 67 (.agg #[]),recovered:=false}]
theorem xR (w:au)(base r k:Nat)(l:aG)(h:Rd w base r l)(hk1:1<=k)(pG:k<=8):
  Calls prog 58 #[.agg #[.pointer (some ⟨r,0,none⟩)],.int .i64 k] w (DL w base r ((jv k l).map λ(n,t)=>(.int .i64 (wrap64 (n:Nat)),t))):=by
 have ka:ae w (w.alloc (.cells #[.pointer (some ⟨r,0,none⟩)] 74)) []:=ae.alloc _ _;have HA:=zh ka;have HN:=zh (ub _ base r k l (h.keep ka (by simp)) hk1 pG);clear ka h;obtain⟨o,ho⟩:∃o,jv k l=o:=⟨_,rfl⟩;rw[ho]at HN ⊢
 clear ho
 go_enter func58,ntmps58
 go_wp2_with fail
 refine HN.o.mono ?_
 cases o with
 | none=>
  rintro e w2 ⟨hk2,rfl,qY⟩;have H2:=zh (And.intro (HA.o.weaken (T:= [r]) (by simp)) hk2);clear hk2 qY
  go_wp2_with (go_at_call 30;refine(bK _).mono ?_;rintro e w' ⟨rfl,rfl⟩)
  exact⟨rfl,H2.o.1.trans H2.o.2 (by simp),rfl⟩
 | some p=>
  obtain⟨n,t⟩:=p;rintro e w2 ⟨hk2,rfl,qY⟩;have H2:=zh (And.intro (And.intro (HA.o.weaken (T:= [r]) (by simp)) hk2) qY);clear hk2 qY
  go_wp2_with (go_at_call 30;refine(cz _).mono ?_;rintro e w' ⟨rfl,rfl⟩)
  go_ret;exact⟨H2.o.1.1.trans H2.o.1.2 (by simp),rfl,H2.o.2⟩
theorem tD (w:au)(base r:Nat)(l:aG)(h:Rd w base r l):
  Calls prog 71 #[.agg #[.pointer (some ⟨r,0,none⟩)]] w (DL w base r ((cQ l).map λ(s,t)=>(lI s,t))):=by
 have ka:ae w (w.alloc (.cells #[.pointer (some ⟨r,0,none⟩)] 74)) []:=ae.alloc _ _;have HA:=zh ka;have HN:=zh (EN _ base r l (h.keep ka (by simp)));clear ka h;obtain⟨o,ho⟩:∃o,cQ l=o:=⟨_,rfl⟩;rw[ho]at HN ⊢
 clear ho
 go_enter func71,ntmps71
 go_wp2_with fail
 refine HN.o.mono ?_
 cases o with
 | none=>
  rintro e w2 ⟨hk2,rfl,qY⟩;have H2:=zh (And.intro (HA.o.weaken (T:= [r]) (by simp)) hk2);clear hk2 qY
  go_wp2_with (go_at_call 30;refine(bK _).mono ?_;rintro e w' ⟨rfl,rfl⟩)
  exact⟨rfl,H2.o.1.trans H2.o.2 (by simp),rfl⟩
 | some p=>
  obtain⟨s,t⟩:=p;rintro e w2 ⟨hk2,rfl,qY⟩;have H2:=zh (And.intro (And.intro (HA.o.weaken (T:= [r]) (by simp)) hk2) qY);clear hk2 qY
  go_wp2_with (go_at_call 30;refine(cz _).mono ?_;rintro e w' ⟨rfl,rfl⟩)
  go_ret;exact⟨H2.o.1.1.trans H2.o.1.2 (by simp),rfl,H2.o.2⟩
section
variable {w w' :au} {base r k:Nat} {l t s:aG} {n:Nat}
theorem vI (h:Rd w base r l)(e:jv k l=some (n,t))(hk1:1<=k)(pG:k<=8){k' :Int}(hk' :k' =k):
  Calls prog 58 #[.agg #[.pointer (some ⟨r,0,none⟩)],.int .i64 k'] w λe w' =>ae w w' [r]/\e= .returned (.int .i64 (wrap64 (n:Nat)))/\Rd w' base r t:=by
 subst hk';have:=xR w base r k l h hk1 pG;rw[e]at this;exact this.mono λe w' ⟨h1,h2,h3⟩=>⟨h1,h2,h3⟩
theorem gF (h:Rd w base r l)(e:jv k l=none)(hk1:1<=k)(pG:k<=8){k' :Int}(hk' :k' =k):
  Calls prog 58 #[.agg #[.pointer (some ⟨r,0,none⟩)],.int .i64 k'] w λe w' =>ae w w' [r]/\e= .panicked [{v:= .iface 67 (.agg #[]),recovered:=false}]:=by
 subst hk';have:=xR w base r k l h hk1 pG;rw[e]at this;exact this.mono λe w' ⟨h1,h2⟩=>⟨h1,h2⟩
theorem da (h:Rd w base r l)(e:cQ l=some (s,t)):
  Calls prog 71 #[.agg #[.pointer (some ⟨r,0,none⟩)]] w λe w' =>ae w w' [r]/\e= .returned (lI s)/\Rd w' base r t:=by
 have:=tD w base r l h;rw[e]at this;exact this.mono λe w' ⟨h1,h2,h3⟩=>⟨h1,h2,h3⟩
theorem eI (h:Rd w base r l)(e:cQ l=none):
  Calls prog 71 #[.agg #[.pointer (some ⟨r,0,none⟩)]] w λe w' =>ae w w' [r]/\e= .panicked [{v:= .iface 67 (.agg #[]),recovered:=false}]:=by
 have:=tD w base r l h;rw[e]at this;exact this.mono λe w' ⟨h1,h2⟩=>⟨h1,h2⟩
end
section
variable {w:au} {base r:Nat} {l t:aG} {n:Nat}
theorem eT (h:Rd w base r l)(e:jv 1 l=some (n,t)):
  Calls prog 58 #[.agg #[.pointer (some ⟨r,0,none⟩)],.int .i64 1] w λe w' =>ae w w' [r]/\e= .returned (.int .i64 (n:Nat))/\Rd w' base r t:=by
 have h1:=(bJ e).2.1;have e2:wrap64 (n:Int)=n:=IntWalk.wrap64_in _ (by omega);have:=vI (k' :=1) h e (by omega) (by omega) rfl
 rwa [e2]at this
theorem mn (h:Rd w base r l)(e:jv 2 l=some (n,t)):
  Calls prog 58 #[.agg #[.pointer (some ⟨r,0,none⟩)],.int .i64 2] w λe w' =>ae w w' [r]/\e= .returned (.int .i64 (n:Nat))/\Rd w' base r t:=by
 have h1:=(bJ e).2.1;have e2:wrap64 (n:Int)=n:=IntWalk.wrap64_in _ (by omega);have:=vI (k' :=2) h e (by omega) (by omega) rfl
 rwa [e2]at this
end
end Go.Proofs.YtahbikfbjenfpaaGreatDoor
