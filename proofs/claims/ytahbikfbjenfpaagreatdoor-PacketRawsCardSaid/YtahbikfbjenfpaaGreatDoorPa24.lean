/- Package wire: what a reader answers to any bytes: numbers, texts, truths. A region that draws its order, of which one operation may write what lay: each operation met once; the last ones may stand in a row. A region of which one operation writes block K, the last ones in a row: in words for the walk. A region that draws its order and in which one call gives up: each operation met once. A region that draws its order, of which some operations write, and in which one call gives up: each operation that may come ahead of it met once. Package wire: a reader that is read from inside a region that draws its order: what none but one operation changes. Package packet: must, a reader's number and text, which give up where there is none. -/
import Derived.Test.YtahbikfbjenfpaaGreatDoorPa21
import Derived.Test.YtahbikfbjenfpaaGreatDoorPa1
import Derived.Test.YtahbikfbjenfpaaGreatDoorPa3
import Derived.Test.YtahbikfbjenfpaaGreatDoorPa2

namespace Go.Proofs.YtahbikfbjenfpaaGreatDoor
open Go.RowKit

set_option maxRecDepth 100000 in
set_option maxHeartbeats 1000000 in
theorem rdTake1_no (w:World)(r bx n len c:Nat)(A:Option Addr)(h:Row w r 130 #[.slice A len c,.bool true])(hb:w.cell? ⟨bx,0,none⟩=some (.pointer (some ⟨r,0,none⟩)))(hn:len < n):
  Calls Tryz.prog 163 #[.int .i64 n,.pointer (some ⟨bx,0,none⟩)] w fun e w' =>e= .returned (.tuple #[.slice none 0 0,.bool false])∧w' =w:=by
 have h0:=h.cell 0;have H:=zh h;clear h;have hlt:decide ((len:Int) < (n:Int))=true:=by simp;omega
 go_enter Tryz.func163,Tryz.ntmps163
 go_wp2
 go_ret2
 exact⟨rfl,rfl⟩
set_option maxRecDepth 100000 in
set_option maxHeartbeats 1000000 in
theorem rdNumber_no (w:World)(base r k:Nat)(l:List UInt8)(h:Rd w base r l)(hk1:1≤k)(hk8:k≤8)(hkl:l.length < k):
  Calls Tryz.prog 108 #[.pointer (some ⟨r,0,none⟩),.int .i64 k] w fun e w' =>e= .returned (.tuple #[.int .u64 0,.int .i64 130])∧Keeps w w' []:=by
 obtain⟨A,c,hr,hbr,hc,hnil,hcm,hL,had⟩:=h;have HR:=zh hr;clear hr hL hnil had;have hw:withinB (k:Int) 1 8=true:=by simp[withinB];omega
 go_enter Tryz.func108,Tryz.ntmps108
 go_wp2_with fail
 refine(rdNone_any _ _ _ HR.out).mono ?_;rintro e w1 ⟨rfl,rfl⟩
 go_wp2_with fail
 refine(wide_any _ _).mono ?_;rintro e w1 ⟨rfl,rfl⟩;rw[hw];clear hw
 go_wp2_with fail
 refine(rdTake_any _ _).mono ?_;rintro e w1 ⟨rfl,rfl⟩
 go_wp2_with fail
 refine(rdTake1_no _ r w.heap.size k l.length c A (HR.out.alloc _) (by simp[World.cell?_alloc_new]) hkl).mono ?_;rintro e w2 ⟨rfl,rfl⟩
 go_wp2_with fail
 go_ret2
 exact⟨rfl,Keeps.alloc _ _⟩
/-- What a reader does: it answers, and these bytes are left; or it refuses. -/
def RdDoes (w:World)(base r:Nat)(l:List UInt8)(o:Option (Value×List UInt8))(no:Value)(e:Ending)(w' :World):Prop:=Keeps w w' [r]∧match o with
 | some (v,t)=>e= .returned (.tuple #[v,.int .i64 0])∧Rd w' base r t
 | none=>e= .returned (.tuple #[no,.int .i64 130])∧Rd w' base r l
theorem rdNumber_is (w:World)(base r k:Nat)(l:List UInt8)(h:Rd w base r l)(hk1:1≤k)(hk8:k≤8):
  Calls Tryz.prog 108 #[.pointer (some ⟨r,0,none⟩),.int .i64 k] w (RdDoes w base r l ((rdN k l).map fun(n,t)=>(.int .u64 (n:Nat),t)) (.int .u64 0)):=by
 unfold rdN
 by_cases hkl:k≤l.length
 ·rw[if_pos hkl]
  exact(rdNumber_any w base r k l h hk1 hk8 hkl).mono fun e w' ⟨h1,h2,h3⟩=>⟨h3,h1,h2⟩
 ·rw[if_neg hkl]
  exact(rdNumber_no w base r k l h hk1 hk8 (by omega)).mono fun e w' ⟨h1,h2⟩=>⟨h2.weaken (by simp),h1,h.keep h2 (by simp)⟩
set_option maxRecDepth 100000 in
set_option maxHeartbeats 400000 in
theorem rdLeft_any (w:World)(base r:Nat)(l:List UInt8)(h:Rd w base r l):
  Calls Tryz.prog 33 #[.pointer (some ⟨r,0,none⟩)] w fun e w' =>e= .returned (.int .i64 l.length)∧w=w' :=by
 obtain⟨A,c,hr,hbr,hc,hnil,hcm,hL,had⟩:=h;have h0:=hr.cell 0;simp only[zga,zgz]at h0;have HR:=zh hr;clear hr hL hnil had
 go_enter Tryz.func33,Tryz.ntmps33
 go_wp2_with fail
 refine(rdNone_any _ _ _ HR.out).mono ?_;rintro e w1 ⟨rfl,rfl⟩
 go_wp2_with fail
 go_ret;exact⟨rfl,rfl⟩
/-- The reader's own row, put back. -/
theorem Rd.back {w w' :World}{base r:Nat}{l:List UInt8}{A:Option Addr}{c:Nat}{x:Value}(hr:Row w' r 130 #[x,.bool true])(hb:base≤r)(hc:l.length≤c)(hnil:A=none→c=0)(hcm:c≤maxLen)(hL:Lies w w.heap.size A (l.map byteV))(had:∀ad,A=some ad→base≤ad.block∧ad.block < r)(hk:Keeps w w' [r]):
  Rd (w'.setCell ⟨r,0,none⟩ (.slice A l.length c)) base r l:=by
 have h1:=hr.store 0 (.slice A l.length c);refine⟨A,c,by simpa using h1,hb,hc,hnil,hcm, ?_,had⟩;have hk2:=hk.trans (Keeps.setCell w' ⟨r,0,none⟩ (.slice A l.length c)) (by simp);exact(hL.keep' hk2 (Nat.le_refl _) (fun b o e hm=>by simp at hm;exact absurd hm (Nat.ne_of_lt (had _ e).2))).mono hk2.size
set_option maxRecDepth 100000 in
set_option maxHeartbeats 2000000 in
theorem rdText_is (w:World)(base r:Nat)(l:List UInt8)(h:Rd w base r l):
  Calls Tryz.prog 120 #[.pointer (some ⟨r,0,none⟩)] w (RdDoes w base r l ((rdTx l).map fun(s,t)=>(strV s,t)) (.string ⟨#[]⟩)):=by
 have HRd:=zh h;obtain⟨A,c,hr,hbr,hc,hnil,hcm,hL,had⟩:=h;have h0:=hr.cell 0;simp only[zga,zgz]at h0;have HR:=zh hr;have HL:=zh (And.intro hL (And.intro hnil had));clear hr hnil had hL;have HN:=zh (rdNumber_is w base r 2 l HRd.out (by omega) (by omega))
 cases hn:rdN 2 l with
 | none=>
  rw[hn]at HN;have HT:=zh (show rdTx l=none by unfold rdTx;rw[hn]);clear hn
  go_enter Tryz.func120,Tryz.ntmps120
  go_wp2_with fail
  refine(rdNone_any _ _ _ HR.out).mono ?_;rintro e w1 ⟨rfl,rfl⟩
  go_wp2_with fail
  refine HN.out.mono ?_;rintro e w2 ⟨hk2,rfl,hrd2⟩;obtain⟨A2,c2,hr2,hbr2,hc2,hnil2,hcm2,hL2,had2⟩:=hrd2;have H2:=zh (And.intro hk2 (And.intro hr2 (And.intro hL2 (And.intro hnil2 had2))));clear hk2 hr2 hL2 hnil2 had2 h0
  go_wp2_with fail
  refine(rdTake_any _ _).mono ?_;rintro e w3 ⟨rfl,rfl⟩
  go_wp2_with fail
  have HX:=zh (rdTake1_any (w2.alloc (.cells #[.pointer (some ⟨r,0,none⟩)] 71)) r w2.heap.size 0 l.length c2 A2 (H2.out.2.1.alloc _) (by simp[World.cell?_alloc_new]) (Nat.zero_le _) hc2 hcm2);refine HX.out.mono ?_;rintro e w4 ⟨rfl,hw4⟩;have hr4:Row w4 r 130 #[.slice (if c2=0 then A2 else A2.map (·.add (0:Nat))) (l.length - 0) (c2 - 0),.bool true]:=by
   subst hw4;exact((H2.out.2.1.alloc _).store 0 _)
  have hk4:Keeps w2 w4 [r]:=by
   subst hw4;exact(((Keeps.alloc w2 _).weaken (T:= [r]) (by simp)).trans (Keeps.setCell _ ⟨r,0,none⟩ _) (by simp)).trans (Keeps.drew _) (by simp)
  have h4:=hr4.cell 0;have f4:=hr4.frozen 0;simp only[zga,zgz]at h4;have H4:=zh (And.intro hr4 (H2.out.1.trans hk4 (by simp)));clear hr4 hk4 hw4 HX
  go_wp2_with fail
  go_ret2
  rw[HT.out];exact⟨H4.out.2.trans (Keeps.setCell _ _ _) (by simp),rfl,Rd.back H4.out.1 hbr hc HL.out.2.1 hcm HL.out.1 HL.out.2.2 H4.out.2⟩
 | some p=>
  obtain⟨n,t⟩:=p;obtain⟨s1,s2,s3⟩:=rdN_sound hn;have hn16:n < 65536:=by simpa using s2
  rw[hn]at HN
  by_cases hle:n≤t.length
  ·have HT:=zh (show rdTx l=some (t.take n,t.drop n)by unfold rdTx;rw[hn];simp only;rw[if_pos hle])
   clear hn s1 s2 s3;have hwn:IntKind.i64.wrap (n:Int)=(n:Int):=IntWalk.i64_in _ ⟨by omega,by omega⟩
   go_enter Tryz.func120,Tryz.ntmps120
   go_wp2_with fail
   refine(rdNone_any _ _ _ HR.out).mono ?_;rintro e w1 ⟨rfl,rfl⟩
   go_wp2_with fail
   refine HN.out.mono ?_;rintro e w2 ⟨hk2,rfl,hrd2⟩;obtain⟨A2,c2,hr2,hbr2,hc2,hnil2,hcm2,hL2,had2⟩:=hrd2;have H2:=zh (And.intro hk2 (And.intro hr2 (And.intro hL2 (And.intro hnil2 had2))));clear hk2 hr2 hL2 hnil2 had2 h0
   go_wp2_with fail
   refine(rdTake_any _ _).mono ?_;rintro e w3 ⟨rfl,rfl⟩
   go_wp2_with fail
   have HX:=zh (rdTake1_any (w2.alloc (.cells #[.pointer (some ⟨r,0,none⟩)] 71)) r w2.heap.size n t.length c2 A2 (H2.out.2.1.alloc _) (by simp[World.cell?_alloc_new]) hle hc2 hcm2);refine HX.out.mono ?_;rintro e w4 ⟨rfl,hw4⟩;have hr4:Row w4 r 130 #[.slice (if c2=n then A2 else A2.map (·.add n)) (t.length - n) (c2 - n),.bool true]:=by
    subst hw4;exact((H2.out.2.1.alloc _).store 0 _)
   have hk4:Keeps w2 w4 [r]:=by
    subst hw4;exact(((Keeps.alloc w2 _).weaken (T:= [r]) (by simp)).trans (Keeps.setCell _ ⟨r,0,none⟩ _) (by simp)).trans (Keeps.drew _) (by simp)
   have hL4:Lies w4 w2.heap.size A2 (t.map byteV):=H2.out.2.2.1.keep' hk4 (Nat.le_refl _) (fun b o e hm=>by simp at hm;exact absurd hm (Nat.ne_of_lt (H2.out.2.2.2.2 _ e).2));have hlt:(t.take n).length=n:=by rw[List.length_take];omega
   have hcv:=conv_str w4 w2.heap.size A2 n (t.take n) (by rw[List.map_take];exact hL4.take n);rw[hlt]at hcv;have H4:=zh (And.intro hr4 (And.intro hk4 hL4));clear hr4 hk4 hw4 HX hL4
   go_wp2_with fail
   go_ret2
   rw[HT.out];refine⟨H2.out.1.trans H4.out.2.1 (by simp),rfl, ?_⟩;have hal:(if c2=n then A2 else A2.map (·.add n))=none→c2 - n=0:=by
    intro hn
    split at hn
    ·omega
    ·have:A2=none:=by simpa using hn
     have:=H2.out.2.2.2.1 this;omega
   have hll:(t.drop n).length=t.length - n:=by simp
   refine⟨_,c2 - n,by rw[hll];exact H4.out.1,hbr,by rw[hll];omega,hal,by omega, ?_, ?_⟩
   ·have:=H4.out.2.2.cut (k:=n) (cap:=c2) (by simpa using hc2)
    rw[List.map_drop];exact this.mono H4.out.2.1.size
   ·intro ad had
    split at had
    ·exact H2.out.2.2.2.2 ad had
    ·cases A2 with
     | none=>cases had
     | some a0=>
      simp only[Option.map_some,Option.some.injEq]at had;subst had;have:=H2.out.2.2.2.2 a0 rfl;have hblk:(a0.add n).block=a0.block:=by unfold Addr.add;split <;> rfl
      rw[hblk];exact this
  ·have HT:=zh (show rdTx l=none by unfold rdTx;rw[hn];simp only;rw[if_neg hle])
   clear hn s1 s2 s3;have hwn:IntKind.i64.wrap (n:Int)=(n:Int):=IntWalk.i64_in _ ⟨by omega,by omega⟩
   go_enter Tryz.func120,Tryz.ntmps120
   go_wp2_with fail
   refine(rdNone_any _ _ _ HR.out).mono ?_;rintro e w1 ⟨rfl,rfl⟩
   go_wp2_with fail
   refine HN.out.mono ?_;rintro e w2 ⟨hk2,rfl,hrd2⟩;obtain⟨A2,c2,hr2,hbr2,hc2,hnil2,hcm2,hL2,had2⟩:=hrd2;have H2:=zh (And.intro hk2 hr2);clear hk2 hr2 hL2 hnil2 had2 h0
   go_wp2_with fail
   refine(rdTake_any _ _).mono ?_;rintro e w3 ⟨rfl,rfl⟩
   go_wp2_with fail
   refine(rdTake1_no (w2.alloc (.cells #[.pointer (some ⟨r,0,none⟩)] 71)) r w2.heap.size n t.length c2 A2 (H2.out.2.alloc _) (by simp[World.cell?_alloc_new]) (by omega)).mono ?_;rintro e w4 ⟨rfl,hw4⟩;have hr4:Row w4 r 130 #[.slice A2 t.length c2,.bool true]:=by
    subst hw4;exact H2.out.2.alloc _
   have hk4:Keeps w2 w4 []:=by
    subst hw4;exact Keeps.alloc w2 _
   have f4:=hr4.frozen 0;have h4:=hr4.cell 0;simp only[zga,zgz]at h4;have H4:=zh (And.intro hr4 (H2.out.1.trans (hk4.weaken (T:= [r]) (by simp)) (by simp)));clear hr4 hk4 hw4
   go_wp2_with fail
   go_ret2
   rw[HT.out];exact⟨H4.out.2.trans (Keeps.setCell _ _ _) (by simp),rfl,Rd.back H4.out.1 hbr hc HL.out.2.1 hcm HL.out.1 HL.out.2.2 H4.out.2⟩

section
variable (P:Program) (R R1:World→World→Prop) (d:Tmp) (w0:World) (ops:Array Oper) (vals:Tmp→Value)
def relS (t:Option Tmp):World→World→Prop:=if t=some d then R1 else R
def knowsS (rs:List Tmp)(W:World):List Ent→Prop
 | []=>True
 | ⟨_,some _,_,_⟩::l=>knowsS rs W l
 | ⟨none,none,_,_⟩::l=>knowsS rs W l
 | ⟨some t,none,rd,φ⟩::l=>(t∈rs→∃W0,R w0 W0∧relS R R1 d (some t) W0 W∧φ (rd.map vals) (vals t) W0)∧knowsS rs W l

def knowsAllS (W:World):List Ent→Prop
 | []=>True
 | ⟨_,some _,_,_⟩::l=>knowsAllS W l
 | ⟨none,none,rd,φ⟩::l=>(∃u W0,R w0 W0∧R W0 W∧φ (rd.map vals) u W0)∧knowsAllS W l
 | ⟨some t,none,rd,φ⟩::l=>(∃W0,R w0 W0∧relS R R1 d (some t) W0 W∧φ (rd.map vals) (vals t) W0)∧knowsAllS W l

def wpLooseS (a0:Act)(Q:List Ent→Prop):List Oper→List Ent→Prop
 | [],env=>Q env
 | o::rest,env=>∃c rd φ,(∀t∈rd,waitsB ops o t=true)∧(∀W vals,R w0 W→(o.dst=some d→R1 w0 W)→knowsS R R1 d w0 vals (o.looksAt ops) W env→opOk P (if o.dst=some d then R else R1) ops (fill vals env a0) o (entOf c (φ (rd.map vals))) W)∧wpLooseS a0 Q rest (addEnt o.dst c rd φ env)
end

section
variable {P:Program} {R R1:World→World→Prop} {d:Tmp} {w0:World} {ops:Array Oper} {vals:Tmp→Value}
/-- What stands while the region runs. -/
structure LooseInvS (R R1:World→World→Prop)(ds:Tmp)(w0:World)(ops:Array Oper)(a0:Act)(c:Nat→Option Value)(rd:Nat→List Tmp)(φ:Nat→List Value→Value→World→Prop)(listed:Array Bool)(a:Act)(W:World):Prop where
 world:R w0 W
 world1:(∀k o,ops[k]? =some o→o.dst=some ds→listed.getD k false=false)→R1 w0 W
 defers:a.defers=a0.defers
 size:a.tmps.size=a0.tmps.size
 lsize:listed.size=ops.size
 off:∀t,(∀k o,ops[k]? =some o→o.dst=some t→listed.getD k false=false)→a.tmps[t]? =a0.tmps[t]?
 on:∀k o d,ops[k]? =some o→o.dst=some d→listed.getD k false=true→∃v,a.tmps[d]? =some v∧∃W0,R w0 W0∧relS R R1 ds (some d) W0 W∧entOf (c k) (φ k ((rd k).map fun t=>a.tmps.getD t undef)) v W0
 onn:∀k o,ops[k]? =some o→o.dst=none→listed.getD k false=true→∃u W0,R w0 W0∧R W0 W∧entOf (c k) (φ k ((rd k).map fun t=>a.tmps.getD t undef)) u W0
 dep:∀k o,ops[k]? =some o→listed.getD k false=true→∀e∈o.after,Region.binds .any e=true→listed.getD e.on false=true

end

section
variable {P:Program} {R R1:World→World→Prop} {d:Tmp} {w0:World} {ops:Array Oper} {a0:Act} {Q:List Ent→Prop} {o:Oper} {rest:List Oper} {env:List Ent}
/-- All that was there stays, but for block K. -/
abbrev KeepsBut (K:Nat)(w w' :World):Prop:=Keeps w w' [K]
end

section
variable (P:Program) (ops:Array Oper) (a0:Act) (Q:Exit→Act→World→Prop)
/-- The call gives up, and what is asked then stands whatever the region has brought up. -/
structure opDies (a:Act)(o:Oper)(W:World):Prop where
 out:Region.wanted o (yielded ops a.tmps)=true∧∃f args W',(execOp a.eval o).run P W= .ok (.enter f args) W' ∧
  Calls P f args W' (fun e w'' =>∃ch,e= .panicked ch∧∀a' :Act,a'.defers=a0.defers→(∀t,(∀(k:Nat) (o:Oper),ops[k]? =some o→o.dst≠some t)→a'.tmps[t]? =a0.tmps[t]?)→Q (.panic ch) a' w'')
end
theorem off_all {ops:Array Oper}{t:Tmp}(h:(ops.all fun o=>o.dst !=some t)=true):∀(k:Nat) (o:Oper),ops[k]? =some o→o.dst≠some t:=fun k o ho=>by
 have:=Array.all_eq_true_iff_forall_mem.1 h o (Array.mem_of_getElem? ho)
 simpa using this
section
variable {P:Program} {R:World→World→Prop} {w0:World} {ops:Array Oper} {vals:Tmp→Value}
theorem opDies_congr {a0 a a' :Act}{o:Oper}{Q:Exit→Act→World→Prop}{W:World}(hsel:∀cs b,o.op≠ .select cs b)(h:∀t∈o.looksAt ops,a.tmps[t]? =a'.tmps[t]?)(hh:opDies P ops a0 Q a o W):opDies P ops a0 Q a' o W:=by
 have he:execOp a.eval o=execOp a'.eval o:=execOp_congr o hsel fun x hx=>by
  cases x with
  | tmp t=>
   have:=h t (List.mem_append_left _ (List.mem_filterMap.2 ⟨.tmp t,by simpa using hx,rfl⟩));simp[Act.eval,this]
  | _=>rfl
 have hy:Region.wanted o (yielded ops a.tmps)=Region.wanted o (yielded ops a'.tmps):=by
  unfold Region.wanted
  cases hg:o.guard with
  | none=>rfl
  | some gw=>
   obtain⟨g,want⟩:=gw;have:yielded ops a.tmps g=yielded ops a'.tmps g:=by
    unfold yielded
    cases ht:(ops[g]?).bind (·.dst)with
    | none=>rfl
    | some t=>
     have:=h t (List.mem_append_right _ (by simp[hg,ht]));simp[this]
   simp only[this]
 obtain⟨hh⟩:=hh;rw[he,hy]at hh;exact⟨hh⟩

end

section
variable (P:Program) (Ws:List Wr) (C:World→World→Prop) (A:Nat→World→World→Prop) (w0:World) (ops:Array Oper) (n0:Nat)
def wpLooseD (a0:Act)(Q:List Ent→Prop):List Oper→List Ent→Prop
 | [],_=>True
 | o::rest,env=>(env.length=n0∧Q env∧wpLooseD a0 Q rest (addEnt o.dst none [] (fun _ _ _=>True) env))∨
   ((env.length≠n0∧(descB ops n0).contains env.length=true)∧wpLooseD a0 Q rest (addEnt o.dst none [] (fun _ _ _=>True) env))∨
   (env.length≠n0∧∃c rd φ,(∀t∈rd,waitsB ops o t=true)∧(∀W vals,PreK Ws C A env.length w0 W→knowsK Ws C A w0 vals env.length (o.looksAt ops++rd) W env→opOk P (StpK Ws C A env.length) ops (fill vals env a0) o (entOf c (φ (rd.map vals))) W)∧wpLooseD a0 Q rest (addEnt o.dst c rd φ env))
end
section
variable {P:Program} {Ws:List Wr} {C:World→World→Prop} {A:Nat→World→World→Prop} {w0:World} {ops:Array Oper} {n0:Nat}
theorem wpLooseD_table {a0:Act}{Q:List Ent→Prop}:∀(l:List Oper) (env:List Ent),wpLooseD P Ws C A w0 ops n0 a0 Q l env→
  ∃(E:Nat→List Ent) (c:Nat→Option Value) (rd:Nat→List Tmp) (φ:Nat→List Value→Value→World→Prop),E 0=env∧(∀k,k≤l.length→(E k).length=env.length+k)∧
   (∀k o,l[k]? =some o→E (k+1)=addEnt o.dst (c k) (rd k) (φ k) (E k)∧(∀t∈rd k,waitsB ops o t=true)∧(env.length+k=n0→Q (E k)∧rd k= [])∧(env.length+k≠n0→(descB ops n0).contains (env.length+k)=false→∀W vals,PreK Ws C A (env.length+k) w0 W→knowsK Ws C A w0 vals (env.length+k) (o.looksAt ops++rd k) W (E k)→opOk P (StpK Ws C A (env.length+k)) ops (fill vals (E k) a0) o (entOf (c k) (φ k ((rd k).map vals))) W))
 | [],env,_=>⟨fun _=>env,fun _=>none,fun _=> [],fun _ _ _ _=>True,rfl,fun k hk=>by simp at hk;simp[hk],fun k o ho=>by simp at ho⟩
 | o::rest,env,h=>by
  have main:∀(c0:Option Value) (rd0:List Tmp) (φ0:List Value→Value→World→Prop),(∀t∈rd0,waitsB ops o t=true)→(env.length=n0→Q env∧rd0= [])→(env.length≠n0→(descB ops n0).contains env.length=false→∀W vals,PreK Ws C A env.length w0 W→knowsK Ws C A w0 vals env.length (o.looksAt ops++rd0) W env→opOk P (StpK Ws C A env.length) ops (fill vals env a0) o (entOf c0 (φ0 (rd0.map vals))) W)→wpLooseD P Ws C A w0 ops n0 a0 Q rest (addEnt o.dst c0 rd0 φ0 env)→
   ∃(E:Nat→List Ent) (c:Nat→Option Value) (rd:Nat→List Tmp) (φ:Nat→List Value→Value→World→Prop),E 0=env∧(∀k,k≤(o::rest).length→(E k).length=env.length+k)∧
   (∀k o',(o::rest)[k]? =some o' →E (k+1)=addEnt o'.dst (c k) (rd k) (φ k) (E k)∧(∀t∈rd k,waitsB ops o' t=true)∧(env.length+k=n0→Q (E k)∧rd k= [])∧(env.length+k≠n0→(descB ops n0).contains (env.length+k)=false→∀W vals,PreK Ws C A (env.length+k) w0 W→knowsK Ws C A w0 vals (env.length+k) (o'.looksAt ops++rd k) W (E k)→opOk P (StpK Ws C A (env.length+k)) ops (fill vals (E k) a0) o' (entOf (c k) (φ k ((rd k).map vals))) W)):=by
   intro c0 rd0 φ0 h0 h1 h2 h3;obtain⟨E,c',rd',φ',e0,hl,hs⟩:=wpLooseD_table rest _ h3;have hadd:(addEnt o.dst c0 rd0 φ0 env).length=env.length+1:=by simp[addEnt]
   rw[hadd]at hl hs;refine⟨fun | 0=>env | k+1=>E k,fun | 0=>c0 | k+1=>c' k,fun | 0=>rd0 | k+1=>rd' k,fun | 0=>φ0 | k+1=>φ' k,rfl, ?_, ?_⟩
   ·intro k hk
    cases k with
    | zero=>rfl
    | succ k=>
     have:=hl k (by simpa using hk);show(E k).length=_;omega
   ·intro k o' ho'
    cases k with
    | zero=>
     simp only[zgz,Option.some.injEq]at ho';subst ho';exact⟨e0,h0,h1,h2⟩
    | succ k=>
     have h4:=hs k o' (by simpa using ho');rw[show env.length+1+k=env.length+(k+1)by omega]at h4;exact h4
  rcases h with⟨h1,h2,h3⟩ | ⟨⟨h1,h2⟩,h3⟩ | ⟨h1,c,rd,φ,h2,h4,h3⟩
  ·exact main none [] _ (fun _ h=>nomatch h) (fun _=>⟨h2,rfl⟩) (fun h=>absurd h1 h) h3
  ·exact main none [] _ (fun _ h=>nomatch h) (fun h=>absurd h h1) (fun _ h=>by rw[h2]at h;cases h) h3
  ·exact main c rd φ h2 (fun h=>absurd h h1) (fun _ _=>h4) h3
theorem loose_dies_soundK {n:Nat}{osp:Oper}{rdn:List Tmp}{a0:Act}{c:Nat→Option Value}{rd:Nat→List Tmp}{φ:Nat→List Value→Value→World→Prop}{E:Nat→List Ent}{Q:Exit→Act→World→Prop}(hF:FitK C A)(hwr:wrB ops Ws=true)
  (hB:looseB n ops=true) (hosp:ops[n0]? =some osp) (hn:a0.tmps.size=n) (e0:E 0= [])
  (hlen:∀k,k≤ops.size→(E k).length=k)
  (hs:∀k o,ops[k]? =some o→E (k+1)=addEnt o.dst (c k) (rd k) (φ k) (E k)∧(∀t∈rd k,waitsB ops o t=true)∧(k≠n0→(descB ops n0).contains k=false→∀W vals,PreK Ws C A k w0 W→knowsK Ws C A w0 vals k (o.looksAt ops++rd k) W (E k)→opOk P (StpK Ws C A k) ops (fill vals (E k) a0) o (entOf (c k) (φ k ((rd k).map vals))) W))
  (hrdn:rdn.all (waitsB ops osp)=true)
  (hq:∀W vals,PreK Ws C A n0 w0 W→knowsK Ws C A w0 vals n0 (osp.looksAt ops++rdn) W (E n0)→opDies P ops a0 Q (fill vals (E n0) a0) osp W):
  ∀(fuel:Nat) (listed:Array Bool) (a:Act) (W:World),unlisted listed≤fuel→listed.getD n0 true=false→LooseInvK Ws C A w0 ops a0 c rd φ listed a W→wpAny P .any ops Q fuel listed a W:=by
 obtain⟨b0,b1,b2,b3,b4⟩:=looseB_spec hB;have hs1:=fun k o ho=>(hs k o ho).1
 have hrd:=fun k o ho=>(hs k o ho).2.1
 have hn0:n0 < ops.size:=(Array.getElem?_eq_some_iff.1 hosp).1;intro fuel
 induction fuel with
 | zero=>
  intro listed a W hu htl hI;have:=(unlisted_set htl).1;omega
 | succ fuel ih=>
  intro listed a W hu htl hI;refine⟨fun hr=> ?_,fun i hi=> ?_⟩
  ·exfalso
   have hall:∀m k,k < m→k < ops.size→listed.getD k false=true:=by
    intro m
    induction m with
    | zero=>intro k h;omega
    | succ m ih=>
     intro k hk hks
     cases hl:listed.getD k false with
     | true=>rfl
     | false=>
      exfalso
      have ho:ops[k]? =some (ops[k]'(by omega)):=Array.getElem?_eq_getElem (by omega);have hl' :listed.getD k true=false:=by
       have:k < listed.size:=by rw[hI.lsize];omega
       simpa [this]using hl
      have:k∈Region.ready .any ops listed:=mem_ready.2 ⟨hl',_,ho,fun e he hb=>by
       have hlt:=b3 k _ ho e he hb;exact ih e.on (by omega) (by omega)⟩
      rw[hr]at this
      cases this
   have h1:=hall (n0+1) n0 (by omega) hn0;have h2:=getD_both htl;rw[h1]at h2
   cases h2
  obtain⟨hl,o,ho,hall⟩:=mem_ready.1 hi;have hil:listed.getD i false=false:=getD_both hl;have hn0l:listed.getD n0 false=false:=getD_both htl;have unl:∀x∈Ws,x.k=i∨i∈x.pre→listed.getD x.k false=false:=by
   rintro x hx (hc | hc)
   ·rw[hc];exact hil
   ·cases hlx:listed.getD x.k false with
    | false=>rfl
    | true=>
     have:=descB_spec hI.dep i x.k (wrB_pre hwr hx hc).1 hlx;rw[hil]at this
     cases this
  have hkn:∀rs:List Tmp,(∀j o' t,j < i→ops[j]? =some o' →o'.dst=some t→t∈rs→∃e∈o.after,Region.binds .any e=true∧e.on=j)→knowsK Ws C A w0 (fun t=>a.tmps.getD t undef) i rs W (E i):=fun rs hrs=>
   knowsK_table e0 hlen hs1 rs i (Nat.le_of_lt (Array.getElem?_eq_some_iff.1 ho).1) (fun j o' t hj ho' hd ht hc=>by
    obtain⟨e,he,hb,hon⟩:=hrs j o' t hj ho' hd ht;obtain⟨v,hv,W0,h1,h2,h4,h3⟩:=hI.on j o' t ho' hd (hon▸hall e he hb);refine⟨W0,h1,⟨h2,fun x hx hc=>h4 x hx (by
     rcases hc with hc | hc | hc
     ·exact .inl hc
     ·exact .inr (.inl hc)
     ·exact .inr (.inr (unl x hx hc)))⟩, ?_⟩
    have:a.tmps.getD t undef=v:=by simp[hv]
    show φ j _ (a.tmps.getD t undef) W0;rw[this]
    simpa [entOf,hc]using h3)
  have hlook:∀j o' t,j < i→ops[j]? =some o' →o'.dst=some t→t∈o.looksAt ops→∃e∈o.after,Region.binds .any e=true∧e.on=j:=fun j o' t hj ho' hd ht=>by
   obtain⟨_,e,he,hb,hon⟩:=(b4 i o t j o' ho ht ho' hd).resolve_right (fun h=>absurd h.1 (by omega));exact⟨e,he,hb,hon⟩
  have hfrm:∀t∈o.looksAt ops,(fill (fun t=>a.tmps.getD t undef) (E i) a0).tmps[t]? =a.tmps[t]? :=fun t ht=>by
   by_cases hd:∃(k:Nat) (o' :Oper),ops[k]? =some o' ∧o'.dst=some t
   ·obtain⟨k,o',ho',hd⟩:=hd
    rcases b4 i o t k o' ho ht ho' hd with⟨hk,e,he,hb,hon⟩ | ⟨hk,e,he,hb,hon⟩
    case inr=>
     rw[fill_far a0 e0 hs1 t i (Nat.le_of_lt (Array.getElem?_eq_some_iff.1 ho).1) (fun j o2 hj ho2 hdd=>by have:=b2 j k o2 o' t ho2 ho' hdd hd;omega)];refine(hI.off t (fun k2 o2 ho2 hdd=> ?_)).symm;obtain rfl:=b2 k2 k o2 o' t ho2 ho' hdd hd
     cases hlk:listed.getD k2 false with
     | false=>rfl
     | true=>
      have:=hI.dep k2 o' ho' hlk e he hb;rw[hon]at this;rw[hil]at this
      cases this
    rw[fill_near a0 hs1 b2 t (by rw[hn];exact b1 k o' t ho' hd) k o' ho' hd i (Nat.le_of_lt (Array.getElem?_eq_some_iff.1 ho).1) hk];obtain⟨v,hv,W0,_,_,_,h3⟩:=hI.on k o' t ho' hd (hon▸hall e he hb);rw[hv]
    cases hc:c k with
    | none=>simp[hv]
    | some u=>simp[entOf,hc]at h3;simp[h3]
   ·rw[fill_far a0 e0 hs1 t i (Nat.le_of_lt (Array.getElem?_eq_some_iff.1 ho).1) (fun j o' _ ho' hdd=>hd ⟨j,o',ho',hdd⟩)]
    exact(hI.off t (fun k o' ho' hdd=>absurd ⟨k,o',ho',hdd⟩ hd)).symm
  by_cases hin0:i=n0
  ·subst hin0
   obtain rfl:osp=o:=Option.some.inj (hosp.symm.trans ho);have hd:=opDies_congr (a' :=a) (Region.noSelect_spec b0 i osp · · ho) hfrm (hq W (fun t=>a.tmps.getD t undef) ⟨hI.world,fun x hx hc=>hI.worldA x hx (unl x hx hc)⟩ (hkn _ (fun j o' t hj ho' hd ht=>by
   rcases List.mem_append.1 ht with ht | ht
   ·exact hlook j o' t hj ho' hd ht
   ·exact waitsB_spec (List.all_eq_true.1 hrdn t ht) ho' hd)))
   obtain⟨hwt,f,args,W',hrun,hcalls⟩:=hd.out;unfold wpOp;simp only[ho,hwt,if_true]
   left
   unfold Oper.wp;rw[hrun];exact hcalls.mono fun e w'' ⟨ch,he,hQ⟩=>by
    subst he;refine hQ a hI.defers fun t hnt=>hI.off t fun k o ho hdd=>absurd hdd (hnt k o ho)
  have hisz:i < listed.size:=(unlisted_set hl).2;have hset:(listed.setIfInBounds i true).getD i false=true:=by simp[hisz]
  have hnd:(descB ops n0).contains i=false:=by
   cases hcc:(descB ops n0).contains i with
   | false=>rfl
   | true=>
    exfalso
    have hm:i∈descB ops n0:=List.contains_iff_mem.1 hcc;have hmono:∀m,listed.getD m false=true→(listed.setIfInBounds i true).getD m false=true:=by
     intro m hm
     by_cases hmi:i=m
     ·subst hmi
      rw[hil]at hm
      cases hm
     ·rw[getD_set_ne _ hmi];exact hm
    have:=descB_spec (listed:=listed.setIfInBounds i true) (fun k o' ho' hk e he hb=>by
     by_cases hki:i=k
     ·subst hki
      rw[ho]at ho';injection ho' with ho'
      subst ho';exact hmono _ (hall e he hb)
     ·rw[getD_set_ne _ hki]at hk
      exact hmono _ (hI.dep k o' ho' hk e he hb)) n0 i hm hset
    rw[getD_set_ne _ hin0,hn0l]at this
    cases this
  have hus:=(unlisted_set hl).1;have hop:=(hs i o ho).2.2 hin0 hnd W (fun t=>a.tmps.getD t undef) ⟨hI.world,fun x hx hc=>hI.worldA x hx (unl x hx hc)⟩ (hkn _ (fun j o' t hj ho' hd ht=>by
   rcases List.mem_append.1 ht with ht | ht
   ·exact hlook j o' t hj ho' hd ht
   ·exact waitsB_spec (hrd i o ho t ht) ho' hd))
  have hop:=opOk_congr (a' :=a) (Region.noSelect_spec b0 i o · · ho) hfrm hop;have next:∀v W',StpK Ws C A i W W' →entOf (c i) (φ i ((rd i).map fun t=>a.tmps.getD t undef)) v W' →wpAny P .any ops Q fuel (listed.setIfInBounds i true) (a.put o.dst v) W' :=fun v W' hR hv=>
   ih _ _ _ (by omega) (by rw[getD_set_ne true hin0];exact htl) (looseInvK_next hF hwr hB hrd hn hI ho hl hall v hR hv)
  have tr:∀x y z,StpK Ws C A i x y→StpK Ws C A i y z→StpK Ws C A i x z:=fun x y z h k=>⟨hF.ct _ _ _ h.c k.c,fun u hu hne=>hF.at_ _ _ _ _ (h.a u hu hne) (k.a u hu hne)⟩
  unfold wpOp;simp only[ho];replace hop:=hop.out
  split
  ·rename_i hw
   simp only[hw,if_true]at hop
   left
   unfold Oper.wp
   generalize (execOp a.eval o).run P W=r at*
   cases r with
   | ok x w' =>
    cases x <;> simp only[looseUpon]at hop <;> simp only[Oper.upon]
    ·exact next _ _ hop.1 hop.2
    ·exact next _ _ hop.1 hop.2
    ·exact hop.2.mono fun e w'' ⟨v,he,hR,hv⟩=>by subst he;exact next _ _ (tr _ _ _ hop.1 hR) hv
    ·exact hop.2.mono fun v w'' ⟨hR,hv⟩=>next _ _ (tr _ _ _ hop.1 hR) hv
   | halt x w' =>simp only[looseUpon]at hop
  ·rename_i hw
   simp only[hw]at hop;exact next _ _ ⟨hF.cr _,fun _ _ _=>hF.ar _ _⟩ hop

theorem wp_region_writersD {id:Nat}{Q:Exit→Act→World→Prop}{a:Act}{w:World}{l:List Oper}(Ws:List Wr)(C:World→World→Prop)(A:Nat→World→World→Prop)(n n0:Nat)(rdn:List Tmp)(osp:Oper)(hosp:l[n0]? =some osp)(hF:LightK Ws C A)(hm:P.follows .mixedOrders=true)(hn:a.tmps.size=n)
  (hB:(looseB n l.toArray && wrB l.toArray Ws && rdn.all (waitsB l.toArray osp))=true)
  (h:wpLooseD P Ws C A w l.toArray n0 a (fun env=>∀W vals,PreK Ws C A n0 w W→knowsK Ws C A w vals n0 (osp.looksAt l.toArray++rdn) W env→opDies P l.toArray a Q (fill vals env a) osp W) l []):(Code.region id l.toArray true).wp P Q a w:=by
 simp only[Bool.and_eq_true]at hB;have hlt:n0 < l.length:=(List.getElem?_eq_some_iff.1 hosp).1;obtain⟨E,c,rd,φ,e0,hlen,hs⟩:=wpLooseD_table l [] h;simp only[List.length_nil,Nat.zero_add]at hlen hs;have hq:=(hs n0 osp hosp).2.2.1 rfl;refine wp_region_any hm (loose_dies_soundK (w0:=w) (n0:=n0) (osp:=osp) hF.fit hB.1.2 hB.1.1 (by simpa using hosp) hn e0 (fun k hk=>hlen k (by simpa using hk)) (fun k o ho=>⟨(hs k o (by simpa using ho)).1,(hs k o (by simpa using ho)).2.1,(hs k o (by simpa using ho)).2.2.2⟩) hB.2 hq.1 _ _ _ _ ?_ ?_ ⟨hF.c (Keeps.drew _),fun x _ _=>hF.a (Keeps.drew _),rfl,rfl,by simp,fun _ _=>rfl,fun k o d ho _ hk=> ?_,fun k o ho _ hk=> ?_,fun k o ho hk=> ?_⟩)
 ·unfold unlisted
  simp
 ·simp[hlt]
 all_goals
  exfalso
  by_cases h' :k < l.length <;> simp[h']at hk
end
section
variable {P:Program} {Ws:List Wr} {C:World→World→Prop} {A:Nat→World→World→Prop} {w0:World} {ops:Array Oper} {n0:Nat} {a0:Act} {Q:List Ent→Prop} {o:Oper} {rest:List Oper} {env:List Ent}
theorem loosed_nil:wpLooseD P Ws C A w0 ops n0 a0 Q [] env:=trivial
theorem loosed_dies (he:env.length=n0)(h:Q env)(hk:wpLooseD P Ws C A w0 ops n0 a0 Q rest (addEnt o.dst none [] (fun _ _ _=>True) env)):wpLooseD P Ws C A w0 ops n0 a0 Q (o::rest) env:= .inl ⟨he,h,hk⟩
theorem loosed_skip (k:Nat)(he:env.length=k)(hne:k≠n0)(hd:(descB ops n0).contains k=true)(hk:wpLooseD P Ws C A w0 ops n0 a0 Q rest (addEnt o.dst none [] (fun _ _ _=>True) env)):wpLooseD P Ws C A w0 ops n0 a0 Q (o::rest) env:=by
 subst he;exact .inr (.inl ⟨⟨hne,hd⟩,hk⟩)
theorem loosed_is (k:Nat)(v:Value)(he:env.length=k)(hne:k≠n0)(h:∀W vals,PreK Ws C A k w0 W→knowsK Ws C A w0 vals k (o.looksAt ops) W env→opOk P (StpK Ws C A k) ops (fill vals env a0) o (fun u _=>u=v) W)
  (hk:wpLooseD P Ws C A w0 ops n0 a0 Q rest (addEnt o.dst (some v) [] (fun _ _ _=>True) env)):wpLooseD P Ws C A w0 ops n0 a0 Q (o::rest) env:=by
 subst he;exact .inr (.inr ⟨hne,some v, [],_,(fun _ h=>nomatch h),fun W vals hW hkn=>h W vals hW (by rwa [List.append_nil]at hkn),hk⟩)
theorem loosed_had (k:Nat)(rd:List Tmp)(φ:List Value→Value→World→Prop)(he:env.length=k)(hne:k≠n0)(hrd:rd.all (waitsB ops o)=true)(h:∀W vals,PreK Ws C A k w0 W→knowsK Ws C A w0 vals k (o.looksAt ops++rd) W env→∀φ' :Value→World→Prop,Hid (∀u w,φ (rd.map vals) u w→φ' u w)→opOk P (StpK Ws C A k) ops (fill vals env a0) o φ' W)
  (hk:wpLooseD P Ws C A w0 ops n0 a0 Q rest (addEnt o.dst none rd φ env)):wpLooseD P Ws C A w0 ops n0 a0 Q (o::rest) env:=by
 subst he;exact .inr (.inr ⟨hne,none,rd,φ,fun t ht=>List.all_eq_true.1 hrd t ht,fun W vals hW hkn=>h W vals hW hkn _ (zh fun _ _ h=>h),hk⟩)
end

section
variable {w w' :World} {base r:Nat} {l:List UInt8}
theorem Rd.len {base' :Nat}{l' :List UInt8}(h:Rd w base r l)(h' :Rd w base' r l'):l.length=l'.length:=by
 obtain⟨A,c,h1,_⟩:=h;obtain⟨A',c',h2,_⟩:=h';have e1:=h1.cell 0;have e2:=h2.cell 0;simp only[zga,zgz]at e1 e2;rw[e1]at e2;injection e2 with e2
 injection e2
end
/-- What none but one operation changes: what the reader has left when that one is met. -/
def rdA (base r:Nat)(Le:List UInt8)(Ls:Nat→List UInt8):Nat→World→World→Prop:=fun k w w' =>(Rd w base r (Ls k)→Rd w' base r (Ls k))∧(Rd w base r Le→Rd w' base r Le)
def rdC (r:Nat):World→World→Prop:=fun w w' =>Keeps w w' [r]
def rdLs (V V1 V2 V3 V4:List UInt8)(k:Nat):List UInt8:=if k=2 then V else if k=4 then V1 else if k=6 then V2 else if k=8 then V3 else V4
section
variable {Ws:List Wr} {base r:Nat} {Le:List UInt8} {Ls:Nat→List UInt8}
theorem rdLight:LightK Ws (rdC r) (rdA base r Le Ls):=by
 refine⟨⟨fun x=>Keeps.refl _ _,fun x y z h k=>Keeps.trans (T:= [r]) h k (fun _ hx _=>hx),fun i x=>⟨id,id⟩,fun i x y z h k=>⟨fun q=>k.1 (h.1 q),fun q=>k.2 (h.2 q)⟩⟩,fun h=>Keeps.weaken h (by simp),fun h=>⟨fun q=>q.keep h (by simp),fun q=>q.keep h (by simp)⟩⟩
theorem rdStp {k:Nat}{W W' :World}(h:Rd W base r (Ls k))(hk:Keeps W W' [r])(hl:∀x∈Ws,x.k≠k→(Ls x.k).length≠(Ls k).length)(he:Le.length≠(Ls k).length):StpK Ws (rdC r) (rdA base r Le Ls) k W W' :=
 ⟨hk,fun x hx hne=>⟨fun q=>absurd (q.len h) (hl x hx hne),fun q=>absurd (q.len h) he⟩⟩
end
theorem Rd.row {w:World}{base r:Nat}{l:List UInt8}(h:Rd w base r l):∃x,Row w r 130 #[x,.bool true]:=by
 obtain⟨A',c',q1,_⟩:=h;exact⟨_,q1⟩

set_option maxRecDepth 100000 in
set_option maxHeartbeats 400000 in
theorem pvMust_yes (w:World):
  Calls Tryz.prog 30 #[.bool true] w fun e w' =>e= .returned (.tuple #[])∧w=w' :=by
 go_enter Tryz.func30,Tryz.ntmps30
 go_wp2
 exact⟨rfl,Value.tuple #[],by kernel_rfl,rfl,rfl⟩
set_option maxRecDepth 100000 in
set_option maxHeartbeats 400000 in
theorem pvMust_no (w:World):
  Calls Tryz.prog 30 #[.bool false] w fun e w' =>e= .panicked [{v:= .iface 67 (.agg #[]),recovered:=false}]∧w=w' :=by
 go_enter Tryz.func30,Tryz.ntmps30
 go_wp2
 exact⟨rfl,rfl,rfl⟩
/-- What reading does. -/
def PvRd (w:World)(base r:Nat)(o:Option (Value×List UInt8))(e:Ending)(w' :World):Prop:=Keeps w w' [r]∧match o with
 | some (v,t)=>e= .returned v∧Rd w' base r t
 | none=>e= .panicked [{v:= .iface 67 (.agg #[]),recovered:=false}]
set_option maxRecDepth 100000 in
set_option maxHeartbeats 1000000 in
theorem pvNum_any (w:World)(base r k:Nat)(l:List UInt8)(h:Rd w base r l)(hk1:1≤k)(hk8:k≤8):
  Calls Tryz.prog 58 #[.agg #[.pointer (some ⟨r,0,none⟩)],.int .i64 k] w (PvRd w base r ((rdN k l).map fun(n,t)=>(.int .i64 (wrap64 (n:Nat)),t))):=by
 have ka:Keeps w (w.alloc (.cells #[.pointer (some ⟨r,0,none⟩)] 74)) []:=Keeps.alloc _ _;have HA:=zh ka;have HN:=zh (rdNumber_is _ base r k l (h.keep ka (by simp)) hk1 hk8);clear ka h;obtain⟨o,ho⟩:∃o,rdN k l=o:=⟨_,rfl⟩;rw[ho]at HN ⊢
 clear ho
 go_enter Tryz.func58,Tryz.ntmps58
 go_wp2_with fail
 refine HN.out.mono ?_
 cases o with
 | none=>
  rintro e w2 ⟨hk2,rfl,hrd2⟩;have H2:=zh (And.intro (HA.out.weaken (T:= [r]) (by simp)) hk2);clear hk2 hrd2
  go_wp2_with (go_at_call 30;refine(pvMust_no _).mono ?_;rintro e w' ⟨rfl,rfl⟩)
  exact⟨rfl,H2.out.1.trans H2.out.2 (by simp),rfl⟩
 | some p=>
  obtain⟨n,t⟩:=p;rintro e w2 ⟨hk2,rfl,hrd2⟩;have H2:=zh (And.intro (And.intro (HA.out.weaken (T:= [r]) (by simp)) hk2) hrd2);clear hk2 hrd2
  go_wp2_with (go_at_call 30;refine(pvMust_yes _).mono ?_;rintro e w' ⟨rfl,rfl⟩)
  go_ret;exact⟨H2.out.1.1.trans H2.out.1.2 (by simp),rfl,H2.out.2⟩
set_option maxRecDepth 100000 in
set_option maxHeartbeats 1000000 in
theorem pvTxt_any (w:World)(base r:Nat)(l:List UInt8)(h:Rd w base r l):
  Calls Tryz.prog 71 #[.agg #[.pointer (some ⟨r,0,none⟩)]] w (PvRd w base r ((rdTx l).map fun(s,t)=>(strV s,t))):=by
 have ka:Keeps w (w.alloc (.cells #[.pointer (some ⟨r,0,none⟩)] 74)) []:=Keeps.alloc _ _;have HA:=zh ka;have HN:=zh (rdText_is _ base r l (h.keep ka (by simp)));clear ka h;obtain⟨o,ho⟩:∃o,rdTx l=o:=⟨_,rfl⟩;rw[ho]at HN ⊢
 clear ho
 go_enter Tryz.func71,Tryz.ntmps71
 go_wp2_with fail
 refine HN.out.mono ?_
 cases o with
 | none=>
  rintro e w2 ⟨hk2,rfl,hrd2⟩;have H2:=zh (And.intro (HA.out.weaken (T:= [r]) (by simp)) hk2);clear hk2 hrd2
  go_wp2_with (go_at_call 30;refine(pvMust_no _).mono ?_;rintro e w' ⟨rfl,rfl⟩)
  exact⟨rfl,H2.out.1.trans H2.out.2 (by simp),rfl⟩
 | some p=>
  obtain⟨s,t⟩:=p;rintro e w2 ⟨hk2,rfl,hrd2⟩;have H2:=zh (And.intro (And.intro (HA.out.weaken (T:= [r]) (by simp)) hk2) hrd2);clear hk2 hrd2
  go_wp2_with (go_at_call 30;refine(pvMust_yes _).mono ?_;rintro e w' ⟨rfl,rfl⟩)
  go_ret;exact⟨H2.out.1.1.trans H2.out.1.2 (by simp),rfl,H2.out.2⟩
section
variable {w w' :World} {base r k:Nat} {l t s:List UInt8} {n:Nat}
theorem pvNum_some (h:Rd w base r l)(e:rdN k l=some (n,t))(hk1:1≤k)(hk8:k≤8){k' :Int}(hk' :k' =k):
  Calls Tryz.prog 58 #[.agg #[.pointer (some ⟨r,0,none⟩)],.int .i64 k'] w fun e w' =>Keeps w w' [r]∧e= .returned (.int .i64 (wrap64 (n:Nat)))∧Rd w' base r t:=by
 subst hk';have:=pvNum_any w base r k l h hk1 hk8;rw[e]at this;exact this.mono fun e w' ⟨h1,h2,h3⟩=>⟨h1,h2,h3⟩
theorem pvNum_none (h:Rd w base r l)(e:rdN k l=none)(hk1:1≤k)(hk8:k≤8){k' :Int}(hk' :k' =k):
  Calls Tryz.prog 58 #[.agg #[.pointer (some ⟨r,0,none⟩)],.int .i64 k'] w fun e w' =>Keeps w w' [r]∧e= .panicked [{v:= .iface 67 (.agg #[]),recovered:=false}]:=by
 subst hk';have:=pvNum_any w base r k l h hk1 hk8;rw[e]at this;exact this.mono fun e w' ⟨h1,h2⟩=>⟨h1,h2⟩
theorem pvTxt_some (h:Rd w base r l)(e:rdTx l=some (s,t)):
  Calls Tryz.prog 71 #[.agg #[.pointer (some ⟨r,0,none⟩)]] w fun e w' =>Keeps w w' [r]∧e= .returned (strV s)∧Rd w' base r t:=by
 have:=pvTxt_any w base r l h;rw[e]at this;exact this.mono fun e w' ⟨h1,h2,h3⟩=>⟨h1,h2,h3⟩
theorem pvTxt_none (h:Rd w base r l)(e:rdTx l=none):
  Calls Tryz.prog 71 #[.agg #[.pointer (some ⟨r,0,none⟩)]] w fun e w' =>Keeps w w' [r]∧e= .panicked [{v:= .iface 67 (.agg #[]),recovered:=false}]:=by
 have:=pvTxt_any w base r l h;rw[e]at this;exact this.mono fun e w' ⟨h1,h2⟩=>⟨h1,h2⟩
end
section
variable {w:World} {base r:Nat} {l t:List UInt8} {n:Nat}
theorem pvNum1_some (h:Rd w base r l)(e:rdN 1 l=some (n,t)):
  Calls Tryz.prog 58 #[.agg #[.pointer (some ⟨r,0,none⟩)],.int .i64 1] w fun e w' =>Keeps w w' [r]∧e= .returned (.int .i64 (n:Nat))∧Rd w' base r t:=by
 have h1:=(rdN_sound e).2.1;have e2:wrap64 (n:Int)=n:=IntWalk.wrap64_in _ (by omega);have:=pvNum_some (k' :=1) h e (by omega) (by omega) rfl
 rwa [e2]at this
theorem pvNum2_some (h:Rd w base r l)(e:rdN 2 l=some (n,t)):
  Calls Tryz.prog 58 #[.agg #[.pointer (some ⟨r,0,none⟩)],.int .i64 2] w fun e w' =>Keeps w w' [r]∧e= .returned (.int .i64 (n:Nat))∧Rd w' base r t:=by
 have h1:=(rdN_sound e).2.1;have e2:wrap64 (n:Int)=n:=IntWalk.wrap64_in _ (by omega);have:=pvNum_some (k' :=2) h e (by omega) (by omega) rfl
 rwa [e2]at this
end
end Go.Proofs.YtahbikfbjenfpaaGreatDoor
