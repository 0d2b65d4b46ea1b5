/- Two books: what is done to one leaves the other. append of two lists of arguments. Law 14: a round of calls where the list stands in a box. Law 14: a book, another one beside it, and a block of deferred calls. Package match: Same with a book that is not there. Law 14: MatchCopies: ahead of the copy. Law 14: MatchCopies: the copy, and a walk over the entries. Law 14: MatchCopies: calls on the copy. Law 14: MatchCopies: what is the same at the end. -/
import Derived.Test.YtoadlafdeoklbaaGreatDoorPa54
import Derived.Test.YtoadlafdeoklbaaGreatDoorPa38
import Derived.Test.YtoadlafdeoklbaaGreatDoorPa31
import Derived.Test.YtoadlafdeoklbaaGreatDoorPa46
import Derived.Test.YtoadlafdeoklbaaGreatDoorPa6
import Derived.Test.YtoadlafdeoklbaaGreatDoorPa47

namespace Go.Proofs.YtoadlafdeoklbaaGreatDoor
open Go.RowKit Go.Maps Go.Shelf

end Go.Proofs.YtoadlafdeoklbaaGreatDoor

namespace Go.Proofs.YtoadlafdeoklbaaGreatDoor
open Go.RowKit

section
variable {α:Type} {w w' :World} {k:Nat} {f:α→List Value} {A:Option Addr} {l:List α}
theorem ListG.lies (E:Enc k f)(h:ListG w k f A l):Lies w w.heap.size A (l.flatMap f):=fun hp=>by
 rw[flat_length E]at hp;have hl:0 < l.length:=by
  rcases Nat.eq_zero_or_pos l.length with h0 | h0
  ·rw[h0,Nat.zero_mul]at hp;omega
  ·exact h0
 obtain⟨b,o,cs,ea,hr,hc⟩:=h hl;refine⟨b,o,ea,hr.lt,fun i u hu=> ?_⟩;have hi:i < l.length*k:=by
  rw[←flat_length E];exact(List.getElem?_eq_some_iff.1 hu).1
 have hk:=E.pos;have h1:i / k < l.length:=(Nat.div_lt_iff_lt_mul hk).2 hi;have h2:i % k < k:=Nat.mod_lt _ hk;have h3:i / k*k+i % k=i:=Nat.div_add_mod' i k;rw[hr.cell,←hu];have h4:=hc (i / k) h1 (i % k) h2;rw[Nat.add_assoc,h3]at h4;rw[h4,←flat_get E h1 h2,h3]
end
section
variable {α:Type} {k:Nat} {f:α→List Value} {w w' :World} {e t:TypeId} {B:Nat}
theorem wpList_append_W {P:Program}{ops:Array Oper}{rest:List Oper}{o:Oper}{a:Act}{Q:Exit→Act→World→Prop}(T:ElemN P t e k)(E:Enc k f)(hgd:o.guard=none)(s x:Operand)
  (ho:o.op= .call {callee:= .builtin .append,args:= #[s,x],argTypes:= #[t,t]})
  (B:Nat) (v:Value) (A:Option Addr) (n c:Nat) (l1 l2:List α) (hn:l2.length=n) (hs:a.eval s=v) (hx:a.eval x= .slice A n c) (hown:OwnN w B e k f v l1) (hb:Lies w w.heap.size A (l2.flatMap f)) (hlen:l1.length+l2.length≤2000000) (hbase:B≤w.heap.size)
  (h:∀v w',OwnN w' B e k f v (l1++l2)→Keeps w w' (a.eval s).ownBlock.toList→wpList P ops Q rest (a.put o.dst v) w'):wpList P ops Q (o::rest) a w:=by
 subst hn;refine wpList_plain hgd fun K hK=> ?_
 obtain⟨i0,z,bytes,ht,hi,hz0,hz1,hz2,hz3,hz4⟩:=T.out;have hbb:(l1.length+l2.length)*bytes≤2000000*100000:=Nat.mul_le_mul hlen hz3;obtain⟨v',w',hrun,h2,h3,h4⟩:=run_append_liesN (P:=P) w B t o.type e i0 z k bytes ht hi hz0 hz1 hz2 hz4 E.pos v l1.length (l1.flatMap f) hown w.heap.size A l2.length c (l2.flatMap f) (flat_length E l2) hb (flat_one E l2) (by unfold maxLen;omega) (by omega) hbase;have h5:(l1++l2).length=l1.length+l2.length:=List.length_append;have h6:OwnN w' B e k f v' (l1++l2):=by unfold OwnN;rw[h5,List.flatMap_append];exact h2
 unfold Oper.wp execOp;simp only[ho,resolve,invoke,builtin,Sem.run_bind,Sem.run_pure,Result.andThen_ok,List.map_toArray,List.map_cons,List.map_nil,hs,hx,hrun];exact hK _ _ (h v' w' h6 (by rw[hs];exact Keeps.of_grown h3))
end
theorem elemAcC:ElemN Tryz.prog 23 27 4:=elemN_of (bytes:=48) (z:= .agg #[.int .i64 0,.string ⟨#[]⟩,.string ⟨#[]⟩,.int .i64 0]) (by kernel_rfl) (by kernel_rfl) (by omega) (by kernel_rfl)
end Go.Proofs.YtoadlafdeoklbaaGreatDoor

namespace Go.Proofs.YtoadlafdeoklbaaGreatDoor
open Go.RowKit Go.Maps Go.Shelf

/-- At most rows of one type turned. -/
def RowsT (t:TypeId)(x y:World):Prop:=∃S,Keeps x y S∧∀s∈S,∃cs,Row x s t cs
theorem RowsT.ok (t:TypeId):RelOk (RowsT t):=by
 refine⟨fun h=>⟨[],h,by simp⟩,fun{x y z} h k=> ?_⟩;obtain⟨S,h1,h2⟩:=h;obtain⟨T,k1,k2⟩:=k;refine⟨S++T.filter fun s=>decide (s < x.heap.size), ?_,fun s hs=> ?_⟩
 ·exact(h1.weaken (T:=S++T.filter fun s=>decide (s < x.heap.size)) (fun y hy _=>List.mem_append_left _ hy)).trans k1 fun y hy hlt=>List.mem_append_right _ (List.mem_filter.2 ⟨hy,by simpa using hlt⟩)
 ·rcases List.mem_append.1 hs with hs | hs
  ·exact h2 s hs
  ·obtain⟨hs,hlt⟩:=List.mem_filter.1 hs
   by_cases hS:s∈S
   ·exact h2 s hS
   ·obtain⟨cs,hc⟩:=k2 s hs
    exact⟨cs,(h1.block s (by simpa using hlt) hS).symm.trans hc⟩
section
variable {t t' e:TypeId} {x y:World}
theorem RowsT.put {b:Nat}{cs:Array Value}(hr:Row x b t cs)(hk:Keeps x y [b]):RowsT t x y:=⟨[b],hk,fun s hs=>by
 rw[List.mem_singleton.1 hs];exact⟨cs,hr⟩⟩
theorem RowsT.row {b:Nat}{cs:Array Value}(h:RowsT t x y)(hr:Row x b t' cs)(hne:t' ≠t):Row y b t' cs:=by
 obtain⟨S,h1,h2⟩:=h;exact hr.keep h1 fun hm=>by
  obtain⟨cs',hc⟩:=h2 b hm;exact hr.ne_type hc hne rfl
theorem RowsT.list {α:Type}{f:α→List Value}{k:Nat}{A:Option Addr}{l:List α}(h:RowsT t x y)(hl:ListAt x e k f A l)(hne:e≠t):ListAt y e k f A l:=fun hp=>by
 obtain⟨b,o,cs,ea,hr,hc⟩:=hl hp;exact⟨b,o,cs,ea,h.row hr hne,hc⟩
theorem RowsT.ls {v:Value}{l:List Sb}(h:RowsT 22 x y)(hl:LsAt x v l):LsAt y v l:=by
 obtain⟨A,c,e,h1,h2⟩:=hl;exact⟨A,c,e,h.list h1 (by decide),h2⟩
theorem RowsT.bk {B d:Nat}{L:List Sb}{X:List Nat}(h:RowsT 22 x y)(hb:Bk B x d L X):Bk B y d L X:=by
 obtain⟨S,h1,h2⟩:=h;exact hb.keep h1 fun s hs hm=>by
  obtain⟨cs,hc⟩:=h2 s hm;exact hb.far hc (by decide) (by decide) hs
end
def KeepRow (b:Nat)(t:TypeId)(w w' :World):Prop:=∀cs,Row w b t cs→Row w' b t cs
theorem KeepRow.ok (b:Nat)(t:TypeId):RelOk (KeepRow b t):=⟨fun h _ hr=>hr.keeps h,fun h k cs hr=>k cs (h cs hr)⟩
theorem RelOk.and {R S:World→World→Prop}(h:RelOk R)(k:RelOk S):RelOk (fun w w' =>R w w' ∧S w w'):=⟨fun x=>⟨h.keeps x,k.keeps x⟩,fun x y=>⟨h.trans x.1 y.1,k.trans x.2 y.2⟩⟩
/-- Rows stay, but for a book's and one block. -/
def ElseBut (b:Nat)(x y:World):Prop:=∀g t cs,g≠b→t≠64→t≠75→Row x g t cs→Row y g t cs
theorem ElseBut.ok (b:Nat):RelOk (ElseBut b):=⟨fun h _ _ _ _ _ _ hr=>hr.keeps h,fun h k g t cs h1 h2 h3 hr=>k g t cs h1 h2 h3 (h g t cs h1 h2 h3 hr)⟩
/-- A book in whatever company, in a round. -/
structure CpOk (w:World)(d:Nat)(P:World→List Sb→Prop):Prop where
 ops:BkOps w d P
 put:∀{x y L},P x L→RowsT 22 x y→Keeps w y []→P y L
theorem CpOk.k {w:World}{d:Nat}{P:World→List Sb→Prop}(h:CpOk w d P){W:World}{L:List Sb}(hp:P W L):Keeps w W []:=(h.ops.bk hp).k
theorem cpOk_one {w:World}(hm:MaxL w)(d:Nat):CpOk w d fun W L=>BkIn w W d L:=
 ⟨bkOps_one hm d,fun h hr hk=>by
  obtain⟨X,h1,_⟩:=h;exact⟨X,hr.bk h1,hk⟩⟩
/-- The entries behind calls, from some on. -/
def cpDos (L:List Sb)(l:List (Int×Sb)):List Sb:=l.foldl mtDo L
theorem cpDos_step {L:List Sb}{l:List (Int×Sb)}{j:Nat}(h:j < l.length):cpDos L (l.take (j+1))=mtDo (cpDos L (l.take j)) l[j]:=by
 unfold cpDos;rw[List.take_succ_eq_append_getElem h,List.foldl_append];rfl
/-- What stands between rounds. -/
structure CpAt (P:World→List Sb→Prop)(bg:Nat)(W0 wr:World)(L:List Sb)(v:Value):Prop where
 bk:P wr L
 row:Row wr bg 22 #[v]
 ls:LsAt wr v L
 el:ElseBut bg W0 wr
abbrev cpC (w:World)(bg:Nat)(x y:World):Prop:=KeepsOld w x y∧ElseBut bg x y
abbrev cpA (bg:Nat):Nat→World→World→Prop:=twoA 6 (RowsT 22) 10 (KeepRow bg 22)
abbrev cpW:List Wr:= [⟨6, [0,1,2,3,4,5], [7,8,10]⟩,⟨10, [0,1,2,3,4,5,6,7,8], []⟩]
theorem cpLight (w:World)(bg:Nat):LightK cpW (cpC w bg) (cpA bg):= .two ((KeepsOld.ok w).and (ElseBut.ok bg)) (RowsT.ok _) (KeepRow.ok _ _)
theorem cp_stored {w W:World}{bg:Nat}{v g:Value}{L' :List Sb}(hr:Row W bg 22 #[v])(hg:LsAt W g L')(hb:w.heap.size≤bg)
  {φ' :Value→World→Prop} (hφ:Hid (∀(u:Value) (w:World),(∃g,Row w bg 22 #[g]∧LsAt w g L')→φ' u w)):
  StpK cpW (cpC w bg) (cpA bg) 10 W (W.setCell ⟨bg,0,none⟩ g)∧φ' undef (W.setCell ⟨bg,0,none⟩ g):=by
 have hk:Keeps W (W.setCell ⟨bg,0,none⟩ g) [bg]:=Keeps.setCell _ _ _;refine⟨.two ⟨fun h=>h.trans hk (fun y hy hlt=>by simp at hy;omega),fun b t cs h1 _ _ hb' =>hb'.keep hk (by simpa using h1)⟩ (fun _=> .put hr hk) (fun h=>absurd rfl h),hφ.out _ _ ⟨g, ?_,(RowsT.put hr hk).ls hg⟩⟩;have h:=hr.store 0 g;exact h

/-- Two books apart; the block D is as a loop left it. -/
def BkD (w W:World)(d1:Nat)(L1:List Sb)(d2:Nat)(L2:List Sb)(D:Nat):Prop:=Bk2 w W d1 L1 d2 L2∧W.heap[D]? =some (.deferred (some []))
section
variable {w W W' :World} {d1 d2 D:Nat} {L1 L2:List Sb}
theorem BkD.keeps (h:BkD w W d1 L1 d2 L2 D)(hk:Keeps W W' []):BkD w W' d1 L1 d2 L2 D:=
 ⟨h.1.keeps hk,(hk.block D (Array.getElem?_eq_some_iff.1 h.2).1 (by simp)).trans h.2⟩
theorem BkD.go {X1 X2 X' :List Nat}{L' :List Sb}(h1:Bk w.heap.size W d1 L1 X1)(h2:Bk w.heap.size W d2 L2 X2)(h3:∀x∈X1,x∉X2)(h4:Keeps w W [])(hd:W.heap[D]? =some (.deferred (some [])))(hg:BkGo w.heap.size W W' d1 L' X1 X'):BkD w W' d1 L' d2 L2 D:=
 ⟨Bk2.go h1 h2 h3 h4 hg,(hg.k.block D (Array.getElem?_eq_some_iff.1 hd).1 (fun hm=>by
  have:=h1.norec hm hd
  cases this)).trans hd⟩
theorem BkD.set (h:BkD w W d1 L1 d2 L2 D)(hm:MaxL w)(s:Sb)(hs:s.f.length≤50000)(hc:s.c.length≤50000):Calls Tryz.prog 12 #[ptr0 d1,sbV s] W fun e w' =>e= .returned (.tuple #[.bool (mtSetA L1 s).2.1,.int .i64 (mtSetA L1 s).2.2])∧BkD w w' d1 (mtSetA L1 s).1 d2 L2 D∧Else W w' :=by
 obtain⟨⟨X1,X2,h1,h2,h3,h4⟩,hd⟩:=h;exact(mtSet_any w.heap.size W d1 L1 X1 h1 (hm.keeps h4) s hs (by omega)).mono fun e w' ⟨g1,X',g2⟩=>⟨g1,BkD.go h1 h2 h3 h4 hd g2,Else.of h1 g2⟩
theorem BkD.drop (h:BkD w W d1 L1 d2 L2 D)(hm:MaxL w)(f c:List UInt8)(hs:f.length≤50000)(hc:c.length≤50000):Calls Tryz.prog 19 #[ptr0 d1,.string ⟨f.toArray⟩,.string ⟨c.toArray⟩] W fun e w' =>e= .returned (.tuple #[.bool (mtDropA L1 f c).2.1,.int .i64 (mtDropA L1 f c).2.2])∧BkD w w' d1 (mtDropA L1 f c).1 d2 L2 D∧Else W w' :=by
 obtain⟨⟨X1,X2,h1,h2,h3,h4⟩,hd⟩:=h;exact(mtDropE_any w.heap.size W d1 L1 X1 h1 (hm.keeps h4) f c hs (by omega)).mono fun e w' ⟨g1,X',g2⟩=>⟨g1,BkD.go h1 h2 h3 h4 hd g2,Else.of h1 g2⟩
end
theorem bkOps_three {w:World}(hm:MaxL w)(d1 d2:Nat)(L2:List Sb)(D:Nat):BkOps w d1 fun W L=>BkD w W d1 L d2 L2 D:=
 ⟨fun h=>h.1.one,fun h hk=>h.keeps hk,fun h s hs hc=>h.set hm s hs hc,fun h f c hf hc=>h.drop hm f c hf hc,fun h c hc=>leaveB_any (B:=fun W L=>BkD w W d1 L d2 L2 D) ⟨fun h=>h.1.one,fun h hk=>h.keeps hk,fun h f c hf hc=>h.drop hm f c hf hc⟩ h c hc⟩
theorem LsAt.else_ {W W' :World}{v:Value}{l:List Sb}(h:LsAt W v l)(he:Else W W'):LsAt W' v l:=by
 obtain⟨A,c,e,h1,h2⟩:=h;exact⟨A,c,e,he.list h1 (by decide) (by decide),h2⟩
theorem Else.t {A B C:World}(h:Else A B)(k:Else B C):Else A C:=fun g t cs hr h1 h2=>k g t cs (h g t cs hr h1 h2) h1 h2

set_option maxRecDepth 100000 in
theorem mtSameNil_any {w W:World}{d:Nat}{L:List Sb}(h:BkIn w W d L):Calls Tryz.prog 17 #[ptr0 d,.pointer none] W (TruePost W false):=by
 have H:=zh h;clear h
 go_enter Tryz.func17,Tryz.ntmps17
 go_wp2_with fail
 refine H.out.none_.mono ?_;rintro e w1 ⟨rfl,rfl⟩
 go_wp2_with fail
 refine(mtNone_nil _).mono ?_;rintro e w2 ⟨rfl,rfl⟩
 go_wp2_with fail
 refine H.out.none_.mono ?_;rintro e w3 ⟨rfl,rfl⟩
 go_wp2_with fail
 go_ret;exact⟨rfl,Keeps.refl _ _⟩

set_option maxRecDepth 100000 in
set_option maxHeartbeats 4000000 in
noncomputable def cpPart (w:World)(A1 A2:Option Addr)(c1 c2:Nat)(l1 l2:List (Int×Sb))(many:Int):PSigma fun R1:Prop=>PSigma fun R2:Prop=>R1→R2→
  (MaxL w)→(ListG w 4 acC A1 l1)→(ListG w 4 acC A2 l2)→(l1.length+l2.length≤2000000)→Calls Tryz.prog 6 #[.slice A1 l1.length c1,.slice A2 l2.length c2,.int .i64 many] w (TruePost w true):=by
 apply PSigma.mk;apply PSigma.mk
 case snd.snd=>
  intro h1 h2 hm hl1 hl2 hle;have H1:=zh h1;have H2:=zh h2;clear h1 h2;have HL1:=zh hl1;have HL2:=zh hl2;have HM:=zh hm;have HLE:=zh hle;have HKN:=zh (fun(w' :World) (hk:Keeps w w' [])=>(known14_any w' (hm.keeps hk)));clear hm hl1 hl2 hle;refine callsIn_wide.1 (?_:CallsIn Fence.wide 4 _ _ _ _ _);refine callsIn_of_wp_marks Tryz.func6 rfl trivial ?_ rfl;simp only[Tryz.ntmps6,List.size_toArray,List.length_cons,List.length_nil,Nat.reduceAdd,Nat.reduceSub,Array.replicate_succ,Array.replicate_zero,List.push_toArray,List.append_toArray,List.nil_append,List.cons_append];refine wpIn_wide.2 ?_
  go_upto_region 1 with fail
  obtain⟨W1,hW1⟩:∃W1,(w.alloc (.cells #[.int .i64 many] 3)).alloc (.cells #[.bool false] 4)=W1:=⟨_,rfl⟩;have hk1:Keeps w W1 []:=by rw[←hW1];exact(Keeps.alloc _ _).then_ (Keeps.alloc _ _)
  have hrm1:Row W1 w.heap.size 3 #[.int .i64 many]:=by rw[←hW1];exact(Row.new _ _ _).alloc _
  have hrr1:Row W1 (w.heap.size+1) 4 #[.bool false]:=by
   have h:=Row.new (w.alloc (.cells #[.int .i64 many] 3)) 4 #[.bool false]
   rwa [World.size_alloc,hW1]at h
  rw[hW1];obtain⟨bm,hbm⟩:∃b,w.heap.size=b:=⟨_,rfl⟩;simp only[hbm]at hrm1 hrr1 ⊢
  clear hW1
  go_wp2_with (at_builtin;refine wpList_append_W elemAcC encAc rfl (.const (.slice none 0 0)) (.tmp 16) rfl W1.heap.size (.slice none 0 0) A1 l1.length c1 [] l1 rfl rfl rfl (OwnN.nil _ _ _ _ _) ((HL1.out.keeps hk1).lies encAc) (by have:=HLE.out;simp;omega) (Nat.le_refl _) ?_;intro v1 W2 ho2 hk2;refine Hid.out ?_)
  refine zh ?_;replace hk2:Keeps W1 W2 []:=hk2;rw[List.nil_append]at ho2
  go_wp2_with (at_builtin;refine wpList_append_W elemAcC encAc rfl (.tmp 17) (.tmp 18) rfl W1.heap.size v1 A2 l2.length c2 l1 l2 rfl rfl rfl ho2 ((HL2.out.keeps (hk1.then_ hk2)).lies encAc) (by have:=HLE.out;omega) hk2.size ?_;intro v3 W3 ho3 hk3;refine Hid.out ?_)
  refine zh ?_;replace hk3:Keeps W2 W3 v1.ownBlock.toList:=hk3;have hk13:Keeps W1 W3 []:=hk2.trans hk3 (fun y hy hlt=>by have:=(ho2.rows y hy).1;omega);obtain⟨l,hl⟩:∃l,l1++l2=l:=⟨_,rfl⟩;have hll:l.length≤2000000:=by rw[←hl,List.length_append];exact HLE.out
  rw[hl]at ho3;obtain⟨A3,n3,rfl⟩:=OwnN.slice ho3;have HFW:=zh (few14_any W3 A3 n3 l 40 (ho3.at_ encAc).g (by omega));have HR3:=zh (And.intro (hrm1.keeps hk13) (And.intro (hrr1.keeps hk13) (hk1.then_ hk13)));have HLL:=zh hl;clear ho2 hk2 ho3 hk3 hk13 hrm1 hrr1 hk1 hl hll;have d0:=HR3.out.1.cell 0;simp only[zga,zgz]at d0
  go_wp2_with fail
  refine HFW.out.mono ?_;rintro e w4 ⟨rfl,rfl⟩
  cases hfb:fewB l 40 with
  | false=>
   clear HFW hfb
   go_wp2_with fail
   refine(HKN.out _ HR3.out.2.2).mono ?_;rintro e w9 ⟨rfl,hk⟩;have hr9:=HR3.out.2.1.keeps hk;have HK9:=zh (And.intro (HR3.out.2.2.then_ hk) hr9);have z0:=hr9.frozen 0;have e0:=hr9.cell 0;simp only[zga,zgz]at e0;clear hk hr9 d0
   go_wp2_with fail
   have q0:=(HK9.out.2.store 0 (.bool true)).cell 0;refine⟨.bool true, ?_,rfl,HK9.out.1.then_set _ _ (by simp only;omega)⟩;simp[results,Tryz.results6,go_sem,q0]
  | true=>
   have HFL:=zh (few_len hfb);clear HFW hfb
   by_cases h1:many < 1
   ·go_wp2_with fail
    refine(HKN.out _ HR3.out.2.2).mono ?_;rintro e w9 ⟨rfl,hk⟩;have hr9:=HR3.out.2.1.keeps hk;have HK9:=zh (And.intro (HR3.out.2.2.then_ hk) hr9);have z0:=hr9.frozen 0;have e0:=hr9.cell 0;simp only[zga,zgz]at e0;clear hk hr9 d0
    go_wp2_with fail
    have q0:=(HK9.out.2.store 0 (.bool true)).cell 0;refine⟨.bool true, ?_,rfl,HK9.out.1.then_set _ _ (by simp only;omega)⟩;simp[results,Tryz.results6,go_sem,q0]
   ·by_cases h40:40 < many
    ·go_wp2_with fail
     refine(HKN.out _ HR3.out.2.2).mono ?_;rintro e w9 ⟨rfl,hk⟩;have hr9:=HR3.out.2.1.keeps hk;have HK9:=zh (And.intro (HR3.out.2.2.then_ hk) hr9);have z0:=hr9.frozen 0;have e0:=hr9.cell 0;simp only[zga,zgz]at e0;clear hk hr9 d0
     go_wp2_with fail
     have q0:=(HK9.out.2.store 0 (.bool true)).cell 0;refine⟨.bool true, ?_,rfl,HK9.out.1.then_set _ _ (by simp only;omega)⟩;simp[results,Tryz.results6,go_sem,q0]
    ·go_wp2_with fail
     refine(mtNew_in w w4 HR3.out.2.2).mono ?_;rintro e w5 ⟨d,rfl,hb5,hk5⟩;have HR5:=zh (And.intro (HR3.out.1.keeps hk5) (HR3.out.2.1.keeps hk5));have HB5:=zh hb5;have HCO:=zh (cpOk_one HM.out d);clear HR3 hb5 hk5 d0 h1 h40
     go_wp2_with fail
     obtain⟨bg,hbg⟩:∃b,w5.heap.size=b:=⟨_,rfl⟩;obtain⟨W6,hW6⟩:∃W6,w5.alloc (.cells #[.slice none 0 0] 22)=W6:=⟨_,rfl⟩;have hk6:Keeps w5 W6 []:=by rw[←hW6];exact Keeps.alloc _ _
     have hr6:Row W6 bg 22 #[.slice none 0 0]:=by rw[←hW6,←hbg];exact Row.new _ _ _
     rw[hW6];simp only[hbg];have HBG:=zh (show w.heap.size≤bg∧bm≠bg∧bm+1≠bg from⟨by rw[←hbg];exact HB5.out.k.size,(HR5.out.1.keeps hk6).ne_type hr6 (by decide),(HR5.out.2.keeps hk6).ne_type hr6 (by decide)⟩);have HS6:=zh (show CpAt (fun W L=>BkIn w W d L) bg W6 W6 [] (.slice none 0 0)from⟨HB5.out.keeps hk6,hr6,⟨none,0,rfl,ListAt.nil _ _ _ _ _,Nat.le_refl _⟩,fun _ _ _ _ _ _ h=>h⟩);have HR6:=zh (And.intro (HR5.out.1.keeps hk6) (HR5.out.2.keeps hk6));clear hW6 hk6 hr6 hbg HB5 HR5
     go_loopw [9] (fun i wr=>∃j:Nat,j≤l1.length∧i= .int .i64 j∧Hid (∃v,CpAt (fun W L=>BkIn w W d L) bg W6 wr (cpDos [] (l1.take j)) v)) (fun i _=>l1.length - (intOf i).toNat)
     case atStart=>exact⟨0,by omega,by go_num,zh ⟨_,HS6.out⟩⟩
     case round=>
      obtain⟨j,hj,rfl,HRE⟩:=hrel;obtain⟨v,hv⟩:=HRE.out;have HR:=zh hv;clear HRE hv HS6
      by_cases hjl:j < l1.length
      ·rename_i hA kB kC
       revert HL1 HL2 HM HLE HKN W1 bm hbm v1 W2 l A3 n3 HLL w4 HFL hA w5 d HCO kB kC bg W6 HBG HR6 wr u32 u33 u34 u35 u36 u37 u38 u39 u40 u41 u42 u43 u44 u45 u46 u47 j hj v HR hjl
       exact H1.out
      ·obtain rfl:j=l1.length:=by omega
       rw[List.take_length]at HR;rename_i hA kB kC
       revert HL1 HL2 HM HLE HKN W1 bm hbm v1 W2 l A3 n3 HLL w4 HFL hA w5 d HCO kB kC bg W6 HBG HR6 wr u32 u33 u34 u35 u36 u37 u38 u39 u40 u41 u42 u43 u44 u45 u46 u47 v hj HR hjl
       exact H2.out
set_option maxRecDepth 100000 in
set_option maxHeartbeats 4000000 in
theorem cpPart_1 (w:World)(A1 A2:Option Addr)(c1 c2:Nat)(l1 l2:List (Int×Sb))(many:Int):(cpPart w A1 A2 c1 c2 l1 l2 many).1:=by
 unfold cpPart;intro HL1 HL2 HM HLE HKN W1 bm hbm v1 W2 l A3 n3 HLL w4 HFL hA w5 d HCO kB kC bg W6 HBG HR6 wr u32 u33 u34 u35 u36 u37 u38 u39 u40 u41 u42 u43 u44 u45 u46 u47 j hj v HR hjl;have hjle:l1.length≤40:=by
  have h:=HFL.out.1;rw[←HLL.out,List.length_append]at h;omega
 obtain⟨bl,ol,cs,rfl,hbl,hcl⟩:=HL1.out (by omega);have hc:=hcl j hjl;have HFX:=zh (show l1[j].2.f.length≤300∧l1[j].2.c.length≤300 from(fun x hx=>HFL.out.2 x (by rw[←HLL.out];exact List.mem_append_left _ hx)) _ (List.getElem_mem hjl));obtain⟨L,hL⟩:∃L,cpDos [] (l1.take j)=L:=⟨_,rfl⟩;obtain⟨L',hL'⟩:∃L',cpDos [] (l1.take (j+1))=L' :=⟨_,rfl⟩;have hst:=cpDos_step (L:= []) hjl;rw[hL,hL']at hst;have HL' :=zh hL';rw[hL]at HR;obtain⟨⟨k,xf,xc,xq⟩,hx⟩:∃x,l1[j]=x:=⟨_,rfl⟩;rw[hx]at hc hst HFX;have HDA:=zh (fun(W:World) (hb:(fun W L=>BkIn w W d L) W L) (hv:LsAt W v L)=>doesB_any w W d v L (k,⟨xf,xc,xq⟩) HM.out HCO.out.ops hb hv HFX.out.1 HFX.out.2);unfold DoPost at HDA;rw[←hst]at HDA;have MC0:=fun(W' :World) (hW:Keeps w W' [])=>((hbl.keeps hW).cell (ol+j*4+0)).trans (hc 0 (by omega))
 have MC1:=fun(W' :World) (hW:Keeps w W' [])=>((hbl.keeps hW).cell (ol+j*4+1)).trans (hc 1 (by omega))
 have MC2:=fun(W' :World) (hW:Keeps w W' [])=>((hbl.keeps hW).cell (ol+j*4+2)).trans (hc 2 (by omega))
 have MC3:=fun(W' :World) (hW:Keeps w W' [])=>((hbl.keeps hW).cell (ol+j*4+3)).trans (hc 3 (by omega))
 simp only[acC,sbC,zgz,zgs,Nat.add_zero]at MC0 MC1 MC2 MC3;simp only at HDA;obtain⟨X,hX⟩:∃S:ByteArray,(⟨xf.toArray⟩:ByteArray)=S:=⟨_,rfl⟩;obtain⟨Y,hY⟩:∃S:ByteArray,(⟨xc.toArray⟩:ByteArray)=S:=⟨_,rfl⟩;simp only[hX]at MC1 HDA;simp only[hY]at MC2 HDA;have MB0:=fun(W' :World) (hW:KeepRow bg 22 wr W')=>(hW _ HR.out.row).cell 0
 simp only[zga,zgz]at MB0;have HLK:=zh (cpLight w bg);clear hcl hc hL hL' hst hx hX hY hbl HFX
 go_wp2_with fail
 refine wp_region_writersL cpW ((cpC w bg)) ((cpA bg)) _ 11 HLK.out (by kernel_rfl) rfl (by kernel_rfl) ?_;simp only[zts,ztz,zds,zdz];apply loosek_is 0 _ rfl
 ·intro W vals hW hkn
  clear hkn;have hC:=hW.c;refine⟨?_⟩;simp only[fill];go_simp
  first | exact⟨HLK.out.stp (Keeps.refl _ _),rfl⟩ | exact⟨HLK.out.stp (Keeps.alloc _ _),rfl⟩
 simp only[addEnt];apply loosek_is 1 _ rfl
 ·intro W vals hW hkn
  have hC:=hW.c;simp only[knowsK]at hkn
  try simp only[and_true]at hkn
  have hk:=PreK.two2 hW (by decide) (.inr (by decide));clear hC hW;refine⟨?_⟩;simp only[fill];go_simp
  first | exact⟨HLK.out.stp (Keeps.refl _ _),rfl⟩ | exact⟨HLK.out.stp (Keeps.alloc _ _),rfl⟩
 simp only[addEnt];apply loosek_is 2 _ rfl
 ·intro W vals hW hkn
  clear hkn;have hC:=hW.c;refine⟨?_⟩;simp only[fill];go_simp
  first | exact⟨HLK.out.stp (Keeps.refl _ _),rfl⟩ | exact⟨HLK.out.stp (Keeps.alloc _ _),rfl⟩
 simp only[addEnt];apply loosek_is 3 _ rfl
 ·intro W vals hW hkn
  clear hkn;have hC:=hW.c;refine⟨?_⟩;simp only[fill];go_simp
  first | exact⟨HLK.out.stp (Keeps.refl _ _),rfl⟩ | exact⟨HLK.out.stp (Keeps.alloc _ _),rfl⟩
 simp only[addEnt];apply loosek_is 4 _ rfl
 ·intro W vals hW hkn
  clear hkn;have hC:=hW.c;refine⟨?_⟩;simp only[fill];go_simp
  first | exact⟨HLK.out.stp (Keeps.refl _ _),rfl⟩ | exact⟨HLK.out.stp (Keeps.alloc _ _),rfl⟩
 simp only[addEnt];apply loosek_is 5 _ rfl
 ·intro W vals hW hkn
  have hC:=hW.c;simp only[knowsK]at hkn
  try simp only[and_true]at hkn
  have hk:=hC.1 (HCO.out.k HR.out.bk);clear hC hW;refine⟨?_⟩;simp only[fill];go_simp
  first | exact⟨HLK.out.stp (Keeps.refl _ _),rfl⟩ | exact⟨HLK.out.stp (Keeps.alloc _ _),rfl⟩
 simp only[addEnt];refine loosek_has 6 (fun v W' =>∃A8 c8,v= .tuple #[.slice A8 L'.length c8,.bool true]∧LsAt W' (.slice A8 L'.length c8) L' ∧(fun W L=>BkIn w W d L) W' L') rfl (fun W vals hW hkn φ' hφ=> ?_) ?_
 ·have hC:=hW.c
  simp only[knowsK]at hkn
  try simp only[and_true]at hkn
  clear hkn;have hb6:=PreK.two1 hW (.inl rfl);have HB6:=zh (And.intro (HCO.out.put HR.out.bk hb6 (hC.1 (HCO.out.k HR.out.bk))) (hb6.ls HR.out.ls));clear hb6 hC hW;refine⟨?_⟩;simp only[fill];go_simp
  ((with_reducible refine loosek_writes HLK.out hφ ?_);refine(HDA.out W HB6.out.1 HB6.out.2).mono ?_;rintro e w5 ⟨g,rfl,hb',⟨A8,c8,rfl,hl1,hl2⟩,hel⟩;exact⟨_,rfl,.two ⟨fun _=>HCO.out.k hb',fun b t cs _ h2 h3 hr=>hel b t cs hr h2 h3⟩ (fun h=>absurd rfl h) (fun _ cs hr=>hel _ _ cs hr (by decide) (by decide)),A8,c8,rfl,⟨A8,c8,rfl,hl1,hl2⟩,hb'⟩)
 simp only[addEnt];refine loosek_has 7 (fun v W' =>∃A8 c8,v= .tuple #[.slice A8 L'.length c8,.bool true]∧LsAt W' (.slice A8 L'.length c8) L') rfl (fun W vals hW hkn φ' hφ=> ?_) ?_
 ·have hC:=hW.c
  simp only[knowsK]at hkn
  try simp only[and_true]at hkn
  obtain⟨W1,h0,h1,A8,c8,hv,hr,-⟩:=hkn (by decide);have HR7:=zh ((BtwK.two1 h1 (.inl rfl)).ls hr);clear hr h0 h1 hkn hC hW;refine⟨?_⟩;simp only[fill];go_simp;exact⟨HLK.out.stp (Keeps.refl _ _),hφ.out _ _ ⟨A8,c8,rfl,HR7.out⟩⟩
 simp only[addEnt];refine loosek_has 8 (fun v W' =>∃A8 c8,v= .slice A8 L'.length c8∧LsAt W' (.slice A8 L'.length c8) L') rfl (fun W vals hW hkn φ' hφ=> ?_) ?_
 ·have hC:=hW.c
  simp only[knowsK]at hkn
  try simp only[and_true]at hkn
  obtain⟨W1,h0,h1,A8,c8,hv,hr⟩:=hkn.1 (by decide);have HR7:=zh ((BtwK.two1 h1 (.inr (.inl (show(7:Nat)∈ [7,8,10]by decide)))).ls hr);clear hr h0 h1 hkn hC hW;refine⟨?_⟩;simp only[fill];go_simp;exact⟨HLK.out.stp (Keeps.refl _ _),hφ.out _ _ ⟨A8,c8,rfl,HR7.out⟩⟩
 simp only[addEnt];apply loosek_is 9 _ rfl
 ·intro W vals hW hkn
  have hC:=hW.c;simp only[knowsK]at hkn
  try simp only[and_true]at hkn
  obtain⟨W1,h0,h1,A8,c8,hv,hr⟩:=hkn.2.1 (by decide);clear hr h0 h1 hkn hC hW;refine⟨?_⟩;simp only[fill];go_simp
  first | exact⟨HLK.out.stp (Keeps.refl _ _),rfl⟩ | exact⟨HLK.out.stp (Keeps.alloc _ _),rfl⟩
 simp only[addEnt];refine loosek_has 10 (fun _ W' =>∃g,Row W' bg 22 #[g]∧LsAt W' g L') rfl (fun W vals hW hkn φ' hφ=> ?_) ?_
 ·have hC:=hW.c
  simp only[knowsK]at hkn
  try simp only[and_true]at hkn
  obtain⟨W2,k0,k1,A8,c8,hv2,hg⟩:=hkn.1 (by decide);have q12:=(PreK.two2 hW (by decide) (.inl rfl)) _ HR.out.row;have HB12:=zh (And.intro q12 ((BtwK.two1 k1 (.inr (.inl (show(8:Nat)∈ [7,8,10]by decide)))).ls hg));have g0:=q12.cell 0;have f0:=q12.frozen 0;simp only[zga,zgz]at g0;clear k0 k1 hg q12 hkn hC hW;refine⟨?_⟩;simp only[fill];go_simp;exact cp_stored HB12.out.1 HB12.out.2 HBG.out.1 hφ
 simp only[addEnt];refine loosek_nil (fun W9 vals hW hkn=> ?_);simp only[knowsAllK]at hkn
 try simp only[and_true]at hkn
 simp only[fill,Act.put,zsa,zsc,zsz];obtain⟨⟨_,Wa,a1,a2,g12,hr12,hg12⟩,-,-,Wb,q1,q2,_,_,hv6,hg6,hd6⟩:=hkn;have hko:=hW.1 (HCO.out.k HR.out.bk);have HQ:=zh (show CpAt (fun W L=>BkIn w W d L) bg W6 W9 L' g12 from⟨HCO.out.put hd6 (PostK.two1 q2 (.inl rfl)) hko,(PostK.two2 a2 (by decide) (.inl rfl)) _ hr12,(PostK.two1 a2 (.inr (show(10:Nat)∈ [7,8,10]by decide))).ls hg12,fun g t cs h1 h2 h3 hr=>hW.2 g t cs h1 h2 h3 (HR.out.el g t cs h1 h2 h3 hr)⟩);clear a1 a2 hr12 hg12 q1 q2 hv6 hg6 hd6 hko hW MB0 MC0 MC1 MC2 MC3 HDA HR HLK
 go_wp2_with fail
 exact⟨⟨j+1,by omega,by go_num,zh ⟨_,by rw[HL'.out];exact HQ.out⟩⟩,by simp[intOf];omega⟩

attribute [local go_sem] Oper.semAt_some

/-- What stands beside the walk. -/
structure CpWorld (w W:World)(dc d bg bm:Nat)(L1:List Sb)(v:Value)(many:Int):Prop where
 bk:Bk2 w W dc L1 d L1
 row:Row W bg 22 #[v]
 ls:LsAt W v L1
 rm:Row W bm 3 #[.int .i64 many]
 rr:Row W (bm+1) 4 #[.bool false]
theorem CpWorld.turn {w W V:World}{dc d bg bm bn:Nat}{L1:List Sb}{v:Value}{many:Int}{cs:Array Value}(h:CpWorld w W dc d bg bm L1 v many)(hr:Row W bn 3 cs)(hb:w.heap.size≤bn)(hne:bm≠bn)(hk:Keeps W V [bn]):CpWorld w V dc d bg bm L1 v many:=by
 obtain⟨⟨X1,X2,h1,h2,h3,h4⟩,h5,⟨A,c,e,h6,h7⟩,h8,h9⟩:=h;have far:∀{g:Nat} {t:TypeId} {cs' :Array Value},Row W g t cs' →t≠3→g∉ [bn]:=fun hg ht hm=>by
  rw[List.mem_singleton.1 hm]at hg;exact hg.ne_type hr ht rfl
 refine⟨⟨X1,X2,h1.keep hk (fun x hx hm=>h1.far hr (by decide) (by decide) (by rwa [←List.mem_singleton.1 hm])),h2.keep hk (fun x hx hm=>h2.far hr (by decide) (by decide) (by rwa [←List.mem_singleton.1 hm])),h3,h4.trans hk (fun y hy hlt=>by simp at hy;omega)⟩,h5.keep hk (far h5 (by decide)),⟨A,c,e,fun hp=> ?_,h7⟩,h8.keep hk (by simpa using hne),h9.keep hk (far h9 (by decide))⟩;obtain⟨b,o,cs',ea,hq,hc⟩:=h6 hp;exact⟨b,o,cs',ea,hq.keep hk (far hq (by decide)),hc⟩
/-- Between rounds. -/
structure CpRg (W9:World)(bn:Nat)(many:Int)(s:List Sb)(V:World):Prop where
 k:Keeps W9 V [bn]
 rn:Row V bn 3 #[.int .i64 (s.length:Nat)]
 lt:(s.length:Int) < many
theorem keeps_rec {W9 V U:World}{bn:Nat}{S:List Nat}(h:Keeps W9 V [bn])(hk:Keeps V U S)(hS:∀x∈S,W9.heap.size≤x∧∃o,V.heap[x]? =some o∧isRec o=true):Keeps W9 U [bn]:=h.trans hk fun y hy hlt=>by have:=(hS y hy).1;omega
set_option maxRecDepth 100000 in
set_option maxHeartbeats 4000000 in
noncomputable def cpPartB (w:World)(A1 A2:Option Addr)(c1 c2:Nat)(l1 l2:List (Int×Sb))(many:Int):PSigma fun R3:Prop=>R3→(cpPart w A1 A2 c1 c2 l1 l2 many).2.1:=by
 apply PSigma.mk
 case snd=>
  intro h3;have H3:=zh h3;clear h3;unfold cpPart;intro HL1 HL2 HM HLE HKN W1 bm hbm v1 W2 l A3 n3 HLL w4 HFL hA w5 d HCO kB kC bg W6 HBG HR6 wr u32 u33 u34 u35 u36 u37 u38 u39 u40 u41 u42 u43 u44 u45 u46 u47 v hj HR hjl;obtain⟨L1,hL1⟩:∃L1,cpDos [] l1=L1:=⟨_,rfl⟩;rw[hL1]at HR;have HRR:=zh (And.intro (HR.out.el _ _ _ HBG.out.2.1 (by decide) (by decide) HR6.out.1) (HR.out.el _ _ _ HBG.out.2.2 (by decide) (by decide) HR6.out.2));clear hL1 HR6 HL1 HCO
  go_wp2_with fail
  refine(mtCopy_any w wr d L1 HR.out.bk (HM.out.keeps HR.out.bk.k) w.heap.size HR.out.bk.k.size).mono ?_;rintro e w7 ⟨dc,X,rfl,hb7,hx7,hk7⟩;have HB7:=zh (show Bk2 w w7 dc L1 d L1 from by
   obtain⟨X1,q1,q2⟩:=HR.out.bk;exact⟨X,X1,hb7,q1.keeps hk7,(fun x hx hy=>by
    have:=hx7 x hx;have:=(q1.base x hy).2;omega),q2.then_ hk7⟩)
  have HR7:=zh (And.intro (HR.out.row.keeps hk7) (And.intro (HR.out.ls.keeps hk7) (And.intro (HRR.out.1.keeps hk7) (HRR.out.2.keeps hk7))));have d0:=HR7.out.1.cell 0;simp only[zga,zgz]at d0;clear hb7 hx7 hk7 HR HRR
  go_wp2_with fail
  refine(mtAllF_any w7 _ L1 HB7.out.two.all).mono ?_;rintro e w8 ⟨bi,A8,c8,rfl,hk8,hb8,hr8,ho8⟩;have heq:∀W,(binOp .eql 59 (.func (.func 61) #[] #[.pointer (some ⟨bi,0,none⟩)]) .nilFunc).run Tryz.prog W= .ok (.bool false) W:=fun W=>by kernel_rfl
  have H8:=zh (And.intro hk8 (And.intro hb8 (And.intro hr8 ho8)));clear hk8 hb8 hr8 ho8 d0
  go_wp2_with fail
  rename_i kQ kK ha kD hD;obtain⟨bn,hbn⟩:∃b,w8.heap.size=b:=⟨_,rfl⟩;obtain⟨W9,hW9⟩:∃W9,w8.alloc (.cells #[.int .i64 0] 3)=W9:=⟨_,rfl⟩;have hk9:Keeps w8 W9 []:=by rw[←hW9];exact Keeps.alloc _ _
  have hrn:Row W9 bn 3 #[.int .i64 0]:=by rw[←hW9,←hbn];exact Row.new _ _ _
  have hbm8:=(HR7.out.2.2.1.keeps H8.out.1).lt;rw[hW9];simp only[hbn];have hk79:=H8.out.1.then_ hk9;have hcw:CpWorld w W9 dc d bg bm L1 v many:=⟨HB7.out.keeps hk79,HR7.out.1.keeps hk79,HR7.out.2.1.keeps hk79,HR7.out.2.2.1.keeps hk79,HR7.out.2.2.2.keeps hk79⟩;have hwn:w.heap.size≤bn:=by
   have:=(HB7.out.k.then_ H8.out.1).size;omega
  have hL1:L1.length≤4096:=HB7.out.one.ok.le;have hri:=H8.out.2.2.1.keeps hk9;have hoi:=H8.out.2.2.2.keeps hk9;clear hW9 hk9 hk79 heq HB7 HR7 H8;refine wpIn_wide.1 (?_:Code.wpIn Fence.wide 4 _ _ _ _ _);refine wpIn_rangeR (F:=Fence.wide) (n:=4) rfl (by omega) (gf:=61) (lb:= #[.pointer (some ⟨bi,0,none⟩)]) (by kernel_rfl) trivial (enters_of Tryz.func61 (by kernel_rfl) rfl)
   (mtAll1_iter Fence.wide 3 rfl trivial rfl (by omega) bi W9.heap.size A8 c8 L1 (by omega) W9 (Nat.le_refl _) [bn] ⟨hri.lt,by simpa using hri.ne_type hrn (by decide)⟩ (hoi.at_ encSb) (fun g o e hl=>by
    obtain⟨q1,cs,q2⟩:=hoi.rows g (by rw[e];simp[Value.ownBlock]);exact⟨q2.lt,by simpa using q2.ne_type hrn (by decide)⟩) (hri.cell 0))
   KpB.t (fun W l o hl _=>KpB.put' W l o hl) (fun _=>rfl)
   (fun s V=>CpRg W9 bn many s V)
   (fun c s V=>c= .exit 2∧Keeps W9 V [bn]∧Row V bn 3 #[.int .i64 (s.length:Nat)]∧(s.length:Int)=many)
   (fun s X Y S h hk hS=>⟨keeps_rec h.k hk hS,h.rn.rec_ hk hS,h.lt⟩)
   (fun c s X Y S h hk hS=>⟨h.1,keeps_rec h.2.1 hk hS,h.2.2.1.rec_ hk hS,h.2.2.2⟩)
   ⟨Keeps.refl _ _,hrn,by simp;omega⟩
   (fun T x a' V=>∃gx,a' = {tmps:=(T.setIfInBounds 56 (.agg #[.string ⟨x.f.toArray⟩,.string ⟨x.c.toArray⟩,.int .i64 x.q])).setIfInBounds 14 (.pointer (some ⟨gx,0,none⟩)),defers:= []}∧Row V gx 25 #[.string ⟨x.f.toArray⟩,.string ⟨x.c.toArray⟩,.int .i64 x.q])
   (fun _ _ _ _ _ h hk hS=>by
    obtain⟨g,e1,e2⟩:=h;exact⟨g,e1,e2.rec_ hk hS⟩) ?assign ?body ?done ?stop
  case assign=>
   intro l s x V K hI hK;unfold sbArgs
   gi_wp2
   have hk:=Keeps.alloc V (.cells #[.string ⟨x.f.toArray⟩,.string ⟨x.c.toArray⟩,.int .i64 x.q] 25);exact hK _ _ (KRec.keeps hk) (KpB.of (hk.weaken (by simp)) hI.k.size) ⟨hI.k.then_ hk,hI.rn.keeps hk,hI.lt⟩ ⟨V.heap.size,by simp only[zsa,zsc,zsz],Row.new _ _ _⟩
  case stop=>
   rintro c s V hp ⟨rfl,hk,hr,hm⟩ hd;have hmin:min many (L1.length:Int)=(s.length:Nat):=by
    have:=hp.length_le;omega
   rw[←hmin]at hr;have HC:=zh (show CpWorld w V dc d bg bm L1 v many∧Row V bn 3 #[.int .i64 (min many (L1.length:Int))]∧V.heap[W9.heap.size]? =some (.deferred (some []))∧w.heap.size≤W9.heap.size from⟨hcw.turn hrn hwn (by omega) hk,hr,hd,hcw.bk.k.size⟩);refine wpIn_exit ?_;refine hD _ _ ?_;clear hp hk hr hm hd hmin hbm8 hcw hwn hL1 hri hoi hrn ha kK kQ hD kD s hbn HBG hj hjl
   revert HL2 HM HLE HKN bm hbm v1 l A3 n3 HLL HFL hA d bg wr u32 u33 u34 u35 u36 u37 u38 u39 u40 u41 u42 u43 u44 u45 u46 u47 v L1 dc bi bn W9 V HC
   exact H3.out
  case done=>
   rintro s V hs hI hd;subst s;have hmin:min many (L1.length:Int)=(L1.length:Nat):=by
    have:=hI.lt;omega
   have hr:=hI.rn;rw[←hmin]at hr;have HC:=zh (show CpWorld w V dc d bg bm L1 v many∧Row V bn 3 #[.int .i64 (min many (L1.length:Int))]∧V.heap[W9.heap.size]? =some (.deferred (some []))∧w.heap.size≤W9.heap.size from⟨hcw.turn hrn hwn (by omega) hI.k,hr,hd,hcw.bk.k.size⟩);refine hD _ _ ?_
   dsimp only
   clear hI hr hd hmin hbm8 hcw hwn hL1 hri hoi hrn ha kK kQ hD kD hbn HBG hj hjl
   revert HL2 HM HLE HKN bm hbm v1 l A3 n3 HLL HFL hA d bg wr u32 u33 u34 u35 u36 u37 u38 u39 u40 u41 u42 u43 u44 u45 u46 u47 v L1 dc bi bn W9 V HC
   exact H3.out
  case body=>
   rintro l s ⟨xf,xc,xq⟩ a' V hI ⟨gx,rfl,hgx⟩ hp;simp only[zsa,zsc,zsz];have hne:bm≠bn:=by omega
   have hcv:=hcw.turn hrn hwn hne hI.k;obtain⟨hk,hrv,hlt⟩:=hI;have hsl:s.length < L1.length:=by
    have:=hp.length_le;simp at this;omega
   obtain⟨Av,cv,hve,hla,-⟩:=hcv.ls;have hq:=hcv.row;rw[hve]at hq;obtain⟨bl,ol,cs,hA,hrl,hcl⟩:=hla (by omega);have hxx:L1[s.length]=⟨xf,xc,xq⟩:=by
    obtain⟨t,ht⟩:=hp;have h0:L1[s.length]? =some (⟨xf,xc,xq⟩:Sb):=by rw[←ht];simp
    exact(List.getElem?_eq_some_iff.1 h0).2
   have hc:=hcl s.length hsl;rw[hxx]at hc;have M1:=fun(W:World) (hW:Keeps V W [])=>(hrv.keeps hW).cell 0
   have M2:=fun(W:World) (hW:Keeps V W [])=>(hq.keeps hW).cell 0
   have M3:=fun(W:World) (hW:Keeps V W [])=>(hgx.keeps hW).cell 0
   have M4:=fun(W:World) (hW:Keeps V W [])=>(hgx.keeps hW).cell 1
   have M5:=fun(W:World) (hW:Keeps V W [])=>(hgx.keeps hW).cell 2
   have M6:=fun(W:World) (hW:Keeps V W [])=>((hrl.keeps hW).cell (ol+s.length*3+0)).trans (hc 0 (by omega))
   have M7:=fun(W:World) (hW:Keeps V W [])=>((hrl.keeps hW).cell (ol+s.length*3+1)).trans (hc 1 (by omega))
   have M8:=fun(W:World) (hW:Keeps V W [])=>((hrl.keeps hW).cell (ol+s.length*3+2)).trans (hc 2 (by omega))
   simp only[sbC,zga,zgz,zgs,Nat.add_zero,hA]at M1 M2 M3 M4 M5 M6 M7 M8;obtain⟨X1,hX1⟩:∃S:ByteArray,(⟨xf.toArray⟩:ByteArray)=S:=⟨_,rfl⟩;obtain⟨Y1,hY1⟩:∃S:ByteArray,(⟨xc.toArray⟩:ByteArray)=S:=⟨_,rfl⟩;simp only[hX1]at M3 M6 ⊢
   simp only[hY1]at M4 M7 ⊢
   have HV:=zh (And.intro hk (And.intro hrv hcv));have HLT:=zh hlt;have hL40:s.length≤4096:=by omega
   clear hp hk hrv hlt hve hla hq hcl hc hcv hgx hrl hxx hX1 hY1 hcw hrn hri hoi hbm8 hD ha
   gi_wp2_with fail
   refine wpIn_region_keeps rfl _ (by kernel_rfl) rfl (by kernel_rfl) (by kernel_rfl) ?_
   iterate 12
    refine ls ?_;simp only[addEnt]
   refine loose_nil (fun W vals hW hkn=> ?_);simp only[knowsAll]at hkn
   try simp only[and_true]at hkn
   simp only[fill,Act.put,zsa,zsc,zsz];have hr2:=HV.out.2.1.keeps hW;have hc2:=HV.out.2.2.turn HV.out.2.1 hwn hne (hW.weaken (T:= [bn]) (by simp));have e0:=hr2.cell 0;have z0:=hr2.frozen 0;have m0:=hc2.rm.cell 0;simp only[zga,zgz]at e0 m0;have HW:=zh (And.intro hW hr2);clear hkn hW M1 M2 M3 M4 M5 M6 M7 M8 hr2 hc2
   gi_wp2_with fail
   all_goals
    have kT:Keeps V (W.setCell ⟨bn,0,none⟩ (.int .i64 ((s.length:Nat)+1))) [bn]:=(HW.out.1.weaken (T:= [bn]) (by simp)).trans (Keeps.setCell _ _ _) (fun y hy _=>hy);have kr:KRec V (W.setCell ⟨bn,0,none⟩ (.int .i64 ((s.length:Nat)+1))):=KRec.of kT fun x hx o h=>by
     rw[List.mem_singleton.1 hx]at h;exact HV.out.2.1.norec h
    have hrr:Row (W.setCell ⟨bn,0,none⟩ (.int .i64 ((s.length:Nat)+1))) bn 3 #[.int .i64 ((s++ [(⟨xf,xc,xq⟩:Sb)]).length:Nat)]:=by
     have h:=HW.out.2.store 0 (.int .i64 ((s.length:Nat)+1));rw[show((s++ [(⟨xf,xc,xq⟩:Sb)]).length:Int)=(s.length:Nat)+1 by simp];exact h
   ·rename_i hq
    have hq:=eq_of_beq hq;have hlt:=HLT.out;have hln:((s++ [(⟨xf,xc,xq⟩:Sb)]).length:Int)=(s.length:Nat)+1:=by simp
    exact⟨kr,rfl,HV.out.1.trans kT (fun y hy _=>hy),hrr,by omega⟩
   ·rename_i hq
    have hq:¬((s.length:Int)+1=many):=fun e=>by rw[e]at hq;simp at hq
    have hlt:=HLT.out;have hln:((s++ [(⟨xf,xc,xq⟩:Sb)]).length:Int)=(s.length:Nat)+1:=by simp
    exact⟨kr,KpB.of kT HV.out.1.size,HV.out.1.trans kT (fun y hy _=>hy),hrr,by omega⟩

/-- Between calls on the copy. -/
structure CcAt (w V wr:World)(dc d D:Nat)(L1 L:List Sb)(o:Value):Prop where
 bk:BkD w wr dc L d L1 D
 ls:LsAt wr o L
 el:Else V wr
set_option maxRecDepth 100000 in
set_option maxHeartbeats 4000000 in
noncomputable def cpPartC (w:World)(A1 A2:Option Addr)(c1 c2:Nat)(l1 l2:List (Int×Sb))(many:Int):PSigma fun R4:Prop=>PSigma fun R5:Prop=>R4→R5→(cpPartB w A1 A2 c1 c2 l1 l2 many).1:=by
 apply PSigma.mk;apply PSigma.mk
 case snd.snd=>
  intro h4 h5;have H4:=zh h4;have H5:=zh h5;clear h4 h5;unfold cpPartB;intro HL2 HM HLE HKN bm hbm v1 l A3 n3 HLL HFL hA d bg wr0 u32 u33 u34 u35 u36 u37 u38 u39 u40 u41 u42 u43 u44 u45 u46 u47 v L1 dc bi bn W9 V HC;obtain⟨D,hD⟩:∃D,W9.heap.size=D:=⟨_,rfl⟩;rw[hD]at HC;simp only[hD];clear hD;have HS:=zh (show CcAt w V V dc d D L1 L1 v from⟨⟨HC.out.1.bk,HC.out.2.2.1⟩,HC.out.1.ls,fun _ _ _ h _ _=>h⟩)
  go_wp2_with fail
  go_loopw [11,15] (fun o i wr=>∃j:Nat,j≤l2.length∧i= .int .i64 j∧Hid (CcAt w V wr dc d D L1 (cpDos L1 (l2.take j)) o)) (fun _ i _=>l2.length - (intOf i).toNat)
  case atStart=>exact⟨0,by omega,by go_num,HS⟩
  case round=>
   obtain⟨j,hj,rfl,HR⟩:=hrel;clear HS
   by_cases hjl:j < l2.length
   ·rename_i kB kC
    revert HL2 HM HLE HKN bm hbm v1 l A3 n3 HLL HFL hA d bg wr0 u32 u33 u34 u35 u36 u37 u38 u39 u40 u41 u42 u43 u44 u45 u46 u47 v L1 dc bi bn W9 V D HC kB kC wr u11 u74 u75 u76 u77 u78 u79 u80 u81 u82 u83 u84 u85 u86 u87 u88 u89 j hj HR hjl
    exact H4.out
   ·obtain rfl:j=l2.length:=by omega
    rw[List.take_length]at HR;rename_i kB kC
    revert HL2 HM HLE HKN bm hbm v1 l A3 n3 HLL HFL hA d bg wr0 u32 u33 u34 u35 u36 u37 u38 u39 u40 u41 u42 u43 u44 u45 u46 u47 v L1 dc bi bn W9 V D HC kB kC wr u11 u74 u75 u76 u77 u78 u79 u80 u81 u82 u83 u84 u85 u86 u87 u88 u89 hj HR hjl
    exact H5.out
set_option maxRecDepth 100000 in
set_option maxHeartbeats 4000000 in
theorem cpPartC_1 (w:World)(A1 A2:Option Addr)(c1 c2:Nat)(l1 l2:List (Int×Sb))(many:Int):(cpPartC w A1 A2 c1 c2 l1 l2 many).1:=by
 unfold cpPartC;intro HL2 HM HLE HKN bm hbm v1 l A3 n3 HLL HFL hA d bg wr0 u32 u33 u34 u35 u36 u37 u38 u39 u40 u41 u42 u43 u44 u45 u46 u47 v L1 dc bi bn W9 V D HC kB kC wr u11 u74 u75 u76 u77 u78 u79 u80 u81 u82 u83 u84 u85 u86 u87 u88 u89 j hj HR hjl;have hjle:l2.length≤40:=by
  have h:=HFL.out.1;rw[←HLL.out,List.length_append]at h;omega
 obtain⟨b,o,cs,rfl,hr,hc⟩:=HL2.out (by omega);obtain⟨L,hL⟩:∃L,cpDos L1 (l2.take j)=L:=⟨_,rfl⟩;have hst:=cpDos_step (L:=L1) hjl;have HFX:=zh (HFL.out.2 _ (show l2[j]∈l by rw[←HLL.out];exact List.mem_append_right _ (List.getElem_mem hjl)));rw[hL]at hst HR;have hrk:=hr.keeps HR.out.bk.1.k;have c0:=(hrk.cell (o+j*4+0)).trans (hc j hjl 0 (by omega));have c1:=(hrk.cell (o+j*4+1)).trans (hc j hjl 1 (by omega));have c2:=(hrk.cell (o+j*4+2)).trans (hc j hjl 2 (by omega));have c3:=(hrk.cell (o+j*4+3)).trans (hc j hjl 3 (by omega));obtain⟨⟨k,xf,xc,xq⟩,hx⟩:∃x,l2[j]=x:=⟨_,rfl⟩;rw[hx]at c0 c1 c2 c3 hst HFX;have HST:=zh hst;have HDA:=zh (doesB_any w wr dc u11 L (k,⟨xf,xc,xq⟩) HM.out (bkOps_three HM.out dc d L1 D) HR.out.bk HR.out.ls HFX.out.1 HFX.out.2);simp only[acC,sbC,zgz,zgs,Nat.add_zero]at c0 c1 c2 c3 HDA;obtain⟨X,hX⟩:∃S:ByteArray,(⟨xf.toArray⟩:ByteArray)=S:=⟨_,rfl⟩;obtain⟨Y,hY⟩:∃S:ByteArray,(⟨xc.toArray⟩:ByteArray)=S:=⟨_,rfl⟩;rw[hX]at c1 HDA;rw[hY]at c2 HDA;clear hX hY hx hrk hr hc hL hst
 go_wp2_with fail
 refine HDA.out.mono ?_;rintro e w4 ⟨v4,rfl,hb4,hv4,he4⟩;have HN:=zh (show CcAt w V w4 dc d D L1 (cpDos L1 (l2.take (j+1))) v4 from⟨by rw[HST.out];exact hb4,by rw[HST.out];exact hv4,HR.out.el.t he4⟩);clear hb4 hv4 he4 HDA c0 c1 c2 c3
 go_wp2_with fail
 exact⟨⟨j+1,by omega,by go_num,HN⟩,by simp[intOf];omega⟩

theorem BkIn.of_bk {w W:World}{d:Nat}{L:List Sb}{X:List Nat}(h:Bk w.heap.size W d L X)(hk:Keeps w W []):BkIn w W d L:=⟨X,h,hk⟩
set_option maxRecDepth 100000 in
set_option maxHeartbeats 4000000 in
theorem cpPartC_2 (w:World)(A1 A2:Option Addr)(c1 c2:Nat)(l1 l2:List (Int×Sb))(many:Int):(cpPartC w A1 A2 c1 c2 l1 l2 many).2.1:=by
 unfold cpPartC;intro HL2 HM HLE HKN bm hbm v1 l A3 n3 HLL HFL hA d bg wr0 u32 u33 u34 u35 u36 u37 u38 u39 u40 u41 u42 u43 u44 u45 u46 u47 v L1 dc bi bn W9 V D HC kB kC wr u11 u74 u75 u76 u77 u78 u79 u80 u81 u82 u83 u84 u85 u86 u87 u88 u89 hj HR hjl;obtain⟨L2,hL2⟩:∃L,cpDos L1 l2=L:=⟨_,rfl⟩;rw[hL2]at HR;have el:=HR.out.el;have HROW:=zh (And.intro (el _ _ _ HC.out.1.row (by decide) (by decide)) (And.intro (el _ _ _ HC.out.1.rm (by decide) (by decide)) (And.intro (el _ _ _ HC.out.1.rr (by decide) (by decide)) (el _ _ _ HC.out.2.1 (by decide) (by decide)))));have HLS:=zh (HC.out.1.ls.else_ el);have HBK:=zh (And.intro HR.out.bk.1.one HR.out.bk.1.two);have HLO:=zh HR.out.ls;have HDD:=zh (And.intro HR.out.bk.2 HC.out.2.2.2);obtain⟨mn,hmn⟩:∃m,min many (L1.length:Int)=m:=⟨_,rfl⟩;rw[hmn]at HROW;have MA0:=fun(W:World) (hW:Keeps wr W [])=>(HROW.out.2.2.2.keeps hW).cell 0
 have MA1:=fun(W:World) (hW:Keeps wr W [])=>(HROW.out.2.1.keeps hW).cell 0
 obtain⟨Av,cv,hve,hlv,hcv⟩:=HLS.out;have hq:=HROW.out.1;rw[hve]at hq;have MA2:=fun(W:World) (hW:Keeps wr W [])=>(hq.keeps hW).cell 0
 simp only[zga,zgz]at MA0 MA1 MA2;have HLV:=zh hlv;obtain⟨Ao,co,rfl,hlo,hco⟩:=HLO.out;have HLO2:=zh hlo;clear el HR HC hL2 hq hlv hlo;have C9:=zh (fun(W:World) (hW:Keeps wr W [])=>playSame_any w W d (.slice Av L1.length cv) L1 (HBK.out.2.keeps hW) ⟨Av,cv,rfl,HLV.out.keeps hW,hcv⟩);have C14:=zh (fun(W:World) (hW:Keeps wr W [])=>playSame_any w W dc (.slice Ao L2.length co) L2 (HBK.out.1.keeps hW) ⟨Ao,co,rfl,HLO2.out.keeps hW,hco⟩);have C19:=zh (fun(W:World) (hW:Keeps wr W [])=>mtSame_any (HBK.out.2.keeps hW) (HBK.out.1.keeps hW));have C22:=zh (fun(W:World) (hW:Keeps wr W [])=>mtSameSub_any W Av Ao cv co L1 L2 (HLV.out.keeps hW) (HLO2.out.keeps hW) (by have:=HBK.out.2.ok.le;omega));obtain⟨sm,hsm⟩:∃b,decide (L1=L2)=b:=⟨_,rfl⟩;rw[hsm]at C19 C22;have C28:=zh (fun(W:World) (hW:Keeps wr W [])=>mtCopy_any w W d L1 (HBK.out.2.keeps hW) (HM.out.keeps (HBK.out.2.k.then_ hW)) w.heap.size (HBK.out.2.k.then_ hW).size);clear hsm hcv hco
 go_wp2_with fail
 refine wp_region_tail KeepsAll _ 29 (by kernel_rfl) rfl (by kernel_rfl) (fun _=>Keeps.refl _ _) (fun _ _ _ h k=>h.trans k (by simp)) (Keeps.drew _) ?_;simp only[zts,ztz,zds,zdz]
 iterate 9
  refine ls ?_;simp only[addEnt]
 apply loose_is
 ·intro W vals hW hkn
  clear hkn;refine⟨?_⟩;simp only[fill];go_simp;refine looseUpon_calls ?_;refine(C9.out W hW).mono ?_;rintro e w3 ⟨rfl,hk⟩;exact⟨_,rfl,hk,rfl⟩
 iterate 4
  simp only[addEnt];refine ls ?_
 simp only[addEnt];apply loose_is
 ·intro W vals hW hkn
  clear hkn;refine⟨?_⟩;simp only[fill];go_simp;refine looseUpon_calls ?_;refine(C14.out W hW).mono ?_;rintro e w3 ⟨rfl,hk⟩;exact⟨_,rfl,hk,rfl⟩
 iterate 4
  simp only[addEnt];refine ls ?_
 simp only[addEnt];apply loose_is
 ·intro W vals hW hkn
  clear hkn;refine⟨?_⟩;simp only[fill];go_simp;refine looseUpon_calls ?_;refine(C19.out W hW).mono ?_;rintro e w3 ⟨rfl,hk⟩;exact⟨_,rfl,hk,rfl⟩
 iterate 2
  simp only[addEnt];refine ls ?_
 simp only[addEnt];apply loose_is
 ·intro W vals hW hkn
  clear hkn;refine⟨?_⟩;simp only[fill];go_simp;refine looseUpon_calls ?_;refine(C22.out W hW).mono ?_;rintro e w3 ⟨rfl,hk⟩;exact⟨_,rfl,hk,rfl⟩
 iterate 5
  simp only[addEnt];refine ls ?_
 simp only[addEnt];refine loose_has (fun v W' =>∃dn,v=ptr0 dn∧BkIn w W' dn L1) (fun W vals hW hkn φ' hφ=> ?_) ?_
 ·simp only[knows]at hkn
  try simp only[and_true]at hkn
  clear hkn;refine⟨?_⟩;simp only[fill];go_simp
  (with_reducible refine looseUpon_has hφ ?_;refine(C28.out W hW).mono ?_;intro e w7 hp;unfold CopyPost at hp;obtain⟨dn,X,rfl,hb7,hx7,hk7⟩:=hp;exact⟨_,rfl,hk7,dn,rfl,BkIn.of_bk hb7 ((HBK.out.2.k.then_ hW).then_ hk7)⟩)
 simp only[addEnt];refine loose_nil ?_;intro W vals hW hkn;simp only[knowsAll,and_true]at hkn;simp only[fill,Act.put,zsa,zsc,zsz];obtain⟨W0,k0,k1,dn,hv,hb⟩:=hkn;rw[hv];have HCP:=zh (BkIn.keeps hb k1);have HW:=zh (show Keeps wr W []from hW);have hD:=HDD.out.1;clear hv hb k0 k1 hW MA0 MA1 MA2 C9 C14 C19 C22 C28
 go_wp2_with fail
 refine(mtSame_any (HBK.out.2.keeps HW.out) HCP.out).mono ?_;rintro e w10 ⟨rfl,hk10⟩;rw[decide_eq_true rfl];have HK10:=zh (HW.out.then_ hk10);clear hk10
 go_wp2_with fail
 refine(mtSameNil_any (HBK.out.2.keeps HK10.out)).mono ?_;rintro e w11 ⟨rfl,hk11⟩;have HK11:=zh (HK10.out.then_ hk11);clear hk11
 go_wp2_with fail
 refine(HKN.out _ (HBK.out.2.k.then_ HK11.out)).mono ?_;rintro e w12 ⟨rfl,hk12⟩;have HK12:=zh (HK11.out.then_ hk12);have hr12:=HROW.out.2.2.1.keeps HK12.out;have HR12:=zh hr12;have z0:=hr12.frozen 0;have e0:=hr12.cell 0;simp only[zga,zgz]at e0;clear hk12 hr12 hD
 go_wp2_with fail
 have hne:D≠bm+1:=fun e=>by
  have h1:=HDD.out.1;rw[e]at h1;have h2:=HROW.out.2.2.1.norec h1
  cases h2
 have hlt:D < wr.heap.size:=(Array.getElem?_eq_some_iff.1 HDD.out.1).1;have ks:Keeps w12 (w12.setCell ⟨bm+1,0,none⟩ (.bool true)) [bm+1]:=Keeps.setCell _ _ _;have hd13:(w12.setCell ⟨bm+1,0,none⟩ (.bool true)).heap[D]? =some (.deferred (some [])):=
  (ks.block D (Nat.lt_of_lt_of_le hlt HK12.out.size) (by simpa using hne)).trans ((HK12.out.block D hlt (by simp)).trans HDD.out.1)
 refine⟨by simp,.inl ⟨_,_,rfl,run_takeDeferred hd13, ?_⟩⟩;have kp:=keeps_put (w12.setCell ⟨bm+1,0,none⟩ (.bool true)) D (.deferred none);have hrf:=(HR12.out.store 0 (.bool true)).keep kp (by simpa using fun e=>hne e.symm);have q0:=hrf.cell 0;have hbk:=HBK.out.2.k;refine⟨.bool true, ?_,rfl,((hbk.then_ HK12.out).trans ks (fun y hy hlt=>by simp at hy;omega)).trans kp (fun y hy hlt=>by have:=HDD.out.2;simp at hy;omega)⟩;simp[results,Tryz.results6,go_sem,q0]
/-- MatchCopies answers true. -/
theorem matchCopies_any (w:World)(A1 A2:Option Addr)(c1 c2:Nat)(l1 l2:List (Int×Sb))(many:Int)(hm:MaxL w)(hl1:ListG w 4 acC A1 l1)(hl2:ListG w 4 acC A2 l2)(hle:l1.length+l2.length≤2000000):
  Calls Tryz.prog 6 #[.slice A1 l1.length c1,.slice A2 l2.length c2,.int .i64 many] w (TruePost w true):=
 (cpPart w A1 A2 c1 c2 l1 l2 many).2.2 (cpPart_1 w A1 A2 c1 c2 l1 l2 many) ((cpPartB w A1 A2 c1 c2 l1 l2 many).2 ((cpPartC w A1 A2 c1 c2 l1 l2 many).2.2 (cpPartC_1 w A1 A2 c1 c2 l1 l2 many) (cpPartC_2 w A1 A2 c1 c2 l1 l2 many))) hm hl1 hl2 hle
end Go.Proofs.YtoadlafdeoklbaaGreatDoor
