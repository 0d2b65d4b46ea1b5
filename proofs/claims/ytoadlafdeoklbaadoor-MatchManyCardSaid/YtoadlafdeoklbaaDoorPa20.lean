/- Package match: a tree of beginnings in memory; fresh, New, none, client. Package topic: the levels of a filter, one by one (an iterator). -/
import Derived.Test.YtoadlafdeoklbaaDoorPa4
import Derived.Test.YtoadlafdeoklbaaDoorPa8
import Derived.Test.YtoadlafdeoklbaaDoorPa12
import Derived.Test.YtoadlafdeoklbaaDoorPa11
import Derived.Test.YtoadlafdeoklbaaDoorPa19
import Derived.RangeFuncKeeps

namespace Go.Proofs.YtoadlafdeoklbaaDoor
open Go.RowKit Go.Maps

abbrev Path:Type:=List (List UInt8)
theorem mtUndStr:Tryd.prog.underlying 9=some .string:=by kernel_rfl
theorem mtUndHere:Tryd.prog.underlying 46=some (.map 9 30):=by kernel_rfl
theorem mtUndKids:Tryd.prog.underlying 47=some (.map 9 40):=by kernel_rfl
/-- An entry as a value. -/
def sbC (x:Sb):List Value:= [.string ⟨x.f.toArray⟩,.string ⟨x.c.toArray⟩,.int .i64 x.q]
def sbV (x:Sb):Value:= .agg #[.string ⟨x.f.toArray⟩,.string ⟨x.c.toArray⟩,.int .i64 x.q]
def sbZ:Sb:=⟨[], [],0⟩
theorem zeroSub:∀w,(zeroValue 30).run Tryd.prog w= .ok (sbV sbZ) w:=fun w=>by kernel_rfl
theorem zeroNd:∀w,(zeroValue 40).run Tryd.prog w= .ok (.pointer none) w:=fun w=>by kernel_rfl
abbrev ptr0 (b:Nat):Value:= .pointer (some ⟨b,0,none⟩)
/-- Where a node lies. -/
structure Nd where
 b:Nat
 h:Nat
 k:Nat
abbrev HereM (w:World)(b:Nat)(f:List UInt8→Option Sb):Prop:=SMap w Tryd.prog 9 b fun c=>(f c).map sbV
abbrev KidsM (w:World)(b:Nat)(f:List UInt8→Option Nat):Prop:=SMap w Tryd.prog 9 b fun x=>(f x).map ptr0
def ndRow (n:Nd):Array Value:= #[.map (some n.h),.map (some n.k)]
/-- A tree in memory: S tells which beginnings are there, E their entries, N where they lie. -/
structure TreeAt (W:World)(B:Nat)(S:List Path)(E:Path→List UInt8→Option Sb)(N:Path→Nd):Prop where
 root:([]:Path)∈S
 up:∀p x,p++ [x]∈S→p∈S
 row:∀p∈S,Row W (N p).b 49 (ndRow (N p))
 here:∀p∈S,HereM W (N p).h (E p)
 kids:∀p∈S,KidsM W (N p).k fun x=>if p++ [x]∈S then some (N (p++ [x])).b else none
 base:∀p∈S,B≤(N p).b∧B≤(N p).h∧B≤(N p).k
 hk:∀p∈S,∀q∈S,(N p).h≠(N q).k
 hh:∀p∈S,∀q∈S,(N p).h=(N q).h→p=q
 kk:∀p∈S,∀q∈S,(N p).k=(N q).k→p=q
 le:S.length≤2000000
 ek:∀p,∃l:List (List UInt8),(∀c,E p c≠none→c∈l)∧l.length≤100000
theorem smap_ne_row {P:Program}{k:TypeId}{W:World}{b g:Nat}{t:TypeId}{cs:Array Value}{f:List UInt8→Option Value}(h:SMap W P k b f)(hr:Row W g t cs):b≠g:=by
 rintro rfl;obtain⟨D,⟨es,clock,hb,_⟩,_⟩:=h;rw[hr]at hb
 cases hb
section
variable {W W' :World} {B:Nat} {S:List Path} {E:Path→List UInt8→Option Sb} {N:Path→Nd}
theorem TreeAt.keep {T:List Nat}(h:TreeAt W B S E N)(hk:Keeps W W' T)(hT:∀p∈S,(N p).b∉T∧(N p).h∉T∧(N p).k∉T):TreeAt W' B S E N:=
 ⟨h.root,h.up,fun p hp=>(h.row p hp).keep hk (hT p hp).1,fun p hp=>(h.here p hp).keep hk (hT p hp).2.1,fun p hp=>(h.kids p hp).keep hk (hT p hp).2.2,h.base,h.hk,h.hh,h.kk,h.le,h.ek⟩
theorem TreeAt.keeps (h:TreeAt W B S E N)(hk:Keeps W W' []):TreeAt W' B S E N:=h.keep hk fun _ _=>by simp
/-- A block of another kind of row turns. -/
theorem TreeAt.box {g:Nat}{t:TypeId}{cs:Array Value}(h:TreeAt W B S E N)(hk:Keeps W W' [g])(hr:Row W g t cs)(ht:t≠49):TreeAt W' B S E N:=h.keep hk fun p hp=>by
 refine⟨fun e=> ?_,fun e=> ?_,fun e=> ?_⟩
 ·obtain rfl:=List.mem_singleton.1 e
  exact(h.row p hp).ne_type hr (fun e=>ht e.symm) rfl
 ·exact smap_ne_row (h.here p hp) hr (List.mem_singleton.1 e)
 ·exact smap_ne_row (h.kids p hp) hr (List.mem_singleton.1 e)
/-- A kid is looked up. -/
theorem TreeAt.kid (h:TreeAt W B S E N){p:Path}(hp:p∈S){x:List UInt8}(hx:x.length≤100000):
  (Instr.lookup 47 (.map (some (N p).k)) (.string ⟨x.toArray⟩) false).run Tryd.prog W= .ok (.pointer (if p++ [x]∈S then some ⟨(N (p++ [x])).b,0,none⟩else none)) W:=by
 have h1:=(h.kids p hp).look mtUndStr mtUndKids (zeroNd W) (x:=x) (by simp[maxLen];omega) false;rw[if_neg (by decide)]at h1;refine h1.trans ?_
 by_cases h:p++ [x]∈S <;> simp[h]
theorem TreeAt.lt (h:TreeAt W B S E N){p:Path}(hp:p∈S):(N p).b < W.heap.size∧(N p).h < W.heap.size∧(N p).k < W.heap.size:=⟨(h.row p hp).lt,(h.here p hp).lt,(h.kids p hp).lt⟩
end
/-- A node that was made just now. -/
structure FreshNd (w w' :World)(n:Nd):Prop where
 row:Row w' n.b 49 (ndRow n)
 here:HereM w' n.h fun _=>none
 kids:KidsM w' n.k fun _=>none
 hb:w.heap.size≤n.b
 hh:w.heap.size≤n.h
 hk:w.heap.size≤n.k
 ne:n.h≠n.k
 k:Keeps w w' []
set_option maxRecDepth 100000 in
theorem mtFresh_any (w:World):Calls Tryd.prog 12 #[] w fun e w' =>∃n,e= .returned (ptr0 n.b)∧FreshNd w w' n:=by
 have hmm:= @run_makeMap Tryd.prog
 go_enter Tryd.func12,Tryd.ntmps12
 go_wp2_with fail
 go_ret;refine⟨⟨w.heap.size+2,w.heap.size,w.heap.size+1⟩,rfl, ?_, ?_, ?_,by simp,by simp,by simp,by simp, ?_⟩
 ·have:=Row.new ((w.alloc (.map #[] 0)).alloc (.map #[] 0)) 49 (ndRow ⟨w.heap.size+2,w.heap.size,w.heap.size+1⟩)
  rw[World.size_alloc,World.size_alloc]at this;exact this
 ·have:=SMap.made w Tryd.prog 9
  exact(this.keeps ((Keeps.alloc _ _).then_alloc _)).congr fun _=>rfl
 ·have:=SMap.made (w.alloc (.map #[] 0)) Tryd.prog 9
  rw[World.size_alloc]at this;exact(this.keeps (Keeps.alloc _ _)).congr fun _=>rfl
 ·exact((Keeps.alloc _ _).then_alloc _).then_alloc _
/-- A book in memory. -/
structure BookAt (W:World)(B d:Nat)(L:List Sb)(S:List Path)(N:Path→Nd):Prop where
 row:Row W d 43 #[ptr0 (N []).b,.int .i64 (L.length:Nat)]
 tree:TreeAt W B S (hereF L) N
 ok:MtOk L
 st:∀p,p∈S↔Stand L p
set_option maxRecDepth 100000 in
theorem mtNone_at (w:World)(d:Nat)(p:Option Addr)(v:Value)(hr:Row w d 43 #[.pointer p,v]):
  Calls Tryd.prog 13 #[.pointer (some ⟨d,0,none⟩)] w fun e w' =>e= .returned (.bool p.isNone)∧w' =w:=by
 have c0:=hr.cell 0;simp only[zga,zgz]at c0
 cases p with
 | none=>
  go_enter Tryd.func13,Tryd.ntmps13
  go_wp2
  go_ret;exact⟨rfl,rfl⟩
 | some a=>
  go_enter Tryd.func13,Tryd.ntmps13
  go_wp2
  go_ret;exact⟨rfl,rfl⟩
set_option maxRecDepth 100000 in
theorem mtClient_any (w:World)(s:List UInt8)(hs:s.length≤9223372036854775807):Calls Tryd.prog 15 #[.string ⟨s.toArray⟩] w fun e w' =>e= .returned (.bool (mtCl s))∧w' =w:=by
 obtain⟨S,hS⟩:∃S:ByteArray,(⟨s.toArray⟩:ByteArray)=S:=⟨_,rfl⟩;have hz:S.size=s.length:=by rw[←hS];simp[ByteArray.size]
 have he:S.toList.isEmpty=decide (s.length=0):=emp_iff s hS;rw[hS]
 by_cases h0:s.length=0
 ·have hm:mtCl s=false:=by unfold mtCl;rw[h0];rfl
  have he2:S.toList.isEmpty=true:=by rw[he,h0];rfl
  rw[hm];clear he hS h0 hm hs hz
  go_enter Tryd.func15,Tryd.ntmps15
  go_wp2
  go_ret;exact⟨rfl,rfl⟩
 ·have hm:mtCl s=decide ((S.size:Int)≤23):=by
   unfold mtCl;rw[decide_eq_true (by omega),Bool.true_and,hz];rw[Bool.eq_iff_iff];simp;omega
  have he2:S.toList.isEmpty=false:=by rw[he,decide_eq_false h0]
  rw[hm];clear he hS h0 hm hs hz
  go_enter Tryd.func15,Tryd.ntmps15
  go_wp2
  go_ret;exact⟨rfl,rfl⟩
end Go.Proofs.YtoadlafdeoklbaaDoor

namespace Go.Proofs.YtoadlafdeoklbaaDoor
open Go.RowKit Go.Shelf

attribute [local go_sem] Oper.semAt_some

/-- What a round leaves alone: all below n₀ and all cells, but for blocks of S. -/
structure KpS (n₀:Nat)(S:List Nat)(W W' :World):Prop where
 os:W'.os=W.os
 tape:W'.tape=W.tape
 output:W'.output=W.output
 size:W.heap.size≤W'.heap.size
 block:∀k,k < n₀→k∉S→W'.heap[k]? =W.heap[k]?
 same:∀(k:Nat) (cs:Array Value) (t:TypeId) (d:Nat×Nat),k∉S→W.heap[k]? =some (.cells cs t d)→W'.heap[k]? =some (.cells cs t d)
theorem KpS.refl (n₀:Nat)(S:List Nat)(W:World):KpS n₀ S W W:=⟨rfl,rfl,rfl,Nat.le_refl _,fun _ _ _=>rfl,fun _ _ _ _ _ h=>h⟩
theorem KpS.t {n₀:Nat}{S:List Nat}{A B C:World}(h:KpS n₀ S A B)(k:KpS n₀ S B C):KpS n₀ S A C:=
 ⟨k.os.trans h.os,k.tape.trans h.tape,k.output.trans h.output,Nat.le_trans h.size k.size,fun i hi hS=>(k.block i hi hS).trans (h.block i hi hS),fun i cs t d hS hc=>k.same i cs t d hS (h.same i cs t d hS hc)⟩
theorem KpS.put {n₀:Nat}{S:List Nat}{w:World}(hn:n₀≤w.heap.size)(W:World)(l:Nat)(o o' :Obj)(hl:w.heap.size≤l)(h:W.heap[l]? =some o)(hc:o.isCells=false)(hw:o.isWalk=false):KpS n₀ S W (W.putObj l o'):=
 have b:=belowK_b hn W l o o' hl h hc hw
 ⟨b.os,b.tape,b.output,b.size,fun k hk _=>b.block k hk,fun k cs t d _ hk=>by
  by_cases e:k=l
  ·subst e
   rw[h]at hk
   cases hk
   cases hc
  ·exact(World.putObj_heap_other e).trans hk⟩
theorem KpS.of {n₀:Nat}{S:List Nat}{W W' :World}(h:Keeps W W' S)(hn:n₀≤W.heap.size):KpS n₀ S W W' :=
 ⟨h.os,h.tape,h.output,h.size,fun k hk hS=>h.block k (Nat.lt_of_lt_of_le hk hn) hS,fun k _ _ _ hS hk=>(h.block k (Array.getElem?_eq_some_iff.1 hk).1 hS).trans hk⟩
theorem KpS.cell {n₀:Nat}{S:List Nat}{W W' :World}(h:KpS n₀ S W W'){p:Addr}(hp:p.block < n₀)(hS:p.block∉S):W'.cell? p=W.cell? p:=World.cell?_of_block (h.block _ hp hS)
/-- Levels, each with whether it is the last one. -/
def tSeq (L:List (List UInt8)):List (List UInt8×Bool):=(List.range L.length).map fun i=>(L.getD i [],i+1==L.length)
def tArgs (x:List UInt8×Bool):Array Value:= #[.string ⟨x.1.toArray⟩,.bool x.2]
theorem tSeq_len (L:List (List UInt8)):(tSeq L).length=L.length:=by simp[tSeq]
theorem tSeq_get {L:List (List UInt8)}{k:Nat}(h:k < L.length):(tSeq L)[k]'(by rw[tSeq_len];exact h)=(L[k],k+1==L.length):=by
 simp[tSeq,List.getD_eq_getElem?_getD,List.getElem?_eq_getElem h]
theorem tSeq_next {L:List (List UInt8)}{k:Nat}(h:k < L.length):(tSeq L).take (k+1)=(tSeq L).take k++ [(L[k],k+1==L.length)]:=by
 rw[List.take_succ_eq_append_getElem (by rw[tSeq_len];exact h),tSeq_get h]
theorem txC_get {L:List (List UInt8)}{k:Nat}(h:k < L.length):(txC L)[k]? =some (.string ⟨L[k].toArray⟩):=by
 unfold txC;rw[zga];have:=flat_get (encTxt) (l:=L) h (j:=0) (by omega);rw[Nat.mul_one,Nat.add_zero]at this;rw[this];rfl
set_option maxRecDepth 100000 in
set_option maxHeartbeats 4000000 in
theorem tLevels1_in (F:Fence)(n:Nat)(hF:F.plain=Fence.wide)(hf:F.fn 36)(hro:F.round=none)(hn:1≤n)(l b b2 n₀:Nat)(L:List (List UInt8))(hL:L.length≤60000)(W:World)(J Jx:List (List UInt8×Bool)→World→Prop)
  (_hn₀:n₀≤W.heap.size) (S:List Nat) (hb:b < n₀∧b∉S) (hb2:b2 < n₀∧b2∉S)
  (hLx:∀x∈L,x.length≤60000) (hY:∀pre x W1,J pre W1→pre.length < L.length+1→x.1.length≤60000→YieldAt F (n - 1) Tryd.prog l (tArgs x) W1 fun e W' =>
   (e= .returned (.bool true)∧J (pre++ [x]) W' ∧KpS n₀ S W1 W')∨(e= .returned (.bool false)∧Jx (pre++ [x]) W'))
  (hc:W.cell? ⟨b,0,none⟩=some (.slice (some ⟨b2,0,none⟩) L.length L.length)) (hr:Row W b2 9 (txC L)) (h0:J [] W):
  CallsIn F n Tryd.prog 36 #[.func (.yield l) #[] #[],.pointer (some ⟨b,0,none⟩)] W fun e W' =>(∃v,e= .returned v)∧
   ((∃ys,ys=tSeq L∧J ys W')∨(∃pre,pre <+:tSeq L∧Jx pre W')):=by
 have hfn:∀f,F.fn f:=fun f=>by
  have:F.plain.fn f:=by rw[hF];trivial
  exact this
 have HF:=zh (And.intro hF hfn);have HY:=zh hY;have HC:=zh (And.intro hc hr);have HL:=zh hL;have cb:W.cell? ⟨b,0,none⟩=some (.slice (some ⟨b2,0,none⟩) L.length L.length):=hc;clear hfn hY hc hr hL;refine callsIn_of_wp Tryd.func36 rfl hf ?_ hro;simp only[Tryd.ntmps36,List.size_toArray,List.length_cons,List.length_nil,Nat.reduceAdd,Nat.reduceSub,Array.replicate_succ,Array.replicate_zero,List.push_toArray,List.append_toArray,List.nil_append,List.cons_append]
 gi_wp2
 clear cb
 gi_loopw [7] (fun i wr=>∃k:Nat,k≤L.length∧i= .int .i64 k∧J ((tSeq L).take k) wr∧KpS n₀ S W wr) (fun i _=>L.length - (intOf i).toNat)
 case atStart=>exact⟨0,by omega,rfl,by rw[ztz];exact h0,KpS.refl _ _ _⟩
 case round=>
  obtain⟨k,hk,rfl,hJs,hnx⟩:=hrel;have hl6:=HL.out;have cb:wr.cell? ⟨b,0,none⟩=some (.slice (some ⟨b2,0,none⟩) L.length L.length):=(hnx.cell (p:=⟨b,0,none⟩) hb.1 hb.2).trans HC.out.1
  by_cases hlt:k < L.length
  ·have cx:wr.cell? ⟨b2,k,none⟩=some (.string ⟨L[k].toArray⟩):=by
    rw[hnx.cell (p:=⟨b2,k,none⟩) hb2.1 hb2.2,HC.out.2.cell,txC_get hlt]
   obtain⟨x,hx⟩:∃x,L[k]=x:=⟨_,rfl⟩;obtain⟨lb,hlb⟩:∃lb:Bool,(k+1==L.length)=lb:=⟨_,rfl⟩;rw[hx]at cx;have hlb' :((k:Int)==(L.length:Int) - 1)=lb:=by
    rw[←hlb,Bool.eq_iff_iff];simp;omega
   have hwl:IntKind.i64.wrap ((L.length:Int) - 1)=(L.length:Int) - 1:=IntWalk.i64_in _ (by omega);have HN:=zh (show(tSeq L).take (k+1)=(tSeq L).take k++ [(x,lb)]by rw[tSeq_next hlt,hx,hlb]);obtain⟨fn,tmps,assign,body,hy,hR⟩:=HY.out _ (x,lb) wr hJs (by rw[List.length_take,tSeq_len];omega) (by rw[←hx];exact hLx _ (List.getElem_mem hlt));have HRR:=zh (And.intro hR hnx);unfold tArgs at hy
   dsimp only at hy
   have hn2:=n - 1;clear hR hnx hJs hx hlb
   gi_wp2_with fail
   refine HRR.out.1.mono ?_;rintro e W3 (⟨rfl,hJ3,hk3⟩ | ⟨rfl,hJx3⟩)
   ·rw[←HN.out]at hJ3
    have HJ3:=zh (And.intro hJ3 (HRR.out.2.t hk3));clear hJ3 hk3
    gi_wp2
    go_roundw
    case rel=>exact⟨k+1,by omega,by go_num,HJ3.out.1,HJ3.out.2⟩
    case measure=>simp[intOf];omega
   ·rw[←HN.out]at hJx3
    have HJ3:=zh hJx3;clear hJx3
    gi_wp2
    refine bodyPost_ret (results_none rfl _ _ _) rfl ?_;exact⟨⟨_,rfl⟩,.inr ⟨_,List.take_prefix _ _,HJ3.out⟩⟩
  ·obtain rfl:k=L.length:=by omega
   have HJ3:=zh (show J (tSeq L) wr by rwa [List.take_of_length_le (by rw[tSeq_len];exact Nat.le_refl _)]at hJs);clear hJs
   gi_wp2_with fail
   go_end0
   exact⟨⟨_,rfl⟩,.inl ⟨_,rfl,HJ3.out⟩⟩
/-- A level of a bounded length. -/
abbrev Lvl:={x:List UInt8×Bool // x.1.length≤60000}
theorem tLevels1_stops (F:Fence)(n:Nat)(hF:F.plain=Fence.wide)(hf:F.fn 36)(hro:F.round=none)(hn:1≤n)(b b2 n₀:Nat)(L:List (List UInt8))(hL:L.length≤60000)(hLx:∀x∈L,x.length≤60000)(w:World)(hn₀:n₀≤w.heap.size)(S:List Nat)(hb:b < n₀∧b∉S)(hb2:b2 < n₀∧b2∉S)
  (hc:w.cell? ⟨b,0,none⟩=some (.slice (some ⟨b2,0,none⟩) L.length L.length)) (hr:Row w b2 9 (txC L)):
  SeqStopsK F n Tryd.prog 36 #[.pointer (some ⟨b,0,none⟩)] (fun x:Lvl=>tArgs x.1) (KpS n₀ S) (fun ys=>ys.map (fun x=>x.1)=tSeq L) (fun pre=>pre.map (fun x=>x.1) <+:tSeq L) (L.length+1) w:=fun l J Jx W hW _ _ hY h0=>by
 refine(tLevels1_in F n hF hf hro hn l b b2 n₀ L hL W (fun ys W=>∃zs:List Lvl,zs.map (fun x=>x.1)=ys∧J zs W) (fun ys W=>∃zs:List Lvl,zs.map (fun x=>x.1)=ys∧Jx zs W) (Nat.le_trans hn₀ hW.size) S hb hb2 hLx ?_ ((hW.cell (p:=⟨b,0,none⟩) (Nat.lt_of_lt_of_le hb.1 hn₀)).trans hc) (hr.below hW (Nat.lt_of_lt_of_le hb2.1 hn₀)) ⟨[],rfl,h0⟩).mono ?_
 ·rintro pre x W1 ⟨zs,rfl,h2⟩ hl hx
  obtain⟨fn,tmps,assign,body,hy,hR⟩:=hY zs ⟨x,hx⟩ W1 h2 (by simpa using hl);refine⟨fn,tmps,assign,body,hy,hR.mono ?_⟩;rintro e W' (⟨h1,h2,h3⟩ | ⟨h1,h2⟩)
  ·exact .inl ⟨h1,⟨zs++ [⟨x,hx⟩],by simp,h2⟩,h3⟩
  ·exact .inr ⟨h1,⟨zs++ [⟨x,hx⟩],by simp,h2⟩⟩
 ·rintro e W' ⟨h1,⟨ys,h2,zs,h3,h4⟩ | ⟨pre,h2,zs,h3,h4⟩⟩
  ·exact⟨h1,.inl ⟨zs,h3.trans h2,h4⟩⟩
  ·exact⟨h1,.inr ⟨zs,by show zs.map (fun x=>x.1) <+:tSeq L;rw[h3];exact h2,h4⟩⟩
theorem tLevelsF_in (F:Fence)(n:Nat)(hf:F.fn 28)(hro:F.round=none)(A:Option Addr)(m c:Nat)(w:World):
  CallsIn F n Tryd.prog 28 #[.slice A m c] w fun e w' =>e= .returned (.func (.func 36) #[] #[.pointer (some ⟨w.heap.size,0,none⟩)])∧w' =w.alloc (.cells #[.slice A m c] 51):=by
 refine callsIn_of_wp Tryd.func28 rfl hf ?_ hro;simp only[Tryd.ntmps28,List.size_toArray,List.length_cons,List.length_nil,Nat.reduceAdd,Nat.reduceSub,Array.replicate_succ,Array.replicate_zero,List.push_toArray,List.append_toArray,List.nil_append,List.cons_append]
 gi_wp2
 go_ret;exact⟨rfl,rfl⟩
end Go.Proofs.YtoadlafdeoklbaaDoor
