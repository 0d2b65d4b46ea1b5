/- A region that draws its order and fills one block that it makes itself: each operation met once. A region that draws its order and whose last operations stand in a row: those ahead of them are met once each, these are walked. -/
import Derived.Test.YtoadlafdeoklbaaDoorPa3
import Derived.Laws.EntriesVeiled
import Derived.StillTail

namespace Go.Proofs.YtoadlafdeoklbaaDoor
open Go.RowKit

/-- All that was there stays, but that a block from B on may turn from O1 to O2. -/
structure KeepsF (B:Nat)(O1 O2:Obj)(w w' :World):Prop where
 os:w'.os=w.os
 tape:w'.tape=w.tape
 output:w'.output=w.output
 size:w.heap.size≤w'.heap.size
 block:∀k,k < w.heap.size→w'.heap[k]? =w.heap[k]?∨(B≤k∧w.heap[k]? =some O1∧w'.heap[k]? =some O2)
section
variable {B:Nat} {O1 O2:Obj} {w w' w'' :World}
theorem KeepsF.of (h:Keeps w w' []):KeepsF B O1 O2 w w' :=⟨h.os,h.tape,h.output,h.size,fun k hk=> .inl (h.block k hk (by simp))⟩
theorem KeepsF.refl (w:World):KeepsF B O1 O2 w w:= .of (Keeps.refl _ _)
theorem KeepsF.trans (h:KeepsF B O1 O2 w w')(k:KeepsF B O1 O2 w' w''):KeepsF B O1 O2 w w'' :=
 ⟨k.os.trans h.os,k.tape.trans h.tape,k.output.trans h.output,Nat.le_trans h.size k.size,fun i hi=>by
  rcases h.block i hi with h1 | ⟨h1,h2,h3⟩ <;> rcases k.block i (Nat.lt_of_lt_of_le hi h.size)with k1 | ⟨k1,k2,k3⟩
  ·exact .inl (k1.trans h1)
  ·exact .inr ⟨k1,h1▸k2,k3⟩
  ·exact .inr ⟨h1,h2,k1.trans h3⟩
  ·exact .inr ⟨h1,h2,k3⟩⟩
theorem KeepsF.keeps (h:KeepsF w.heap.size O1 O2 w w'):Keeps w w' []:=⟨h.os,h.tape,h.output,h.size,fun k hk _=>by
 rcases h.block k hk with h1 | ⟨h1,_,_⟩
 ·exact h1
 ·omega⟩
theorem KeepsF.slot (h:KeepsF B O1 O2 w w'){b:Nat}(hb:w.heap[b]? =some O1∨w.heap[b]? =some O2):w'.heap[b]? =some O1∨w'.heap[b]? =some O2:=by
 have hlt:b < w.heap.size:=by
  rcases hb with hb | hb <;> exact(Array.getElem?_eq_some_iff.1 hb).1
 rcases h.block b hlt with h1 | ⟨_,_,h1⟩
 ·rw[h1];exact hb
 ·exact .inr h1
theorem KeepsF.other (h:KeepsF B O1 O2 w w'){b:Nat}{o:Obj}(hb:w.heap[b]? =some o)(hne:o≠O1):w'.heap[b]? =some o:=by
 rcases h.block b (Array.getElem?_eq_some_iff.1 hb).1 with h1 | ⟨_,h2,_⟩
 ·rw[h1];exact hb
 ·rw[hb]at h2
  injection h2 with h2
  exact absurd h2 hne
theorem KeepsF.fill {b:Nat}(hk:Keeps w w' [b])(hB:B≤b)(h1:w.heap[b]? =some O1∨w.heap[b]? =some O2)(h2:w'.heap[b]? =some O2):KeepsF B O1 O2 w w' :=
 ⟨hk.os,hk.tape,hk.output,hk.size,fun k hlt=>by
  by_cases hkb:k=b
  ·subst hkb
   rcases h1 with h1 | h1
   ·exact .inr ⟨hB,h1,h2⟩
   ·exact .inl (h2.trans h1.symm)
  ·exact .inl (hk.block k hlt (by simpa using hkb))⟩
end
section
variable {P:Program} {B:Nat} {O1 O2:Obj}
theorem loosef_has {W:World}{φ φ' :Value→World→Prop}{f:FuncId}{args:Array Value}(hφ:Hid (∀u w,φ u w→φ' u w))(h:Calls P f args W (fun e w'' =>∃v,e= .returned v∧Keeps W w'' []∧φ v w'')):
  looseUpon P (KeepsF B O1 O2) W φ' (.ok (.enter f args) W):=⟨KeepsF.refl _,h.mono fun _ _ ⟨v,he,hk,hv⟩=>⟨v,he,.of hk,hφ.out _ _ hv⟩⟩
theorem loosef_value {W W' :World}{φ φ' :Value→World→Prop}{v:Value}(hφ:Hid (∀u w,φ u w→φ' u w))(hk:KeepsF B O1 O2 W W')(h:φ v W'):looseUpon P (KeepsF B O1 O2) W φ' (.ok (.value v) W'):=⟨hk,hφ.out _ _ h⟩
theorem wp_region_fills {id:Nat}{Q:Exit→Act→World→Prop}{a:Act}{w:World}{l:List Oper}(O1 O2:Obj)(n:Nat)(hm:P.follows .mixedOrders=true)(hn:a.tmps.size=n)(hB:looseB n l.toArray=true)
  (h:wpLoose P (KeepsF w.heap.size O1 O2) w l.toArray a (fun env=>∀W vals,KeepsF w.heap.size O1 O2 w W→knowsAll (KeepsF w.heap.size O1 O2) w vals W env→Q .normal (fill vals env a) W) l []):(Code.region id l.toArray true).wp P Q a w:=
 wp_region_loose (KeepsF w.heap.size O1 O2) w n hm hn hB (fun _=>KeepsF.refl _) (fun _ _ _ h k=>h.trans k) (.of (Keeps.drew _)) h
end

section
variable {P:Program} {R:World→World→Prop} {w0:World} {ops:Array Oper} {vals:Tmp→Value}

theorem loose_tail_sound {n n0:Nat}{lt:List Oper}{a0:Act}{c:Nat→Option Value}{rd:Nat→List Tmp}{φ:Nat→List Value→Value→World→Prop}{E:Nat→List Ent}{Q:Exit→Act→World→Prop}(htr:∀x y z,R x y→R y z→R x z)(hrf:∀x,R x x)
  (hB:looseB n ops=true) (hsk:Region.sinkB .any ops n0=true) (hch:Region.chainB .any ops n0=true) (hn0:n0 < ops.size) (hlt:∀j,lt[j]? =ops[n0+j]?)
  (hsq:Region.seqB .any ops lt.length n0 ((Array.range ops.size).map fun k=>decide (k < n0))=true) (hul:unlisted ((Array.range ops.size).map fun k=>decide (k < n0))=lt.length) (hn:a0.tmps.size=n) (e0:E 0= [])
  (hs:∀k o,ops[k]? =some o→E (k+1)=addEnt o.dst (c k) (rd k) (φ k) (E k)∧(∀t∈rd k,waitsB ops o t=true)∧(k < n0→∀W vals,R w0 W→knows R w0 vals (o.looksAt ops) W (E k)→opOk P R ops (fill vals (E k) a0) o (entOf (c k) (φ k ((rd k).map vals))) W))
  (hq:∀W vals,R w0 W→knowsAll R w0 vals W (E n0)→wpList P ops Q lt (fill vals (E n0) a0) W):
  ∀(fuel:Nat) (listed:Array Bool) (a:Act) (W:World),unlisted listed=fuel→(∀t,n0≤t→t < ops.size→listed.getD t true=false)→LooseInv R w0 ops a0 c rd φ listed a W→wpAny P .any ops Q fuel listed a W:=by
 obtain⟨b0,b1,b2,b3,b4⟩:=looseB_spec hB;have hs1:=fun k o ho=>(hs k o ho).1
 have hrd:=fun k o ho=>(hs k o ho).2.1
 have fin:∀(listed:Array Bool) (a:Act) (W:World),LooseInv R w0 ops a0 c rd φ listed a W→(∀t,n0≤t→t < ops.size→listed.getD t true=false)→(∀k,k < n0→listed.getD k false=true)→wpAny P .any ops Q (unlisted listed) listed a W:=by
  intro listed a W hI htl hall;have hle:listed=(Array.range ops.size).map fun k=>decide (k < n0):=by
   refine Array.ext (by simp[hI.lsize]) fun k h1 h2=> ?_
   have hk:k < ops.size:=by rw[←hI.lsize];exact h1
   simp only[Array.getElem_map,Array.getElem_range]
   by_cases hkn:k < n0
   ·have:=hall k hkn
    simp[h1]at this;rw[this];simp[hkn]
   ·have:=htl k (by omega) hk
    simp[h1]at this;rw[this];simp[hkn]
  have hq:=hq W (fun t=>a.tmps.getD t undef) hI.world (knowsAll_table e0 hs1 n0 (by omega) (fun j o t hj ho hd hc=>by
   obtain⟨v,hv,W0,h1,h2,h3⟩:=hI.on j o t ho hd (hall j hj);refine⟨W0,h1,h2, ?_⟩;have:a.tmps.getD t undef=v:=by simp[hv]
   show φ j _ (a.tmps.getD t undef) W0;rw[this]
   simpa [entOf,hc]using h3) (fun j o hj ho hd hc=>by
   obtain⟨u,W0,h1,h2,h3⟩:=hI.onn j o ho hd (hall j hj);exact⟨u,W0,h1,h2,by simpa [entOf,hc]using h3⟩))
  have hea:fill (fun t=>a.tmps.getD t undef) (E n0) a0=a:=by
   obtain⟨s1,s2⟩:=fill_size (vals:=fun t=>a.tmps.getD t undef) (E n0) a0;have ht:(fill (fun t=>a.tmps.getD t undef) (E n0) a0).tmps=a.tmps:=by
    refine Array.ext_getElem? fun t=> ?_
    by_cases hd:∃(k:Nat) (o:Oper),k < n0∧ops[k]? =some o∧o.dst=some t
    ·obtain⟨k,o,hk,ho,hd⟩:=hd
     rw[fill_near a0 hs1 b2 t (by rw[hn];exact b1 k o t ho hd) k o ho hd n0 (by omega) hk];obtain⟨v,hv,W0,_,_,h3⟩:=hI.on k o t ho hd (hall k hk);rw[hv]
     cases hc:c k with
     | none=>simp[hv]
     | some u=>simp[entOf,hc]at h3;simp[h3]
    ·rw[fill_far a0 e0 hs1 t n0 (by omega) (fun j o hj ho hdd=>hd ⟨j,o,hj,ho,hdd⟩)]
     refine(hI.off t (fun k o ho hdd=> ?_)).symm;have hk:n0≤k:=by
      rcases Nat.lt_or_ge k n0 with h | h
      ·exact absurd ⟨k,o,h,ho,hdd⟩ hd
      ·exact h
     exact getD_both (htl k hk (Array.getElem?_eq_some_iff.1 ho).1)
   have hd' :(fill (fun t=>a.tmps.getD t undef) (E n0) a0).defers=a.defers:=by rw[s2,hI.defers]
   generalize fill (fun t=>a.tmps.getD t undef) (E n0) a0=b at*
   obtain⟨bt,bd⟩:=b;obtain⟨at_,ad⟩:=a;simp only at ht hd';rw[ht,hd']
  rw[hea]at hq;rw[hle,hul];exact wpAny_of_seq lt n0 _ a W hlt hsq hq
 intro fuel
 induction fuel with
 | zero=>
  intro listed a W hu htl hI;rw[←hu];refine fin listed a W hI htl fun k hk=> ?_
  cases hl:listed.getD k false with
  | true=>rfl
  | false=>
   have hl' :listed.getD k true=false:=by
    have:k < listed.size:=by rw[hI.lsize];omega
    simpa [this]using hl
   have:=(unlisted_set hl').1;omega
 | succ fuel ih=>
  intro listed a W hu htl hI
  by_cases hpre:∀k,k < n0→listed.getD k false=true
  ·rw[←hu]
   exact fin listed a W hI htl hpre
  have hex:∃k,k < n0∧listed.getD k false=false:=by
   simp only[Classical.not_forall]at hpre;obtain⟨k,hk,h⟩:=hpre;exact⟨k,hk,by simpa using h⟩
  have inv:HeadInv .any ops n0 listed:=⟨hI.lsize,hI.dep,htl⟩;refine⟨fun hr=> ?_,fun i hi=> ?_⟩
  ·exfalso
   have hall:∀m k,k < m→k < n0→listed.getD k false=true:=by
    intro m
    induction m with
    | zero=>intro k h;omega
    | succ m ih=>
     intro k hk hks
     cases hl:listed.getD k false with
     | true=>rfl
     | false=>
      exfalso
      have ho:ops[k]? =some (ops[k]'(by omega)):=Array.getElem?_eq_getElem (by omega);have hl' :listed.getD k true=false:=by
       have:k < listed.size:=by rw[hI.lsize];omega
       simpa [this]using hl
      have:k∈Region.ready .any ops listed:=mem_ready.2 ⟨hl',_,ho,fun e he hb=>by
       have hlt:=b3 k _ ho e he hb;exact ih e.on (by omega) (by omega)⟩
      rw[hr]at this
      cases this
   obtain⟨k,hk,h⟩:=hex;rw[hall (k+1) k (by omega) hk]at h
   cases h
  obtain⟨hl,o,ho,hall⟩:=mem_ready.1 hi;have hin:i < n0:=by
   rcases Nat.lt_or_ge i n0 with h | h
   ·exact h
   ·exfalso
    obtain⟨k,hk,hkl⟩:=hex;exact tail_waits hsk hch hn0 inv (n0 - k) k rfl hk (getD_in (by rw[hI.lsize];omega) hkl) i h hi
  have hus:=(unlisted_set hl).1;have hi' :i < ops.size:=(Array.getElem?_eq_some_iff.1 ho).1;have hop:=(hs i o ho).2.2 hin W (fun t=>a.tmps.getD t undef) hI.world (knows_table e0 hs1 (o.looksAt ops) i (by omega) (fun j o' t hj ho' hd ht hc=>by
   obtain⟨_,e,he,hb,hon⟩:=(b4 i o t j o' ho ht ho' hd).resolve_right (fun h=>absurd h.1 (by omega));obtain⟨v,hv,W0,h1,h2,h3⟩:=hI.on j o' t ho' hd (hon▸hall e he hb);refine⟨W0,h1,h2, ?_⟩;have:a.tmps.getD t undef=v:=by simp[hv]
   show φ j _ (a.tmps.getD t undef) W0;rw[this]
   simpa [entOf,hc]using h3))
  have hop:=opOk_congr (a' :=a) (Region.noSelect_spec b0 i o · · ho) (fun t ht=>by
   by_cases hd:∃(k:Nat) (o' :Oper),ops[k]? =some o' ∧o'.dst=some t
   ·obtain⟨k,o',ho',hd⟩:=hd
    rcases b4 i o t k o' ho ht ho' hd with⟨hk,e,he,hb,hon⟩ | ⟨hk,e,he,hb,hon⟩
    case inr=>
     rw[fill_far a0 e0 hs1 t i (by omega) (fun j o2 hj ho2 hdd=>by have:=b2 j k o2 o' t ho2 ho' hdd hd;omega)];refine(hI.off t (fun k2 o2 ho2 hdd=> ?_)).symm;obtain rfl:=b2 k2 k o2 o' t ho2 ho' hdd hd
     cases hlk:listed.getD k2 false with
     | false=>rfl
     | true=>
      have:=hI.dep k2 o' ho' hlk e he hb;rw[hon]at this;have hil:listed.getD i false=false:=by
       have hi:=(unlisted_set hl).2
       simpa [hi]using hl
      rw[hil]at this
      cases this
    rw[fill_near a0 hs1 b2 t (by rw[hn];exact b1 k o' t ho' hd) k o' ho' hd i (by omega) hk];obtain⟨v,hv,W0,_,_,h3⟩:=hI.on k o' t ho' hd (hon▸hall e he hb);rw[hv]
    cases hc:c k with
    | none=>simp[hv]
    | some u=>simp[entOf,hc]at h3;simp[h3]
   ·rw[fill_far a0 e0 hs1 t i (by omega) (fun j o' _ ho' hdd=>hd ⟨j,o',ho',hdd⟩)]
    exact(hI.off t (fun k o' ho' hdd=>absurd ⟨k,o',ho',hdd⟩ hd)).symm) hop
  have next:∀v W',R W W' →entOf (c i) (φ i ((rd i).map fun t=>a.tmps.getD t undef)) v W' →wpAny P .any ops Q fuel (listed.setIfInBounds i true) (a.put o.dst v) W' :=fun v W' hR hv=>
   ih _ _ _ (by omega) (fun t ht ht' =>by rw[getD_set_ne true (by omega)];exact htl t ht ht') (looseInv_next htr hrf hB hrd hn hI ho hl hall v hR hv)
  unfold wpOp;simp only[ho];replace hop:=hop.out
  split
  ·rename_i hw
   simp only[hw,if_true]at hop
   left
   unfold Oper.wp
   generalize (execOp a.eval o).run P W=r at*
   cases r with
   | ok x w' =>
    cases x <;> simp only[looseUpon]at hop <;> simp only[Oper.upon]
    ·exact next _ _ hop.1 hop.2
    ·exact next _ _ hop.1 hop.2
    ·exact hop.2.mono fun e w'' ⟨v,he,hR,hv⟩=>by subst he;exact next _ _ (htr _ _ _ hop.1 hR) hv
    ·exact hop.2.mono fun v w'' ⟨hR,hv⟩=>next _ _ (htr _ _ _ hop.1 hR) hv
   | halt x w' =>simp only[looseUpon]at hop
  ·rename_i hw
   simp only[hw]at hop;exact next _ _ (hrf _) hop

/-- A table for the operations ahead, carried on behind them. -/
theorem wpLoose_table_more {a0:Act}{Q:List Ent→Prop}(n0:Nat)(l:List Oper)(hn0:n0≤l.length)(h:wpLoose P R w0 ops a0 Q (l.take n0) []):
  ∃(E:Nat→List Ent) (c:Nat→Option Value) (rd:Nat→List Tmp) (φ:Nat→List Value→Value→World→Prop),E 0= []∧
   (∀k o,l[k]? =some o→E (k+1)=addEnt o.dst (c k) (rd k) (φ k) (E k)∧(∀t∈rd k,waitsB ops o t=true)∧(k < n0→∀W vals,R w0 W→knows R w0 vals (o.looksAt ops) W (E k)→opOk P R ops (fill vals (E k) a0) o (entOf (c k) (φ k ((rd k).map vals))) W))∧Q (E n0):=by
 obtain⟨E,c,rd,φ,e0,hs,hq⟩:=wpLoose_table _ _ h;have hlen:(l.take n0).length=n0:=by rw[List.length_take];omega
 rw[hlen]at hq
 let more:Nat→List Ent:=fun k=>Nat.rec (motive:=fun _=>List Ent) (E n0) (fun j e=>addEnt ((l[n0+j]?).bind (·.dst)) none [] (fun _ _ _=>True) e) k
 refine⟨fun k=>if k≤n0 then E k else more (k - n0),fun k=>if k < n0 then c k else none,fun k=>if k < n0 then rd k else [],fun k=>if k < n0 then φ k else fun _ _ _=>True,by simp[e0], ?_,by simp[hq]⟩;intro k o ho
 by_cases hk:k < n0
 ·have ho' :(l.take n0)[k]? =some o:=by rw[List.getElem?_take_of_lt hk];exact ho
  obtain⟨h1,h2,h3⟩:=hs k o ho';simp only[hk,if_true,show k+1≤n0 from hk,show k≤n0 from Nat.le_of_lt hk];exact⟨h1,h2,fun _=>h3⟩
 ·simp only[hk,if_false,show¬k+1≤n0 by omega]
  refine⟨?_,(fun _ h=>nomatch h),fun h=>h.elim⟩;have hm:more (k+1 - n0)=addEnt o.dst none [] (fun _ _ _=>True) (more (k - n0)):=by
   rw[show k+1 - n0=(k - n0)+1 by omega];show addEnt ((l[n0+(k - n0)]?).bind (·.dst)) none [] (fun _ _ _=>True) (more (k - n0))=_;rw[show n0+(k - n0)=k by omega,ho];rfl
  rw[hm]
  by_cases hk2:k≤n0
  ·have:k=n0:=by omega
   subst this;simp only[Nat.le_refl,if_true,Nat.sub_self];rfl
  ·simp only[hk2,if_false]

theorem wp_region_tail {id:Nat}{Q:Exit→Act→World→Prop}{a:Act}{w:World}{l:List Oper}(R:World→World→Prop)(n n0:Nat)(hm:P.follows .mixedOrders=true)(hn:a.tmps.size=n)
  (hB:(looseB n l.toArray && Region.sinkB .any l.toArray n0 && Region.chainB .any l.toArray n0 && decide (n0 < l.length) && Region.seqB .any l.toArray (l.drop n0).length n0 ((Array.range l.toArray.size).map fun k=>decide (k < n0)) && decide (unlisted ((Array.range l.toArray.size).map fun k=>decide (k < n0))=(l.drop n0).length))=true)
  (hrf:∀x,R x x) (htr:∀x y z,R x y→R y z→R x z) (h0:R w w.drew)
  (h:wpLoose P R w l.toArray a (fun env=>∀W vals,R w W→knowsAll R w vals W env→wpList P l.toArray Q (l.drop n0) (fill vals env a) W) (l.take n0) []):(Code.region id l.toArray true).wp P Q a w:=by
 simp only[Bool.and_eq_true,decide_eq_true_eq]at hB;obtain⟨⟨⟨⟨⟨h1,h2⟩,h3⟩,h4⟩,h5⟩,h6⟩:=hB;obtain⟨E,c,rd,φ,e0,hs,hq⟩:=wpLoose_table_more n0 l (by omega) h;refine wp_region_any hm (loose_tail_sound (w0:=w) (n0:=n0) (lt:=l.drop n0) htr hrf h1 h2 h3 (by simpa using h4) (fun j=>by simp) h5 h6 hn e0 (fun k o ho=>hs k o (by simpa using ho)) hq _ _ _ _ ?_ (fun t ht ht' => ?_) ⟨h0,rfl,rfl,by simp,fun _ _=>rfl,fun k o d ho _ hk=> ?_,fun k o ho _ hk=> ?_,fun k o ho hk=> ?_⟩)
 ·unfold unlisted
  simp
 ·simp only[List.size_toArray]at ht'
  simp[ht']
 all_goals
  exfalso
  by_cases h' :k < l.length <;> simp[h']at hk
end
end Go.Proofs.YtoadlafdeoklbaaDoor
