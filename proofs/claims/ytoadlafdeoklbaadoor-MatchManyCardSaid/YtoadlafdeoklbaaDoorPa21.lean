/- Package topic: Filter. Texts as values. -/
import Derived.Test.YtoadlafdeoklbaaDoorPa20

namespace Go.Proofs.YtoadlafdeoklbaaDoor
open Go.RowKit Go.Shelf

attribute [local go_sem] Oper.semAt_some

theorem tSeq_cons (x y:List UInt8)(l:List (List UInt8)):tSeq (x::y::l)=(x,false)::tSeq (y::l):=by
 unfold tSeq;rw[List.length_cons,List.range_succ_eq_map,List.map_cons,List.map_map]
 congr 1
 refine List.map_congr_left fun i hi=> ?_
 simp only[Function.comp];rw[show Nat.succ i=i+1 from rfl,List.getD_cons_succ]
 congr 1
 rw[Bool.eq_iff_iff];simp
theorem tOks_seq (L:List (List UInt8)):tOks L=(tSeq L).all fun x=>tOk x.1 x.2:=by
 induction L with
 | nil=>rfl
 | cons x L ih=>
  cases L with
  | nil=>simp[tOks,tSeq]
  | cons y l=>rw[tSeq_cons,List.all_cons,←ih];rfl
/-- What a function of one truth answers. -/
theorem filter_door {n N D:Nat}{w W9:World}{t:Array Value}{B:Bool}(h2:t.getD 2 undef= .pointer (some ⟨N,0,none⟩))(q:Row W9 N 4 #[.bool B])(hD:N < D)(hwD:w.heap.size≤D)(hK:W9.heap[D]? =some (.deferred (some [])))(hk:Keeps w W9 []):
  bodyPostM Fence.wide n Tryd.prog Tryd.f14 (TruePost w B) Exit.ret {tmps:=t,defers:= [{target:= .collected D,args:= #[]}]} W9:=by
 refine⟨by simp,.inl ⟨_,_,rfl,run_takeDeferred hK, ?_⟩⟩;have kp:Keeps W9 (W9.putObj D (.deferred none)) [D]:=Keeps.of_grown (grownBy_putObj' W9 D _);have z1:=q.keep kp (by simp;omega);have c0:=z1.cell 0;rw[Array.getD_eq_getD_getElem?]at h2;simp at c0;refine⟨.bool B, ?_,rfl,hk.trans kp (fun y hy hlt=>by simp at hy;omega)⟩;simp[results,Tryd.results14,go_sem,h2,c0]
theorem KeepsFrom.of_keepsS {W W' :World}{S:List Nat}(h:Keeps W W' S)(B:Nat)(hS:∀x∈S,x < B):KeepsFrom B W W' :=⟨h.size,fun k o hk h0 _=>(h.block k (Array.getElem?_eq_some_iff.1 h0).1 (fun hm=>by have:=hS k hm;omega)).trans h0⟩
set_option maxRecDepth 100000 in
set_option maxHeartbeats 4000000 in
theorem tFilter_in (n:Nat)(hn:4≤n)(w:World)(s:List UInt8)(hs:s.length≤50000)(hm:MaxL w):CallsIn Fence.wide n Tryd.prog 14 #[.string ⟨s.toArray⟩] w (TruePost w (tFilter s)):=by
 have h1:1≤n:=by omega
 have hro:Fence.wide.round=none:=rfl;obtain⟨S,hS⟩:∃S:ByteArray,(⟨s.toArray⟩:ByteArray)=S:=⟨_,rfl⟩;have HS:=zh hS;have HM:=zh hm;rw[hS];clear hS hm;refine callsIn_of_wp_marks Tryd.func14 rfl trivial ?_ hro;simp only[Tryd.ntmps14,List.size_toArray,List.length_cons,List.length_nil,Nat.reduceAdd,Nat.reduceSub,Array.replicate_succ,Array.replicate_zero,List.push_toArray,List.append_toArray,List.nil_append,List.cons_append]
 gi_wp2_with fail
 obtain⟨W0,hW0⟩:∃W0,w.alloc (.cells #[.bool false] 4)=W0:=⟨_,rfl⟩;have q0:Row W0 w.heap.size 4 #[.bool false]:=by rw[←hW0];exact Row.new _ _ _
 have k0:Keeps w W0 []:=by rw[←hW0];exact Keeps.alloc _ _
 have s0:W0.heap.size=w.heap.size+1:=by rw[←hW0];simp
 rw[hW0];rw[←HS.out];refine⟨trivial,(callsIn_of rfl (tLevels_any W0 s (by omega) (HM.out.keeps k0))).mono ?_⟩;rintro e w1 ⟨rfl,rfl⟩;rw[HS.out];obtain⟨L,hL⟩:∃L,tLev s=L:=⟨_,rfl⟩;have hLl:L.length≤60000:=by rw[←hL];have:=tLev_len s;omega
 have hLx:∀x∈L,x.length≤60000:=fun x hx=>by rw[←hL]at hx;have:=tLev_size hx;omega
 rw[hL];obtain⟨W1,hW1⟩:∃W1,W0.alloc (.cells (txC L) 9)=W1:=⟨_,rfl⟩;have r1:Row W1 W0.heap.size 9 (txC L):=by rw[←hW1];exact Row.new _ _ _
 have k1:Keeps W0 W1 []:=by rw[←hW1];exact Keeps.alloc _ _
 have s1:W1.heap.size=W0.heap.size+1:=by rw[←hW1];simp
 rw[hW1];have HH:=zh (And.intro q0 (And.intro k0 (And.intro s0 (And.intro r1 (And.intro k1 s1)))));clear hW0 hW1 q0 k0 s0 r1 k1 s1
 gi_wp2_with fail
 refine⟨trivial,(tLevelsF_in _ _ trivial rfl _ _ _ W1).mono ?_⟩;rintro e w2 ⟨rfl,rfl⟩;obtain⟨W2,hW2⟩:∃W2,W1.alloc (.cells #[.slice (some ⟨W0.heap.size,0,none⟩) L.length L.length] 51)=W2:=⟨_,rfl⟩;have r2:Row W2 W1.heap.size 51 #[.slice (some ⟨W0.heap.size,0,none⟩) L.length L.length]:=by rw[←hW2];exact Row.new _ _ _
 have k2:Keeps W1 W2 []:=by rw[←hW2];exact Keeps.alloc _ _
 have s2:W2.heap.size=w.heap.size+3:=by rw[←hW2];simp;have:=HH.out;omega
 rw[hW2];have HQ:=zh (show Row W2 w.heap.size 4 #[.bool false]∧Row W2 W0.heap.size 9 (txC L)∧Keeps w W2 []∧W0.heap.size=w.heap.size+1∧W1.heap.size=w.heap.size+2∧W2.heap.size=w.heap.size+3 from
  ⟨(HH.out.1.keeps HH.out.2.2.2.2.1).keeps k2,HH.out.2.2.2.1.keeps k2,(HH.out.2.1.then_ HH.out.2.2.2.2.1).then_ k2,HH.out.2.2.1,by have:=HH.out;omega,s2⟩)
 have c2:=r2.cell 0;simp only[zga,zgz]at c2;have HL:=zh hL;clear hW2 r2 k2 s2 HH hL
 gi_wp2_with fail
 refine wpIn_rangeFunc_ownG hro h1 (gf:=36) (lb:= #[.pointer (some ⟨W1.heap.size,0,none⟩)]) rfl trivial (enters_of Tryd.func36 (by kernel_rfl) rfl)
  (tLevels1_stops Fence.wide (n - 1) rfl trivial hro (by omega) W1.heap.size W0.heap.size W2.heap.size L hLl hLx W2 (Nat.le_refl _) [] ⟨by have:=HQ.out.2.2.2;omega,by simp⟩ ⟨by have:=HQ.out.2.2.2;omega,by simp⟩ c2 HQ.out.2.1) KpS.t (KpS.put (Nat.le_refl _)) (Below.refl _ _) (fun _=>rfl)
  (fun pre W=>(∀x∈pre,tOk x.1.1 x.1.2=true)∧Below W2.heap.size W2 W)
  (fun c pre W=>c= .ret∧(∃x∈pre,tOk x.1.1 x.1.2=false)∧Row W w.heap.size 4 #[.bool false]∧Keeps W2 W [w.heap.size])
  (OwnFrom.and (ownFrom_pure _ (fun pre:List Lvl=>∀x∈pre,tOk x.1.1 x.1.2=true)) (ownFrom_below (Nat.le_refl _) (Nat.le_refl _)))
  (fun c pre A B row hs hg hr=>by
   obtain⟨h1,h2,h4,h5⟩:=hs;exact⟨h1,h2,rowOwn h4 hg (fun r e he=>by have:=(hr r e).1;have:=HQ.out.2.2.2;omega),h5.trans (Keeps.of_grown hg) (fun y hy hlt=>by have:=(hr y (by simpa using hy)).1;have:=HQ.out.2.2.2;omega)⟩)
  ⟨fun x hx=>(by cases hx),Below.refl _ _⟩
  (fun x=>{tmps:= #[.string S,undef,.pointer (some ⟨w.heap.size,0,none⟩),.string ⟨x.1.1.toArray⟩,.bool x.1.2,undef,.string S,.slice (some ⟨W0.heap.size,0,none⟩) L.length L.length,.func (.func 36) #[] #[.pointer (some ⟨W1.heap.size,0,none⟩)],.string ⟨x.1.1.toArray⟩,.bool x.1.2,undef,undef,undef,undef,undef,undef,undef,undef,undef,undef,undef,undef,undef,undef,undef,undef,undef],defers:= []}) ?assign ?body ?done ?stop
 case assign=>
  intro l x W K hK;unfold tArgs
  gi_wp2
  exact hK
 case body=>
  rintro l pre ⟨⟨x,lb⟩,hxl⟩ W ⟨hp,hB⟩ hlt;replace hxl:x.length≤60000:=hxl;have hkW:Keeps W2 W []:=Keeps.of_below hB;have HP:=zh (And.intro hp (And.intro hB (And.intro hkW (HQ.out.1.keeps hkW))));clear hp hB hkW
  dsimp only
  obtain⟨X,hX⟩:∃X:ByteArray,(⟨x.toArray⟩:ByteArray)=X:=⟨_,rfl⟩;rw[hX];have eX:X.toList=x:=by rw[←hX,Lib.toList_data]
  obtain⟨b1,h1⟩:∃b,(x== [43])=b:=⟨_,rfl⟩;obtain⟨b2,h2⟩:∃b,(x== [35])=b:=⟨_,rfl⟩;have HOK:=zh (show tOk x lb=(b1 || (b2 && lb) || !tSign x)by unfold tOk;rw[h1,h2]);have e1:(X.toList== [43])=b1:=by rw[eX];exact h1
  have e2:(X.toList== [35])=b2:=by rw[eX];exact h2
  have HXX:=zh hX;clear h1 h2 eX hX
  cases b1 with
  | true=>
   gi_wp2_with fail
   refine⟨trivial, ?_⟩
   gi_wp2_with fail
   exact⟨KeepsFrom.refl _ _,KpS.refl _ _ _,fun y hy=>by
    rcases List.mem_append.1 hy with hy | hy
    ·exact HP.out.1 y hy
    ·obtain rfl:=List.mem_singleton.1 hy
     exact(by rw[HOK.out];rfl),HP.out.2.1⟩
  | false=>
   cases hbl:(b2 && lb)with
   | true=>
    have hb2:b2=true:=by cases b2 <;> simp at hbl ⊢
    have hlb:lb=true:=by cases lb <;> simp at hbl ⊢
    subst hb2 hlb;clear hbl
    gi_wp2_with fail
    refine⟨trivial, ?_⟩
    gi_wp2_with fail
    exact⟨KeepsFrom.refl _ _,KpS.refl _ _ _,fun y hy=>by
     rcases List.mem_append.1 hy with hy | hy
     ·exact HP.out.1 y hy
     ·obtain rfl:=List.mem_singleton.1 hy
      exact(by rw[HOK.out];rfl),HP.out.2.1⟩
   | false=>
    rw[hbl]at HOK
    cases b2 with
    | false=>
     clear hbl
     gi_wp2_with fail
     rw[←HXX.out];refine⟨trivial,(fun h=>by cases h),(callsIn_of (F:=Fence.wide.inRound l) rfl (cntAny_any W x hxl)).mono ?_⟩;rintro e w5 ⟨rfl,hk5⟩;rw[HXX.out];have HK5:=zh hk5;have g0:=HP.out.2.2.2.keeps hk5;have e0:=g0.cell 0;have f0:=g0.frozen 0;simp only[zga,zgz]at e0;have HG:=zh g0;clear hk5 g0
     cases hsg:tSign x with
     | false=>
      have HSG:=zh hsg;clear hsg
      gi_wp2_with fail
      have hbb:=HK5.out.below (B:=W2.heap.size) HP.out.2.1.size (by simp);exact⟨KeepsFrom.of_keepsS HK5.out _ (by simp),KpS.of HK5.out HP.out.2.1.size,fun y hy=>by
       rcases List.mem_append.1 hy with hy | hy
       ·exact HP.out.1 y hy
       ·obtain rfl:=List.mem_singleton.1 hy
        exact(by rw[HOK.out,HSG.out];simp),HP.out.2.1.trans hbb⟩
     | true=>
      have HSG:=zh hsg;clear hsg
      gi_wp2_with fail
      have kk:Keeps w5 (w5.setCell ⟨w.heap.size,0,none⟩ (.bool false)) [w.heap.size]:=Keeps.setCell _ _ _;have k6:=(HK5.out.weaken (T:= [w.heap.size]) (by simp)).trans kk (fun y hy _=>hy);refine⟨⟨k6.size,fun k o hk0 hk _=>(k6.block k (Array.getElem?_eq_some_iff.1 hk).1 (by have:=HQ.out.2.2.2;simp;omega)).trans hk⟩,rfl,⟨⟨(x,lb),hxl⟩,by simp,by show tOk x lb=false;rw[HOK.out,HSG.out];simp⟩,HG.out.store 0 _,(HP.out.2.2.1.weaken (T:= [w.heap.size]) (by simp)).trans k6 (fun y hy _=>hy)⟩
    | true=>
     have hlb:lb=false:=by cases lb <;> simp at hbl ⊢
     subst hlb;clear hbl
     gi_wp2_with fail
     rw[←HXX.out];refine⟨trivial,(fun h=>by cases h),(callsIn_of (F:=Fence.wide.inRound l) rfl (cntAny_any W x hxl)).mono ?_⟩;rintro e w5 ⟨rfl,hk5⟩;rw[HXX.out];have HK5:=zh hk5;have g0:=HP.out.2.2.2.keeps hk5;have e0:=g0.cell 0;have f0:=g0.frozen 0;simp only[zga,zgz]at e0;have HG:=zh g0;clear hk5 g0
     cases hsg:tSign x with
     | false=>
      have HSG:=zh hsg;clear hsg
      gi_wp2_with fail
      have hbb:=HK5.out.below (B:=W2.heap.size) HP.out.2.1.size (by simp);exact⟨KeepsFrom.of_keepsS HK5.out _ (by simp),KpS.of HK5.out HP.out.2.1.size,fun y hy=>by
       rcases List.mem_append.1 hy with hy | hy
       ·exact HP.out.1 y hy
       ·obtain rfl:=List.mem_singleton.1 hy
        exact(by rw[HOK.out,HSG.out];simp),HP.out.2.1.trans hbb⟩
     | true=>
      have HSG:=zh hsg;clear hsg
      gi_wp2_with fail
      have kk:Keeps w5 (w5.setCell ⟨w.heap.size,0,none⟩ (.bool false)) [w.heap.size]:=Keeps.setCell _ _ _;have k6:=(HK5.out.weaken (T:= [w.heap.size]) (by simp)).trans kk (fun y hy _=>hy);refine⟨⟨k6.size,fun k o hk0 hk _=>(k6.block k (Array.getElem?_eq_some_iff.1 hk).1 (by have:=HQ.out.2.2.2;simp;omega)).trans hk⟩,rfl,⟨⟨(x,false),hxl⟩,by simp,by show tOk x false=false;rw[HOK.out,HSG.out];simp⟩,HG.out.store 0 _,(HP.out.2.2.1.weaken (T:= [w.heap.size]) (by simp)).trans k6 (fun y hy _=>hy)⟩
 case done=>
  rintro D ys WA hD hys ⟨hp,hB⟩ hK;have hT:=zh (show tOks (tLev s)=true by rw[HL.out,tOks_seq,←hys,List.all_eq_true];intro y hy;obtain⟨z,hz,rfl⟩:=List.mem_map.1 hy;exact hp z hz);have hkW:Keeps W2 WA []:=Keeps.of_below hB;have HP:=zh (And.intro hkW (And.intro hK hD));clear hp hB hK hkW hD
  gi_wp2_with fail
  rw[←HS.out];refine⟨trivial,(callsIn_of rfl (tSaid_any WA s (by omega))).mono ?_⟩;rintro e w5 ⟨rfl,hk5⟩;rw[HS.out];have g0:=(HQ.out.1.keeps HP.out.1).keeps hk5;have e0:=g0.cell 0;have f0:=g0.frozen 0;simp only[zga,zgz]at e0;have H5:=zh (And.intro g0 hk5);clear g0 hk5
  gi_wp2_with fail
  have kk:Keeps w5 (w5.setCell ⟨w.heap.size,0,none⟩ (.bool (tSaid s))) [w.heap.size]:=Keeps.setCell _ _ _;have hsz:=HQ.out.2.2.2;have hD:=HP.out.2.2;have hTF:tFilter s=tSaid s:=by unfold tFilter;rw[hT.out,Bool.and_true]
  rw[hTF];refine filter_door rfl (H5.out.1.store 0 _) (by omega) (by omega) ?_ ((((HQ.out.2.2.1.then_ HP.out.1).then_ H5.out.2).weaken (T:= [w.heap.size]) (by simp)).trans kk (fun y hy _=>hy) |>.weaken (fun y hy hlt=>by simp at hy;omega));have hK5:=(H5.out.2.block D (Array.getElem?_eq_some_iff.1 HP.out.2.1).1 (by simp)).trans HP.out.2.1;exact(kk.block D (Array.getElem?_eq_some_iff.1 hK5).1 (by simp;omega)).trans hK5
 case stop=>
  rintro D c pre WA hD hst ⟨rfl,⟨x,hx,hxf⟩,hr,hk⟩ hK;have hTF:tFilter s=false:=by
   unfold tFilter;have:tOks (tLev s)=false:=by
    rw[HL.out,tOks_seq,List.all_eq_false];exact⟨x.1,hst.subset (List.mem_map.2 ⟨x,hx,rfl⟩),by rw[hxf];exact Bool.false_ne_true⟩
   rw[this,Bool.and_false]
  rw[hTF]
  gi_wp2_with fail
  exact filter_door rfl hr (by have:=HQ.out.2.2.2;omega) (by have:=HQ.out.2.2.2;omega) hK (HQ.out.2.2.1.trans hk (fun y hy hlt=>by simp at hy;omega))

/-- Texts as values. -/
abbrev txL (l:List (List UInt8)):List Value:=l.map fun x=> .string ⟨x.toArray⟩
def lenOf (v:Value):Nat:=match v with
 | .slice _ n _=>n
 | _=>0
theorem txC_list (l:List (List UInt8)):(txC l).toList=txL l:=by
 show(l.flatMap _)=_
 induction l with
 | nil=>rfl
 | cons a l ih=>rw[List.flatMap_cons,ih];rfl
theorem txL_lies {w:World}{b:Nat}{l:List (List UInt8)}(h:Row w b 9 (txC l)):Lies w w.heap.size (some ⟨b,0,none⟩) (txL l):=
 lies_of_row h (txC_list l)
/-- A list behind its first element. -/
theorem lies_tail {w:World}{g o c:Nat}{x:List UInt8}{l:List (List UInt8)}(h:Lies w w.heap.size (some ⟨g,o,none⟩) (txL (x::l)))(hc:(x::l).length≤c):Lies w w.heap.size (if c=1 then some ⟨g,o,none⟩else some ⟨g,o+1,none⟩) (txL l)∧l.length≤c - 1:=by
 rw[List.length_cons]at hc;refine⟨fun hp=> ?_,by omega⟩;have hl:0 < l.length:=by simpa using hp
 obtain⟨b,o',e,hb,hcx⟩:=h (by simp);injection e with e
 injection e with e1 e2
 subst e1 e2;refine⟨g,o+1,if_neg (by omega),hb,fun j u hu=> ?_⟩;rw[Nat.add_assoc,Nat.add_comm 1 j];exact hcx (j+1) u hu
end Go.Proofs.YtoadlafdeoklbaaDoor
